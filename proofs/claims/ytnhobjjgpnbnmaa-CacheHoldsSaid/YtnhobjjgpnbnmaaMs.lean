/- Walks: the document's low mark raised. -/
import Derived.Test.YtnhobjjgpnbnmaaMq
namespace Go.Proofs.Ytnhobjjgpnbnmaa
open Go.RowKit Go.St
set_option linter.unusedVariables false
set_option linter.unusedSimpArgs false
set_option maxRecDepth 100000

/-- A stamp in a block. -/
structure SpB (W : World) (p : Nat) (a : Stp) : Prop where
  lt : p < W.heap.size
  a0 : W.cell? ⟨p, 0, none⟩ = some (.int .i64 a.wall)
  a1 : W.cell? ⟨p, 1, none⟩ = some (.int .i32 a.logic)
  a2 : W.cell? ⟨p, 2, none⟩ = some (.int .i32 a.tag)
theorem SpB.next {W W' : World} {p : Nat} {a : Stp} (h : SpB W p a) (hb : Below W.heap.size W W') : SpB W' p a :=
  ⟨Nat.lt_of_lt_of_le h.lt hb.size, (hb.cell (p := ⟨p, 0, none⟩) h.lt).trans h.a0, (hb.cell (p := ⟨p, 1, none⟩) h.lt).trans h.a1, (hb.cell (p := ⟨p, 2, none⟩) h.lt).trans h.a2⟩
theorem spb_new (W : World) (a : Stp) (t : TypeId) : SpB (W.alloc (.cells #[.int .i64 a.wall, .int .i32 a.logic, .int .i32 a.tag] t)) W.heap.size a := by
  have q := fun i => World.cell?_alloc_mark W #[.int .i64 a.wall, .int .i32 a.logic, .int .i32 a.tag] t (0, 0) i
  exact ⟨by simp, q 0, q 1, q 2⟩
theorem drop_take (s : Stp) (l : List Mk) (j : Nat) (m : Mk) (h : l[j]? = some m) : dropL s (l.take (j + 1)) = if less s m.a then dropL s (l.take j) ++ [m] else dropL s (l.take j) := by
  unfold dropL
  rw [List.take_add_one, h, List.filter_append]
  cases hx : less s m.a <;> simp [hx]
theorem rraise_no {W : World} {base b : Nat} {v : Value} {s : Stp} {l : List Mk} (h : CaB 74 W base b v s l) (a : Stp) (hc : chk a ≠ 0) : Calls Try.prog 22 #[.pointer (some ⟨b, 0, none⟩), .agg #[.int .i64 a.wall, .int .i32 a.logic, .int .i32 a.tag]] W fun e w' => e = .returned (.int .i64 (chk a)) ∧ Below W.heap.size W w' := by
  have HN := Lib.hid (fun X (k : Below W.heap.size W X) => rnone_any (h.next k))
  have HK := Lib.hid (fun X => rcheck_any a X)
  generalize chk a = E at *
  have e1 : (E == 0) = false := by simpa using hc
  clear h
  go_enter Try.func22, Try.ntmps22
  go_wp2_with fail
  refine (HN.out _ (by go_grown)).mono ?_
  rintro e w' ⟨rfl, rfl⟩
  have BX := spb_new W a 23
  have B2 : Below W.heap.size W (W.alloc (.cells #[.int .i64 a.wall, .int .i32 a.logic, .int .i32 a.tag] 23)) := by go_grown
  generalize hw2 : (W.alloc (.cells #[.int .i64 a.wall, .int .i32 a.logic, .int .i32 a.tag] 23)) = w2 at *
  clear hw2 HN
  obtain ⟨b0, b1, b2, b3⟩ := BX
  have BX := Lib.hid (⟨b0, b1, b2, b3⟩ : SpB w2 W.heap.size a); have B2 := Lib.hid B2
  go_wp2_with fail
  refine (HK.out w2).mono ?_
  rintro e w1 ⟨rfl, hb⟩
  have BX1 := Lib.hid (BX.out.next hb)
  have B1 : Hid (Below W.heap.size W w1) := Lib.hid (B2.out.trans (hb.mono B2.out.size))
  clear hb BX B2 b0 b1 b2 b3 HK
  go_wp2_with fail
  go_ret
  exact ⟨rfl, B1.out⟩
set_option maxHeartbeats 3200000 in
theorem rraise_ok {W : World} {base b : Nat} {v : Value} {s : Stp} {l : List Mk} (h : CaB 74 W base b v s l) (a : Stp) (hc : chk a = 0) : Calls Try.prog 22 #[.pointer (some ⟨b, 0, none⟩), .agg #[.int .i64 a.wall, .int .i32 a.logic, .int .i32 a.tag]] W fun e w' => e = .returned (.int .i64 0) ∧ RdP 74 base b v.ownBlock (maxS s a) (dropL (maxS s a) l) W w' := by
  have HN := Lib.hid (fun X (k : Below W.heap.size W X) => rnone_any (h.next k))
  have HK := Lib.hid (fun X => rcheck_any a X)
  have HM := Lib.hid (fun X => rmax_any s a X)
  rw [hc] at HK
  have hlen := h.len
  obtain ⟨n, hn⟩ : ∃ n, l.length = n := ⟨_, rfl⟩
  obtain ⟨A, c, hv, hnc, hcm, -⟩ := h.row
  subst hv
  rw [hn] at h hlen ⊢
  have HL := Lib.hid hn
  clear hn hnc
  generalize maxS s a = s2 at *
  go_enter Try.func22, Try.ntmps22
  go_wp2_with fail
  refine (HN.out _ (by go_grown)).mono ?_
  rintro e w' ⟨rfl, rfl⟩
  have BX := spb_new W a 23
  have B2 : Below W.heap.size W (W.alloc (.cells #[.int .i64 a.wall, .int .i32 a.logic, .int .i32 a.tag] 23)) := by go_grown
  generalize hw2 : (W.alloc (.cells #[.int .i64 a.wall, .int .i32 a.logic, .int .i32 a.tag] 23)) = w2 at *
  clear hw2 HN
  obtain ⟨b0, b1, b2, b3⟩ := BX
  have BX := Lib.hid (⟨b0, b1, b2, b3⟩ : SpB w2 W.heap.size a); have B2 := Lib.hid B2
  go_wp2_with fail
  refine (HK.out w2).mono ?_
  rintro e w1 ⟨rfl, hb⟩
  have BX1 := Lib.hid (BX.out.next hb)
  have B1 : Hid (Below W.heap.size W w1) := Lib.hid (B2.out.trans (hb.mono B2.out.size))
  clear hb BX B2 b0 b1 b2 b3 HK
  have H1 := Lib.hid (h.next B1.out)
  have hbW : b < W.heap.size := h.lt
  have hbase : base ≤ W.heap.size := Nat.le_trans h.lo (Nat.le_of_lt h.lt)
  obtain ⟨b0, b1, b2, b3⟩ := BX1.out
  obtain ⟨d1, d2, d3⟩ := (⟨H1.out.c1, H1.out.c2, H1.out.c3⟩ : _ ∧ _ ∧ _)
  have dl := H1.out.lt
  have y0 : W.heap.size < w1.heap.size := by omega
  go_upto_region 6 with (fail)
  refine wp_qtail 7 (by kernel_rfl) (by kernel_rfl) ?_
  intro hcg
  simp only [List.take_succ_cons, List.take_zero, List.drop_succ_cons, List.drop_zero]
  repeat (first | go_big_quiet_step ((with_reducible (first | exact Calls.reg (HM.out _)))) | quiet_step ((with_reducible (first | exact Calls.reg (HM.out _)))))
  refine wpQuiet_nil ?_
  intro w3 hbw3 hcw3 hfw3
  clear hcg
  have H3 := Lib.hid (H1.out.next hbw3)
  have F3 : Hid (Fr b (Value.slice A n c).ownBlock W w3) := Lib.hid (Fr.of_below (B1.out.trans (hbw3.mono B1.out.size)))
  clear b0 b1 b2 b3 d1 d2 d3 hbw3 hcw3 hfw3 H1 BX1 HM B1 dl y0 h
  obtain ⟨d1, d2, d3⟩ := (⟨H3.out.c1, H3.out.c2, H3.out.c3⟩ : _ ∧ _ ∧ _)
  have df := H3.out.fz
  go_upto_region 7 with (fail)
  have H4 := Lib.hid (H3.out.setL s2)
  have F4 := Lib.hid (setL_fr F3.out s2)
  unfold setL at H4 F4
  generalize hw4 : ((w3.setCell ⟨b, 1, none⟩ (.int .i64 s2.wall)).setCell ⟨b, 2, none⟩ (.int .i32 s2.logic)).setCell ⟨b, 3, none⟩ (.int .i32 s2.tag) = w4 at *
  clear hw4 d1 d2 d3 df H3 F3
  have hW4 : W.heap.size ≤ w4.heap.size := F4.out.size
  go_wp2_with fail
  go_loopw [6, 7] (fun s6 s7 wr => ∃ (k : Nat) (v6 : Value), k ≤ n ∧ s7 = .int .i64 k ∧ s6 = v6 ∧ Hid (wr.ownsRow base 74 7 v6 (dropL s2 (l.take k)).length (mv (dropL s2 (l.take k)))) ∧ Hid (∀ g, v6.ownBlock = some g → w4.heap.size ≤ g) ∧ Hid (Below w4.heap.size w4 wr)) (fun _ s7 _ => n - (intOf s7).toNat)
  case atStart => exact ⟨0, _, Nat.zero_le _, rfl, rfl, Lib.hid ⟨rfl, .inl ⟨rfl, rfl⟩⟩, Lib.hid (fun g e => by cases e), Lib.hid (Below.refl _ _)⟩
  case round =>
    obtain ⟨k, v6, hk, rfl, hs6, own, hv6, Q⟩ := hrel
    rw [hs6]
    have H5 := Lib.hid (H4.out.next Q.out)
    have c4n := H5.out.c4
    have bl5 := H5.out.lt
    have hqs := Q.out.size
    by_cases hlt : k < n
    · skip
      have hkl : k < l.length := by rw [HL.out]; exact hlt
      have hst := drop_take s2 l k l[k] (List.getElem?_eq_getElem hkl)
      obtain ⟨g, off, hA, hgl, M⟩ := mk_at (show Rd wr wr.heap.size A (mv l) by
        obtain ⟨A', c', e, _, _, hr⟩ := H5.out.row
        injection e with e1 e2 e3
        subst e1
        exact hr) k l[k] (List.getElem?_eq_getElem hkl)
      subst hA
      have hdl : (dropL s2 (l.take k)).length ≤ 1025 := Nat.le_trans (drop_len _ _) (by simp; omega)
      generalize l[k] = m at *
      obtain ⟨c0, c1, c2, c3, c4, c5, c6⟩ := M
      obtain ⟨d1, d2, d3⟩ := (⟨H5.out.c1, H5.out.c2, H5.out.c3⟩ : _ ∧ _ ∧ _)
      have HLS := Lib.hid (fun X => rless_any s2 m.a X)
      obtain ⟨nx, hnx⟩ : ∃ x, x = dropL s2 (l.take (k + 1)) := ⟨_, rfl⟩
      rw [← hnx] at hst
      have HNX := Lib.hid hnx
      clear hnx
      generalize dropL s2 (l.take k) = pv at *
      have i1 : (k : Int) < (n : Int) := by omega
      have i0 : (0 : Int) ≤ (k : Int) := by omega
      go_upto_region 11 with (fail)
      cases hD : less s2 m.a
      · skip
        rw [hD] at HLS hst
        simp only [Bool.false_eq_true, if_false] at hst
        clear hD
        refine wp_qall (by kernel_rfl) (by kernel_rfl) ?_
        intro hcg
        repeat (first | go_big_quiet_step ((with_reducible (first | exact Calls.reg (HLS.out _)))) | quiet_step ((with_reducible (first | exact Calls.reg (HLS.out _)))))
        refine wpQuiet_nil ?_
        intro wq hbwq hcwq hfwq
        clear hcg
        have Q2 := Lib.hid (Q.out.trans (hbwq.mono hqs))
        have O2 := Lib.hid (own_keep own.out hbwq (Nat.le_refl _))
        clear c0 c1 c2 c3 c4 c5 c6 d1 d2 d3 hbwq hcwq hfwq HLS c4n
        go_wp2_with fail
        go_roundw
        case rel => exact ⟨k + 1, v6, by omega, by go_num, rfl, by rw [← HNX.out, hst]; exact O2, hv6, Q2⟩
        case measure => simp [intOf]; omega
      · skip
        rw [hD] at HLS hst
        simp only [if_true] at hst
        clear hD
        refine wp_qall (by kernel_rfl) (by kernel_rfl) ?_
        intro hcg
        repeat (first | go_big_quiet_step ((with_reducible (first | exact Calls.reg (HLS.out _)))) | quiet_step ((with_reducible (first | exact Calls.reg (HLS.out _)))))
        refine wpQuiet_nil ?_
        intro wq hbwq hcwq hfwq
        clear hcg
        have Q2 := Lib.hid (Q.out.trans (hbwq.mono hqs))
        have O2 := Lib.hid (own_keep own.out hbwq (Nat.le_refl _))
        have H6 := Lib.hid (H5.out.next hbwq)
        have M2 : MkI wq g (off + k * 7) m := ⟨(hcwq _ _ hgl).trans c0, (hcwq _ _ hgl).trans c1, (hcwq _ _ hgl).trans c2, (hcwq _ _ hgl).trans c3, (hcwq _ _ hgl).trans c4, (hcwq _ _ hgl).trans c5, (hcwq _ _ hgl).trans c6⟩
        have hgq : g < wq.heap.size := Nat.lt_of_lt_of_le hgl hbwq.size
        clear c0 c1 c2 c3 c4 c5 c6 d1 d2 d3 hbwq hcwq hfwq HLS c4n
        obtain ⟨c0, c1, c2, c3, c4, c5, c6⟩ := M2
        have c4n := H6.out.c4
        have bl6 := H6.out.lt
        have hb2 : base ≤ wq.heap.size + 1 := by have := Q2.out.size; omega
        have ba : Below wq.heap.size wq (wq.alloc (.cells #[.string m.f, .string m.t, .int .i64 m.a.wall, .int .i32 m.a.logic, .int .i32 m.a.tag, .int .i32 m.nd, .int .i32 m.nu] 74)) := (Below.refl _ _).alloc (Nat.le_refl _) _
        have O3 := Lib.hid (own_keep O2.out ba (Nat.le_refl _))
        have HM3 : Hid (Rd (wq.alloc (.cells #[.string m.f, .string m.t, .int .i64 m.a.wall, .int .i32 m.a.logic, .int .i32 m.a.tag, .int .i32 m.nd, .int .i32 m.nu] 74)) (wq.heap.size + 1) (some ⟨wq.heap.size, 0, none⟩) (mkCells m)) := Lib.hid (fun _ => ⟨wq.heap.size, 0, rfl, by omega, fun j u hu => by rw [World.cell?_alloc_mark]; simpa [mkCells] using hu⟩)
        have HQ3 := Lib.hid (Q2.out.trans (ba.mono Q2.out.size))
        clear ba
        go_wp2_with (
          at_builtin
          refine wpList_app styR (.tmp 46) (.tmp 54) rfl rfl base O3.out rfl 1 1 HM3.out rfl rfl (by intro u hu; simp [mkCells] at hu; rcases hu with rfl | rfl | rfl | rfl | rfl | rfl | rfl <;> rfl) (by unfold maxLen; omega) (by omega) (by simp; omega) ?_
          intro v7 w7 own7 gr7 nil7 at7
          have O7 : Hid (w7.ownsRow base 74 7 v7 nx.length (mv nx)) := Lib.hid (by rw [hst, mv_append]; exact own_eq own7 (by simp) (by simp [mv]))
          have Q7 : Hid (Below w4.heap.size w4 w7) := Lib.hid (HQ3.out.grown gr7 HQ3.out.size (fun j e => hv6.out j e))
          have hv7 : Hid (∀ j, v7.ownBlock = some j → w4.heap.size ≤ j) := Lib.hid (fun j e => by
            rcases at7 with h | h
            · rw [h] at e; exact hv6.out j e
            · rw [h] at e; injection e with e; subst e; exact HQ3.out.size)
          clear own7 gr7 nil7 at7)
        go_roundw
        case rel => exact ⟨k + 1, v7, by omega, by go_num, rfl, by rw [← HNX.out]; exact O7, hv7, Q7⟩
        case measure => simp [intOf]; omega
    · skip
      have hkn : k = n := by omega
      subst hkn
      have i9 : ¬ ((k : Int) < (k : Int)) := by omega
      have hfin : l.take k = l := by rw [← HL.out]; exact List.take_length
      rw [hfin] at own
      have F5 := Lib.hid (F4.out.below Q.out)
      have fzb := H5.out.fz 4
      have hv : ∀ j, v6.ownBlock = some j → W.heap.size ≤ j := fun j e => Nat.le_trans hW4 (hv6.out j e)
      have HF := Lib.hid (F5.out.setCell (p := ⟨b, 4, none⟩) (.inl rfl) v6)
      have HC := Lib.hid (H5.out.setV (Nat.le_refl _) (fun _ => rfl) (fun _ => rfl) own.out (fun e => by have := hv b e; omega) (Nat.le_trans (drop_len _ _) (by have := HL.out; omega)))
      have HV := Lib.hid hv
      clear hv hv6 own F5
      obtain ⟨A2, c2, rfl, -, -, -⟩ := HC.out.row
      go_wp2_with fail
      go_ret
      exact ⟨rfl, HF.out, _, HC.out, .inr HV.out⟩
end Go.Proofs.Ytnhobjjgpnbnmaa
