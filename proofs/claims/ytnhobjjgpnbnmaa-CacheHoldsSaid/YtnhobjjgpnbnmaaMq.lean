/- Walks: the document's read kept in a full cache. -/
import Derived.Test.YtnhobjjgpnbnmaaMp
namespace Go.Proofs.Ytnhobjjgpnbnmaa
open Go.RowKit Go.St
set_option linter.unusedVariables false
set_option linter.unusedSimpArgs false
set_option maxRecDepth 100000

theorem minI_all (l : List Mk) (d : Mk) (k : Nat) (hk : k < l.length) : minI (l.take k) < l.length ∧ minI (l.take (k + 1)) = if less l[k].a (l.getD (minI (l.take k)) d).a then k else minI (l.take k) := by
  cases k with
  | zero =>
    have h1 := minI_one l hk
    have h0 : minI (l.take 0) = 0 := rfl
    rw [h0, h1]
    refine ⟨hk, ?_⟩
    have : l.getD 0 d = l[0] := by simp [List.getD, hk]
    rw [this, less_irrefl]
    rfl
  | succ k =>
    have hlen : (l.take (k + 1)).length = k + 1 := by simp; omega
    have hlt : minI (l.take (k + 1)) < k + 1 := by
      have := minI_lt (l.take (k + 1)) (by intro e; rw [e] at hlen; simp at hlen)
      omega
    refine ⟨by omega, ?_⟩
    rw [minI_step l d (k + 1) (by omega) hk, minK_at d (by omega)]
    simp only [List.getElem_take]
    have : l.getD (minI (l.take (k + 1))) d = l[minI (l.take (k + 1))] := by simp [List.getD, show minI (l.take (k + 1)) < l.length by omega]
    rw [this]
set_option maxHeartbeats 3200000 in
theorem rread_overX {W : World} {base b : Nat} {v : Value} {s : Stp} {l : List Mk} (h : CaB 74 W base b v s l) (m : Mk) (hc : chk m.a = 0) (he : sEmp m.f m.t = false) (hl : less s m.a = true) (hn : l.length = 1024) (x y : List Mk) (q : Mk) (hL : l ++ [m] = x ++ q :: y) (hK : minI (l ++ [m]) = x.length) (hno : ∀ (j : Nat) (z : Mk), j < x.length → (l ++ [m])[j]? = some z → z.a ≠ q.a) : Calls Try.prog 21 #[.pointer (some ⟨b, 0, none⟩), .agg #[.string m.f, .string m.t], .agg #[.int .i64 m.a.wall, .int .i32 m.a.logic, .int .i32 m.a.tag], .agg #[.int .i32 m.nd, .int .i32 m.nu]] W fun e w' => e = .returned (.int .i64 0) ∧ RdP 74 base b v.ownBlock (maxS s q.a) (x ++ y) W w' := by
  have HN := Lib.hid (fun X (k : Below W.heap.size W X) => rnone_any (h.next k))
  have HK := Lib.hid (fun X => rcheck_any m.a X)
  have HE := Lib.hid (fun X => rempty_any m.f m.t X)
  have HL := Lib.hid (fun X => rless_any s m.a X)
  rw [he] at HE
  rw [hc] at HK
  obtain ⟨i, hi⟩ : ∃ i, x.length = i := ⟨_, rfl⟩
  obtain ⟨t, ht⟩ : ∃ t, y.length = t := ⟨_, rfl⟩
  have hlen : (l ++ [m]).length = i + t + 1 := by rw [hL]; simp; omega
  have hl25 : i + t + 1 = 1025 := by rw [← hlen]; simp; omega
  have HLN := Lib.hid hlen
  obtain ⟨L, hLd⟩ : ∃ L, L = l ++ [m] := ⟨_, rfl⟩
  have HLD := Lib.hid hLd
  rw [← hLd] at hL hK hno hlen
  rw [hi] at hno hK
  have HXI : Hid (L[i]? = some q) := Lib.hid (by rw [hL, ← hi]; simp)
  have HL2 := Lib.hid hL; have HKK := Lib.hid hK; have HNO := Lib.hid hno; have HL3 := Lib.hid hlen
  have HIX := Lib.hid hi; have HTY := Lib.hid ht
  have HMX := Lib.hid (fun X => rmax_any s q.a X)
  have hn9 : l.length < 1025 := by omega
  have HL25 := Lib.hid hl25
  generalize maxS s q.a = s2 at *
  clear hL hK hno hlen hLd hi ht hn hl25
  rw [hl] at HL
  go_enter Try.func21, Try.ntmps21
  go_wp2_with fail
  refine (HN.out _ (by go_grown)).mono ?_
  rintro e w' ⟨rfl, rfl⟩
  have BX := boxr_new W m
  have B3 : Below W.heap.size W (((W.alloc (.cells #[.string m.f, .string m.t] 33)).alloc (.cells #[.int .i64 m.a.wall, .int .i32 m.a.logic, .int .i32 m.a.tag] 23)).alloc (.cells #[.int .i32 m.nd, .int .i32 m.nu] 35)) := by go_grown
  generalize hw3 : ((W.alloc (.cells #[.string m.f, .string m.t] 33)).alloc (.cells #[.int .i64 m.a.wall, .int .i32 m.a.logic, .int .i32 m.a.tag] 23)).alloc (.cells #[.int .i32 m.nd, .int .i32 m.nu] 35) = W3 at *
  clear hw3 HN
  have z0 : W.heap.size ≠ W3.heap.size := by have := BX.lt; omega
  have BX := Lib.hid BX; have B3 := Lib.hid B3
  obtain ⟨b0, b1, b2, b3, b4, b5, b6, b7⟩ := BX.out
  go_wp2_with fail
  refine (HK.out W3).mono ?_
  rintro e w1 ⟨rfl, hb⟩
  have BX1 := Lib.hid (BX.out.next hb)
  have B1 : Hid (Below W.heap.size W w1) := Lib.hid (B3.out.trans (hb.mono B3.out.size))
  have y0 : W.heap.size < w1.heap.size := by have := BX1.out.lt; omega
  have y1 : W.heap.size + 1 < w1.heap.size := by have := BX1.out.lt; omega
  have y2 : W.heap.size + 1 + 1 < w1.heap.size := by have := BX1.out.lt; omega
  clear hb BX B3 b0 b1 b2 b3 b4 b5 b6 b7 HK z0
  have H1 := h.next B1.out
  obtain ⟨b0, b1, b2, b3, b4, b5, b6, b7⟩ := BX1.out
  obtain ⟨d1, d2, d3⟩ := (⟨H1.c1, H1.c2, H1.c3⟩ : _ ∧ _ ∧ _)
  have dl := H1.lt
  have H1 := Lib.hid H1
  go_wp2_with fail
  refine wp_qall (by kernel_rfl) (by kernel_rfl) ?_
  intro hcg
  repeat (first | go_big_quiet_step ((with_reducible (first | exact Calls.reg (HE.out _) | exact Calls.reg (HL.out _)))) | quiet_step ((with_reducible (first | exact Calls.reg (HE.out _) | exact Calls.reg (HL.out _)))))
  refine wpQuiet_nil ?_
  intro wq hbwq hcwq hfwq
  clear hcg
  clear b0 b1 b2 b3 b4 b5 b6 b7 d1 d2 d3 dl HE HL
  have H2 := Lib.hid (H1.out.next hbwq)
  have BX2 := Lib.hid (BX1.out.next hbwq)
  have B2 : Hid (Below W.heap.size W wq) := Lib.hid (B1.out.trans (hbwq.mono B1.out.size))
  clear hbwq hcwq hfwq H1 BX1 B1 y0 y1 y2
  go_upto_region 8 with (fail)
  have hgp : ∀ g, v.ownBlock = some g → g < W.heap.size := fun g e => (h.own.lt g e).2
  have bW := h.lt
  refine wp_heldcut (S := fun X => ApS X W.heap.size b m v) 11 (by kernel_rfl) (by kernel_rfl) (ApS.next ⟨BX2.out, H2.out.lt, H2.out.c4⟩ (Below.drew (Below.refl _ _))) (fun hHeld => ?_)
  simp only [List.take_succ_cons, List.take_zero]
  refine takeL (i := 0) (v := ?_) rfl (by kernel_rfl) (by kernel_rfl) (by kernel_rfl) (fun _ _ _ h => h) ⟨by rfl, ?_⟩ (by assumption) ?_
  rotate_left
  · intro W9 hSw
    (try dsimp only at hSw)
    go_simp
    try with_reducible rfl
  (try simp only [Act.put, List.setIfInBounds_toArray, List.set_cons_zero, List.set_cons_succ])
  refine takeL (i := 1) (v := ?_) rfl (by kernel_rfl) (by kernel_rfl) (by kernel_rfl) (fun _ _ _ h => h) ⟨by rfl, ?_⟩ (by assumption) ?_
  rotate_left
  · intro W9 hSw
    (try dsimp only at hSw)
    go_simp
    try with_reducible rfl
  (try simp only [Act.put, List.setIfInBounds_toArray, List.set_cons_zero, List.set_cons_succ])
  refine takeL (i := 2) (v := ?_) rfl (by kernel_rfl) (by kernel_rfl) (by kernel_rfl) (fun _ _ _ h => h) ⟨by rfl, ?_⟩ (by assumption) ?_
  rotate_left
  · intro W9 hSw
    (try dsimp only at hSw)
    go_simp
    try with_reducible rfl
  (try simp only [Act.put, List.setIfInBounds_toArray, List.set_cons_zero, List.set_cons_succ])
  refine takeL (i := 3) (v := ?_) rfl (by kernel_rfl) (by kernel_rfl) (by kernel_rfl) (fun _ _ _ h => h) ⟨by rfl, ?_⟩ (by assumption) ?_
  rotate_left
  · intro W9 hSw
    (try dsimp only at hSw)
    go_simp
    try with_reducible rfl
  (try simp only [Act.put, List.setIfInBounds_toArray, List.set_cons_zero, List.set_cons_succ])
  refine takeL (i := 4) (v := ?_) rfl (by kernel_rfl) (by kernel_rfl) (by kernel_rfl) (fun _ _ _ h => h) ⟨by rfl, ?_⟩ (by assumption) ?_
  rotate_left
  · intro W9 hSw
    (try dsimp only at hSw)
    obtain ⟨⟨z0, z1, z2, z3, z4, z5, z6, z7⟩, y1, y2⟩ := hSw
    go_simp
    try with_reducible rfl
  (try simp only [Act.put, List.setIfInBounds_toArray, List.set_cons_zero, List.set_cons_succ])
  refine takeL (i := 5) (v := ?_) rfl (by kernel_rfl) (by kernel_rfl) (by kernel_rfl) (fun _ _ _ h => h) ⟨by rfl, ?_⟩ (by assumption) ?_
  rotate_left
  · intro W9 hSw
    (try dsimp only at hSw)
    obtain ⟨⟨z0, z1, z2, z3, z4, z5, z6, z7⟩, y1, y2⟩ := hSw
    go_simp
    try with_reducible rfl
  (try simp only [Act.put, List.setIfInBounds_toArray, List.set_cons_zero, List.set_cons_succ])
  refine takeL (i := 6) (v := ?_) rfl (by kernel_rfl) (by kernel_rfl) (by kernel_rfl) (fun _ _ _ h => h) ⟨by rfl, ?_⟩ (by assumption) ?_
  rotate_left
  · intro W9 hSw
    (try dsimp only at hSw)
    obtain ⟨⟨z0, z1, z2, z3, z4, z5, z6, z7⟩, y1, y2⟩ := hSw
    go_simp
    try with_reducible rfl
  (try simp only [Act.put, List.setIfInBounds_toArray, List.set_cons_zero, List.set_cons_succ])
  refine takeL (i := 7) (v := ?_) rfl (by kernel_rfl) (by kernel_rfl) (by kernel_rfl) (fun _ _ _ h => h) ⟨by rfl, ?_⟩ (by assumption) ?_
  rotate_left
  · intro W9 hSw
    (try dsimp only at hSw)
    obtain ⟨⟨z0, z1, z2, z3, z4, z5, z6, z7⟩, y1, y2⟩ := hSw
    go_simp
    try with_reducible rfl
  (try simp only [Act.put, List.setIfInBounds_toArray, List.set_cons_zero, List.set_cons_succ])
  refine takeL (i := 8) (v := ?_) rfl (by kernel_rfl) (by kernel_rfl) (by kernel_rfl) (fun _ _ _ h => h) ⟨by rfl, ?_⟩ (by assumption) ?_
  rotate_left
  · intro W9 hSw
    (try dsimp only at hSw)
    go_simp
    try with_reducible rfl
  (try simp only [Act.put, List.setIfInBounds_toArray, List.set_cons_zero, List.set_cons_succ])
  have kX : Below wq.heap.size wq wq.drew := Below.drew (Below.refl _ _)
  have hX := hHeld
  clear hHeld
  generalize wq.drew = X at *
  refine wpAnyH_ready (rs := [9]) (by kernel_rfl) (by simp) ?_
  refine consL rfl (by rfl) (fun K hK => ?_) ?_
  · go_simp
    have kx2 : Below X.heap.size X (X.alloc (.cells #[.string m.f, .string m.t, .int .i64 m.a.wall, .int .i32 m.a.logic, .int .i32 m.a.tag, .int .i32 m.nd, .int .i32 m.nu] 74)) := (Below.refl _ _).alloc (Nat.le_refl _) _
    refine hK.out _ _ (hX.next kx2) (fun hX' => ?_)
    clear hK K
    have HM : Hid (Rd (X.alloc (.cells #[.string m.f, .string m.t, .int .i64 m.a.wall, .int .i32 m.a.logic, .int .i32 m.a.tag, .int .i32 m.nd, .int .i32 m.nu] 74)) (X.heap.size + 1) (some ⟨X.heap.size, 0, none⟩) (mkCells m)) := Lib.hid (fun _ => ⟨X.heap.size, 0, rfl, by omega, fun i u hu => by rw [World.cell?_alloc_mark]; simpa [mkCells] using hu⟩)
    have k2 : Below wq.heap.size wq (X.alloc (.cells #[.string m.f, .string m.t, .int .i64 m.a.wall, .int .i32 m.a.logic, .int .i32 m.a.tag, .int .i32 m.nd, .int .i32 m.nu] 74)) := kX.trans (kx2.mono kX.size)
    clear kx2 hX kX
    generalize hX9 : X.alloc (.cells #[.string m.f, .string m.t, .int .i64 m.a.wall, .int .i32 m.a.logic, .int .i32 m.a.tag, .int .i32 m.nd, .int .i32 m.nu] 74) = X2 at *
    generalize hX8 : X.heap.size = nb at *
    clear hX9 hX8 X
    obtain ⟨X, rfl⟩ : ∃ x, x = X2 := ⟨_, rfl⟩
    have H3 := Lib.hid (H2.out.next k2)
    refine wpAnyH_ready (rs := [10]) (by kernel_rfl) (by simp) ?_
    refine consL rfl (by rfl) (fun K hK => ?_) ?_
    · refine wp_app styR (.tmp 35) (.tmp 40) rfl base H3.out.own rfl 1 1 HM.out rfl rfl (by intro u hu; simp [mkCells] at hu; rcases hu with rfl | rfl | rfl | rfl | rfl | rfl | rfl <;> rfl) (by unfold maxLen; omega) (by omega) (Nat.le_trans H3.out.lo (Nat.le_of_lt H3.out.lt)) ?_
      intro v2 w2 own2 gr2 nil2 at2
      have hv2 : v2.ownBlock = v.ownBlock ∨ ∀ g, v2.ownBlock = some g → W.heap.size ≤ g := by
        rcases at2 with e | e
        · exact .inl e
        · refine .inr (fun g e2 => ?_)
          rw [e] at e2
          have h1 := B2.out.size
          have h2 := k2.size
          simp at e2
          omega
      have hfr : Hid (Fr b v.ownBlock W w2) := Lib.hid ((Fr.of_below (B2.out.trans (k2.mono B2.out.size))).grown gr2 (.inl rfl))
      refine hK.out _ _ (hX'.grown gr2 H3.out.ne (fun g e => .inl (hgp g e))) (fun hX2 => ?_)
      have HC : Hid (CaB 74 (w2.setCell ⟨b, 4, none⟩ v2) base b v2 s (l ++ [m])) := Lib.hid (H3.out.put gr2 (by rw [mv_append]; exact own_eq own2 rfl (by simp [mv])) at2 hn9)
      have hfx : w2.frozen? ⟨b, 4, none⟩ = false := (World.grownBy.frozen_far gr2 ⟨b, 4, none⟩ H3.out.lt (fun e => H3.out.ne e.symm)).trans (H3.out.fz 4)
      have hcx := hX2.c4
      have hlx := hX2.lb
      clear hK K gr2 nil2 at2 own2 hX' hX2 HM k2 H3 H2 BX2
      refine wpAnyH_done (by kernel_rfl) ?_ _
      simp only [tailPost, List.drop_succ_cons, List.drop_zero]
      have hfr2 : Hid (Fr b v.ownBlock W (w2.setCell ⟨b, 4, none⟩ v2)) := Lib.hid (hfr.out.setCell (p := ⟨b, 4, none⟩) (.inl rfl) _)
      obtain ⟨g, c2, hv9, hg1, hg2⟩ := HC.out.own.form (by simp)
      rw [HLN.out] at hv9
      subst hv9
      rw [← HLD.out] at HC
      have i1 : ¬ (((i + t + 1 : Nat) : Int) ≤ (1024 : Int)) := by have := HL25.out; omega
      have i2 : ¬ ((i : Int) + (t : Int) + 1 ≤ (1024 : Int)) := by have := HL25.out; omega
      have hgb : g ≠ b := fun e => HC.out.ne (by rw [e]; rfl)
      go_upto_region 11 with (fail)
      clear hcx hfx hlx i1 i2
      generalize hw6 : w2.setCell ⟨b, 4, none⟩ (.slice (some ⟨g, 0, none⟩) (i + t + 1) c2) = w6 at *
      clear hw6 hfr
      have OW6 : Hid (w6.ownsRow base 74 7 (.slice (some ⟨g, 0, none⟩) (i + t + 1) c2) (i + t + 1) (mv L)) := Lib.hid (own_eq HC.out.own HL3.out rfl)
      have glt : g < w6.heap.size := (OW6.out.lt g rfl).2
      obtain ⟨hnc, hcm⟩ := own_capLe OW6.out
      have hW6 : W.heap.size ≤ w6.heap.size := hfr2.out.size
      go_wp2_with fail
      go_loopw [10, 11] (fun s10 s11 wr => ∃ k : Nat, k ≤ i + t + 1 ∧ s11 = .int .i64 k ∧ s10 = .int .i64 (minI (L.take k)) ∧ Hid (Below w6.heap.size w6 wr)) (fun _ s11 _ => i + t + 1 - (intOf s11).toNat)
      case atStart => exact ⟨0, Nat.zero_le _, rfl, rfl, Lib.hid (Below.refl _ _)⟩
      case round =>
        obtain ⟨k, hk, rfl, rfl, Q⟩ := hrel
        have HC7 := Lib.hid (HC.out.next Q.out)
        have OW7 := Lib.hid (own_keep OW6.out Q.out (Nat.le_refl _))
        have c4n := HC7.out.c4
        have bl7 := HC7.out.lt
        have gl7 : g < wr.heap.size := Nat.lt_of_lt_of_le glt Q.out.size
        have hqs := Q.out.size
        by_cases hlt : k < i + t + 1
        · have hkl : k < L.length := by rw [HL3.out]; exact hlt
          obtain ⟨hml, hst⟩ := minI_all L m k hkl
          obtain ⟨c0, c1, c2', c3, c4, c5, c6⟩ := own_mk OW7.out k L[k] (List.getElem?_eq_getElem hkl)
          have hgd : L.getD (minI (L.take k)) m = L[minI (L.take k)] := by simp [List.getD, hml]
          rw [hgd] at hst
          obtain ⟨d0, d1, d2, d3, d4, d5, d6⟩ := own_mk OW7.out (minI (L.take k)) L[minI (L.take k)] (List.getElem?_eq_getElem hml)
          rw [HL3.out] at hml
          have HLS := Lib.hid (fun X => rless_any L[k].a L[minI (L.take k)].a X)
          generalize L[minI (L.take k)] = best at *
          generalize L[k] = cur at *
          obtain ⟨nx, hnx⟩ : ∃ x, x = minI (L.take (k + 1)) := ⟨_, rfl⟩
          rw [← hnx] at hst
          have HNX := Lib.hid hnx
          clear hgd hnx
          generalize minI (L.take k) = bi at *
          have i1 : (k : Int) < ((i + t + 1 : Nat) : Int) := by omega
          have i1' : (k : Int) < (i : Int) + (t : Int) + 1 := by omega
          have i0 : (0 : Int) ≤ (k : Int) := by omega
          have j1 : (bi : Int) < ((i + t + 1 : Nat) : Int) := by omega
          have j1' : (bi : Int) < (i : Int) + (t : Int) + 1 := by omega
          have j0 : (0 : Int) ≤ (bi : Int) := by omega
          have k25 : k < 1025 := by have := HL25.out; omega
          go_upto_region 15 with (fail)
          cases hD : less cur.a best.a
          · rw [hD] at HLS hst
            simp only [Bool.false_eq_true, if_false] at hst
            clear hD
            refine wp_qall (by kernel_rfl) (by kernel_rfl) ?_
            intro hcg
            repeat (first | go_big_quiet_step ((with_reducible (first | exact Calls.reg (HLS.out _)))) | quiet_step ((with_reducible (first | exact Calls.reg (HLS.out _)))))
            refine wpQuiet_nil ?_
            intro wq hbwq hcwq hfwq
            clear hcg
            have Q2 := Lib.hid (Q.out.trans (hbwq.mono hqs))
            clear c0 c1 c2' c3 c4 c5 c6 d0 d1 d2 d3 d4 d5 d6 hbwq hcwq hfwq HLS c4n
            go_wp2_with fail
            go_roundw
            case rel => exact ⟨k + 1, by omega, by go_num, by rw [← HNX.out, hst], Q2⟩
            case measure => simp [intOf]; omega
          · rw [hD] at HLS hst
            simp only [if_true] at hst
            clear hD
            refine wp_qall (by kernel_rfl) (by kernel_rfl) ?_
            intro hcg
            repeat (first | go_big_quiet_step ((with_reducible (first | exact Calls.reg (HLS.out _)))) | quiet_step ((with_reducible (first | exact Calls.reg (HLS.out _)))))
            refine wpQuiet_nil ?_
            intro wq hbwq hcwq hfwq
            clear hcg
            have Q2 := Lib.hid (Q.out.trans (hbwq.mono hqs))
            clear c0 c1 c2' c3 c4 c5 c6 d0 d1 d2 d3 d4 d5 d6 hbwq hcwq hfwq HLS c4n
            go_wp2_with fail
            go_roundw
            case rel => exact ⟨k + 1, by omega, by go_num, by rw [← HNX.out, hst], Q2⟩
            case measure => simp [intOf]; omega
        · have hkn : k = i + t + 1 := by omega
          subst hkn
          have hfin : L.take (i + t + 1) = L := by rw [← HL3.out]; exact List.take_length
          rw [hfin, HKK.out]
          clear hfin
          have i9 : ¬ (((i + t + 1 : Nat) : Int) < ((i + t + 1 : Nat) : Int)) := by omega
          obtain ⟨w7, rfl⟩ : ∃ x, x = wr := ⟨_, rfl⟩
          have hf7 := Lib.hid (hfr2.out.below Q.out)
          have ow7 := OW7.out
          rw [HL2.out] at ow7
          have OX7 := Lib.hid ow7
          clear OW7 ow7 Q OW6 HC hfr2 hqs
          obtain ⟨e0, e1, e2, e3, e4, e5, e6⟩ := own_mk OX7.out i q (by rw [← HIX.out]; simp)
          obtain ⟨d1, d2, d3⟩ := (⟨HC7.out.c1, HC7.out.c2, HC7.out.c3⟩ : _ ∧ _ ∧ _)
          have i1 : (i : Int) < ((i + t + 1 : Nat) : Int) := by omega
          have i1' : (i : Int) < (i : Int) + (t : Int) + 1 := by omega
          have i0 : (0 : Int) ≤ (i : Int) := by omega
          go_upto_region 17 with (fail)
          refine wp_qtail 14 (by kernel_rfl) (by kernel_rfl) ?_
          intro hcg
          simp only [List.take_succ_cons, List.take_zero, List.drop_succ_cons, List.drop_zero]
          repeat (first | go_big_quiet_step ((with_reducible (first | exact Calls.reg (HMX.out _)))) | quiet_step ((with_reducible (first | exact Calls.reg (HMX.out _)))))
          refine wpQuiet_nil ?_
          intro w8 hbw8 hcw8 hfw8
          clear hcg
          have H8 := Lib.hid (HC7.out.next hbw8)
          have F8 := Lib.hid (hf7.out.below hbw8)
          have OX8 := Lib.hid (own_keep OX7.out hbw8 (Nat.le_refl _))
          clear e0 e1 e2 e3 e4 e5 e6 d1 d2 d3 hbw8 hcw8 hfw8 HC7 hf7 OX7 HMX c4n
          obtain ⟨d1, d2, d3⟩ := (⟨H8.out.c1, H8.out.c2, H8.out.c3⟩ : _ ∧ _ ∧ _)
          have df := H8.out.fz
          have H9 := Lib.hid (H8.out.setL s2)
          have F9 := Lib.hid (setL_fr F8.out s2)
          have O9 : Hid ((setL w8 b s2).ownsRow base 74 7 (.slice (some ⟨g, 0, none⟩) (i + t + 1) c2) (i + t + 1) (mv (x ++ q :: y))) := Lib.hid (by
            have h := H9.out.own
            rw [HL3.out, HL2.out] at h
            exact h)
          have c4n := H8.out.c4
          go_upto_region 18 with (fail)
          unfold setL at H9 F9 O9
          generalize hw9 : ((w8.setCell ⟨b, 1, none⟩ (.int .i64 s2.wall)).setCell ⟨b, 2, none⟩ (.int .i32 s2.logic)).setCell ⟨b, 3, none⟩ (.int .i32 s2.tag) = w9 at *
          clear hw9 d1 d2 d3 df H8 F8 OX8 c4n
          have c4n := H9.out.c4
          have bl9 := H9.out.lt
          have a5 : (i : Int) ≤ (c2 : Int) := by omega
          have a12 : i ≤ c2 := by omega
          have a7 : (i : Int) ≤ ((i + t + 1 : Nat) : Int) := by omega
          have a17 : (i : Int) ≤ (i : Int) + (t : Int) := by omega
          have a16 : (0 : Int) ≤ (i : Int) + 1 := by omega
          have a10 : ((i : Int) + 1).toNat = i + 1 := by omega
          have i25 : i < 1025 := by have := HL25.out; omega
          have t25 : t < 1025 := by have := HL25.out; omega
          have hrx : Rd w9 w9.heap.size (some ⟨g, 0, none⟩) (mv x) := by
            have h := (own_rdM O9.out).take (i * 7)
            rwa [← HIX.out, mv_mid] at h
          have HRX := Lib.hid hrx
          clear hrx
          go_upto_region 20 with (at_builtin; refine wpList_app styR (.tmp 93) (.tmp 99) rfl rfl base (World.ownsRow_nil _ _ _ _) rfl i c2 HRX.out rfl (by rw [mv_length, HIX.out]) (mv_one x) (by unfold maxLen; omega) (by omega) (Nat.le_trans H9.out.lo (Nat.le_of_lt bl9)) ?_; intro v3 w10 own3 gr3 nil3 at3)
          have b10 : Below w9.heap.size w9 w10 := (Below.refl _ _).grown gr3 (Nat.le_refl _) (by intro k hk; cases hk)
          have H10 := Lib.hid (H9.out.next b10)
          have F10 := Lib.hid (F9.out.below b10)
          have O10 := Lib.hid (own_keep O9.out b10 (Nat.le_refl _))
          have HW3 : Hid (w10.ownsRow base 74 7 v3 i (mv x)) := Lib.hid (own_eq own3 (Nat.zero_add i) (List.nil_append _))
          have hv3 : ∀ k, v3.ownBlock = some k → W.heap.size ≤ k ∧ k ≠ b ∧ k ≠ g := by
            intro k e
            have hws := F9.out.size
            rcases at3 with h | h
            · rw [h] at e; cases e
            · rw [h] at e; injection e with e; subst e
              have := (O9.out.lt g rfl).2
              refine ⟨hws, by omega, by omega⟩
          have HV3 := Lib.hid hv3
          clear own3 gr3 nil3 at3 hv3 b10 H9 F9 O9 HRX c4n bl9
          have c4n := H10.out.c4
          have bl10 := H10.out.lt
          have bb10 : base ≤ w10.heap.size := Nat.le_trans H10.out.lo (Nat.le_of_lt bl10)
          have hbc := fun k (h : w10.grownBy k v3.ownBlock) o => World.grownBy.cell_far h ⟨b, o, none⟩ bl10 (fun e => (HV3.out b e.symm).2.1 rfl)
          have hbz := fun k (h : w10.grownBy k v3.ownBlock) o => World.grownBy.frozen_far h ⟨b, o, none⟩ bl10 (fun e => (HV3.out b e.symm).2.1 rfl)
          have HBC := Lib.hid hbc; have HBZ := Lib.hid hbz
          clear hbc hbz
          by_cases hct : c2 = i + 1
          · skip
            obtain rfl : t = 0 := by omega
            obtain rfl : y = [] := List.eq_nil_of_length_eq_zero HTY.out
            subst hct
            go_wp2_with (
              at_builtin
              refine wpList_app styR (.tmp 102) (.tmp 109) rfl rfl base HW3.out rfl 0 0 (news := mv []) (Rd.nil (w := w10) (B := 0) (A := some ⟨g, 0, none⟩)) rfl (by rfl) (mv_one _) (by unfold maxLen; omega) (by omega) bb10 ?_
              intro v4 w11 own4 gr4 nil4 at4
              have own5 : w11.ownsRow base 74 7 v4 (x ++ []).length (mv (x ++ [])) := by
                rw [mv_append]; exact own_eq own4 (by rw [List.length_append, HIX.out]; rfl) rfl
              have hbc := HBC.out w11 gr4
              have hbz := HBZ.out w11 gr4
              have hv4 : ∀ k, v4.ownBlock = some k → W.heap.size ≤ k ∧ k ≠ b := by
                intro k e
                have hws := F10.out.size
                rcases at4 with h | h
                · rw [h] at e; exact ⟨(HV3.out k e).1, (HV3.out k e).2.1⟩
                · rw [h] at e; injection e with e; subst e
                  exact ⟨hws, by omega⟩
              have hlx : (x ++ []).length ≤ 1025 := by rw [List.length_append, HIX.out]; simp; omega
              have H11 := Lib.hid (H10.out.setV gr4.size hbc hbz own5 (fun e => (hv4 b e).2 rfl) hlx)
              have F11 := Lib.hid ((F10.out.grown gr4 (.inr (.inr (fun k e => (HV3.out k e).1)))).setCell (p := ⟨b, 4, none⟩) (.inl rfl) v4)
              have c4b := (hbc 4).trans c4n
              have fzb := (hbz 4).trans (H10.out.fz 4)
              have HV4 := Lib.hid (fun k e => (hv4 k e).1)
              obtain ⟨A4, c4', rfl, -, -, -⟩ := H11.out.row
              clear own4 own5 gr4 nil4 at4 hbc hbz hv4 hlx)
            go_ret
            have H12 := H11.out
            have F12 := F11.out
            have HV5 := HV4.out
            simp only [List.append_nil] at H12 F12 HV5
            exact ⟨rfl, F12, _, H12, .inr HV5⟩
          · skip
            have hct3 : i + 1 < c2 := by omega
            have hry : Rd w10 w10.heap.size (some ⟨g, (i + 1) * 7, none⟩) (mv y) := fun _ => ⟨g, (i + 1) * 7, rfl, (O10.out.lt g rfl).2, fun j u hu => by
              have h2 : (mv (x ++ q :: y))[(i + 1) * 7 + j]? = some u := by
                have e : mv (x ++ q :: y) = mv (x ++ [q]) ++ mv y := by rw [← mv_append]; simp
                rw [e, List.getElem?_append_right (by rw [mv_length]; simp; rw [HIX.out]; omega), mv_length]
                have e2 : (i + 1) * 7 + j - (x ++ [q]).length * 7 = j := by simp; rw [HIX.out]; omega
                rw [e2]; exact hu
              rw [O10.out.cellAt _ (by rw [← O10.out.1]; exact (List.getElem?_eq_some_iff.1 h2).1)]; exact h2⟩
            have HRY := Lib.hid hry
            clear hry
            go_wp2_with (
              at_builtin
              refine wpList_app styR (.tmp 102) (.tmp 109) rfl rfl base HW3.out rfl t (c2 - (i + 1)) (news := mv y) (HRY.out) rfl (by rw [mv_length, HTY.out]) (mv_one _) (by unfold maxLen; omega) (by omega) bb10 ?_
              intro v4 w11 own4 gr4 nil4 at4
              have own5 : w11.ownsRow base 74 7 v4 (x ++ y).length (mv (x ++ y)) := by
                rw [mv_append]; exact own_eq own4 (by rw [List.length_append, HIX.out, HTY.out]) rfl
              have hbc := HBC.out w11 gr4
              have hbz := HBZ.out w11 gr4
              have hv4 : ∀ k, v4.ownBlock = some k → W.heap.size ≤ k ∧ k ≠ b := by
                intro k e
                have hws := F10.out.size
                rcases at4 with h | h
                · rw [h] at e; exact ⟨(HV3.out k e).1, (HV3.out k e).2.1⟩
                · rw [h] at e; injection e with e; subst e
                  exact ⟨hws, by omega⟩
              have hlx : (x ++ y).length ≤ 1025 := by rw [List.length_append, HIX.out, HTY.out]; have := HL25.out; omega
              have H11 := Lib.hid (H10.out.setV gr4.size hbc hbz own5 (fun e => (hv4 b e).2 rfl) hlx)
              have F11 := Lib.hid ((F10.out.grown gr4 (.inr (.inr (fun k e => (HV3.out k e).1)))).setCell (p := ⟨b, 4, none⟩) (.inl rfl) v4)
              have c4b := (hbc 4).trans c4n
              have fzb := (hbz 4).trans (H10.out.fz 4)
              have HV4 := Lib.hid (fun k e => (hv4 k e).1)
              obtain ⟨A4, c4', rfl, -, -, -⟩ := H11.out.row
              clear own4 own5 gr4 nil4 at4 hbc hbz hv4 hlx)
            go_ret
            have H12 := H11.out
            have F12 := F11.out
            have HV5 := HV4.out
            simp only [List.length_append] at H12 F12 HV5
            exact ⟨rfl, F12, _, H12, .inr HV5⟩
    exact AllReadyH.nil
  exact AllReadyH.nil
theorem rread_over {W : World} {base b : Nat} {v : Value} {s : Stp} {l : List Mk} (h : CaB 74 W base b v s l) (m : Mk) (hc : chk m.a = 0) (he : sEmp m.f m.t = false) (hl : less s m.a = true) (hn : l.length = 1024) : Calls Try.prog 21 #[.pointer (some ⟨b, 0, none⟩), .agg #[.string m.f, .string m.t], .agg #[.int .i64 m.a.wall, .int .i32 m.a.logic, .int .i32 m.a.tag], .agg #[.int .i32 m.nd, .int .i32 m.nu]] W fun e w' => e = .returned (.int .i64 0) ∧ RdP 74 base b v.ownBlock (putS s l m) (putL s l m) W w' := by
  obtain ⟨x, y, q, hL, hi, hK, hE, hno⟩ := min_split l m
  have := rread_overX h m hc he hl hn x y q hL hi hno
  unfold putS putL
  rw [if_neg (by omega), if_neg (by omega), hK, hE]
  exact this
end Go.Proofs.Ytnhobjjgpnbnmaa
