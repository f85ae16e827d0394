/- Walks: a read kept in a full cache: the least mark goes. -/
import Derived.Test.YtnhobjjgpnbnmaaMo
namespace Go.Proofs.Ytnhobjjgpnbnmaa
open Go.RowKit Go.St
set_option linter.unusedVariables false
set_option linter.unusedSimpArgs false
set_option maxRecDepth 100000

theorem own_rdM {w : World} {base g n c : Nat} {E : TypeId} {xs : List Value} (h : w.ownsRow base E 7 (.slice (some ⟨g, 0, none⟩) n c) n xs) : Rd w w.heap.size (some ⟨g, 0, none⟩) xs := fun _ => ⟨g, 0, rfl, (h.lt g rfl).2, fun i u hu => by rw [Nat.zero_add, h.cellAt i (by rw [← h.1]; exact (List.getElem?_eq_some_iff.1 hu).1)]; exact hu⟩
theorem min_split (l : List Mk) (m : Mk) : ∃ (x y : List Mk) (q : Mk), l ++ [m] = x ++ q :: y ∧ minI (l ++ [m]) = x.length ∧ minK (l ++ [m]) m = q ∧ (l ++ [m]).eraseIdx (minI (l ++ [m])) = x ++ y ∧ ∀ (j : Nat) (z : Mk), j < x.length → (l ++ [m])[j]? = some z → z.a ≠ q.a := by
  have hlt : minI (l ++ [m]) < (l ++ [m]).length := minI_lt _ (by simp)
  have hk := minK_at m hlt
  have hf := minI_first m (l ++ [m])
  generalize hi : minI (l ++ [m]) = i at *
  generalize l ++ [m] = L at *
  have hx : (L.take i).length = i := by simp; omega
  refine ⟨L.take i, L.drop (i + 1), L[i], ?_, hx.symm, hk, List.eraseIdx_eq_take_drop_succ .., fun j z hj hz e => ?_⟩
  · rw [← List.drop_eq_getElem_cons hlt, List.take_append_drop]
  · rw [hx] at hj
    have := hf j hj
    rw [hk] at this
    simp only [List.getD, hz, Option.getD_some] at this
    rw [e, less_irrefl] at this
    cases this
set_option maxHeartbeats 3200000 in
theorem cread_overX {W : World} {base b : Nat} {v : Value} {s : Stp} {l : List Mk} (h : CaB 63 W base b v s l) (m : Mk) (hc : chk m.a = 0) (he : sEmp m.f m.t = false) (hl : less s m.a = true) (hn : l.length = 1024) (x y : List Mk) (q : Mk) (hL : l ++ [m] = x ++ q :: y) (hK : minK (l ++ [m]) m = q) (hno : ∀ (j : Nat) (z : Mk), j < x.length → (l ++ [m])[j]? = some z → z.a ≠ q.a) : Calls Try.prog 10 #[.pointer (some ⟨b, 0, none⟩), .agg #[.string m.f, .string m.t], .agg #[.int .i64 m.a.wall, .int .i32 m.a.logic, .int .i32 m.a.tag], .agg #[.int .i32 m.nd, .int .i32 m.nu]] W fun e w' => e = .returned (.int .i64 0) ∧ RdP 63 base b v.ownBlock (maxS s q.a) (x ++ y) W w' := by
  have HN := Lib.hid (fun X (k : Below W.heap.size W X) => cnone_any (h.next k))
  have HK := Lib.hid (fun X => hcheck_any m.a X)
  have HE := Lib.hid (fun X => empty_any m.f m.t X)
  have HL := Lib.hid (fun X => hcompare_any m.a s X)
  rw [he] at HE
  rw [hc] at HK
  obtain ⟨i, hi⟩ : ∃ i, x.length = i := ⟨_, rfl⟩
  obtain ⟨t, ht⟩ : ∃ t, y.length = t := ⟨_, rfl⟩
  have hlen : (l ++ [m]).length = i + t + 1 := by rw [hL]; simp; omega
  have hl25 : i + t + 1 = 1025 := by rw [← hlen]; simp; omega
  have HLN := Lib.hid hlen
  obtain ⟨L, hLd⟩ : ∃ L, L = l ++ [m] := ⟨_, rfl⟩
  have HLD := Lib.hid hLd
  rw [← hLd] at hL hK hno hlen
  rw [hi] at hno
  have HXI : Hid (L[i]? = some q) := Lib.hid (by rw [hL, ← hi]; simp)
  have HL2 := Lib.hid hL; have HKK := Lib.hid hK; have HNO := Lib.hid hno; have HL3 := Lib.hid hlen
  have HIX := Lib.hid hi; have HTY := Lib.hid ht
  have HMX := Lib.hid (fun X => hmax_any s q.a X)
  have hn9 : l.length < 1025 := by omega
  have HL25 := Lib.hid hl25
  generalize maxS s q.a = s2 at *
  clear hL hK hno hlen hLd hi ht hn hl25
  have hle2 : ¬ cmpS m.a s ≤ 0 := by rw [cmp_gt hl]; decide
  generalize cmpS m.a s = K at *
  go_enter Try.func10, Try.ntmps10
  go_wp2_with fail
  refine (HN.out _ (by go_grown)).mono ?_
  rintro e w' ⟨rfl, rfl⟩
  have BX := boxr_new W m
  have B3 : Below W.heap.size W (((W.alloc (.cells #[.string m.f, .string m.t] 33)).alloc (.cells #[.int .i64 m.a.wall, .int .i32 m.a.logic, .int .i32 m.a.tag] 23)).alloc (.cells #[.int .i32 m.nd, .int .i32 m.nu] 35)) := by go_grown
  generalize hw3 : ((W.alloc (.cells #[.string m.f, .string m.t] 33)).alloc (.cells #[.int .i64 m.a.wall, .int .i32 m.a.logic, .int .i32 m.a.tag] 23)).alloc (.cells #[.int .i32 m.nd, .int .i32 m.nu] 35) = W3 at *
  clear hw3 HN
  have z0 : W.heap.size ≠ W3.heap.size := by have := BX.lt; omega
  have BX := Lib.hid BX; have B3 := Lib.hid B3
  obtain ⟨b0, b1, b2, b3, b4, b5, b6, b7⟩ := BX.out
  go_wp2_with fail
  refine (HK.out W3).mono ?_
  rintro e w1 ⟨rfl, hb⟩
  have BX1 := Lib.hid (BX.out.next hb)
  have B1 : Hid (Below W.heap.size W w1) := Lib.hid (B3.out.trans (hb.mono B3.out.size))
  have y0 : W.heap.size < w1.heap.size := by have := BX1.out.lt; omega
  have y1 : W.heap.size + 1 < w1.heap.size := by have := BX1.out.lt; omega
  have y2 : W.heap.size + 1 + 1 < w1.heap.size := by have := BX1.out.lt; omega
  clear hb BX B3 b0 b1 b2 b3 b4 b5 b6 b7 HK z0
  have H1 := h.next B1.out
  obtain ⟨b0, b1, b2, b3, b4, b5, b6, b7⟩ := BX1.out
  obtain ⟨d1, d2, d3⟩ := (⟨H1.c1, H1.c2, H1.c3⟩ : _ ∧ _ ∧ _)
  have dl := H1.lt
  have H1 := Lib.hid H1
  go_wp2_with fail
  refine wp_qall (by kernel_rfl) (by kernel_rfl) ?_
  intro hcg
  repeat (first | go_big_quiet_step ((with_reducible (first | exact Calls.reg (HE.out _) | exact Calls.reg (HL.out _)))) | quiet_step ((with_reducible (first | exact Calls.reg (HE.out _) | exact Calls.reg (HL.out _)))))
  refine wpQuiet_nil ?_
  intro wq hbwq hcwq hfwq
  clear hcg
  clear b0 b1 b2 b3 b4 b5 b6 b7 d1 d2 d3 dl HE HL
  have H2 := Lib.hid (H1.out.next hbwq)
  have BX2 := Lib.hid (BX1.out.next hbwq)
  have B2 : Hid (Below W.heap.size W wq) := Lib.hid (B1.out.trans (hbwq.mono B1.out.size))
  clear hbwq hcwq hfwq H1 BX1 B1 y0 y1 y2
  go_upto_region 8 with (fail)
  have hgp : ∀ g, v.ownBlock = some g → g < W.heap.size := fun g e => (h.own.lt g e).2
  have bW := h.lt
  refine wp_heldcut (S := fun X => ApS X W.heap.size b m v) 11 (by kernel_rfl) (by kernel_rfl) (ApS.next ⟨BX2.out, H2.out.lt, H2.out.c4⟩ (Below.drew (Below.refl _ _))) (fun hHeld => ?_)
  simp only [List.take_succ_cons, List.take_zero]
  refine takeL (i := 0) (v := ?_) rfl (by kernel_rfl) (by kernel_rfl) (by kernel_rfl) (fun _ _ _ h => h) ⟨by rfl, ?_⟩ (by assumption) ?_
  rotate_left
  · intro W9 hSw
    (try dsimp only at hSw)
    go_simp
    try with_reducible rfl
  (try simp only [Act.put, List.setIfInBounds_toArray, List.set_cons_zero, List.set_cons_succ])
  refine takeL (i := 1) (v := ?_) rfl (by kernel_rfl) (by kernel_rfl) (by kernel_rfl) (fun _ _ _ h => h) ⟨by rfl, ?_⟩ (by assumption) ?_
  rotate_left
  · intro W9 hSw
    (try dsimp only at hSw)
    go_simp
    try with_reducible rfl
  (try simp only [Act.put, List.setIfInBounds_toArray, List.set_cons_zero, List.set_cons_succ])
  refine takeL (i := 2) (v := ?_) rfl (by kernel_rfl) (by kernel_rfl) (by kernel_rfl) (fun _ _ _ h => h) ⟨by rfl, ?_⟩ (by assumption) ?_
  rotate_left
  · intro W9 hSw
    (try dsimp only at hSw)
    go_simp
    try with_reducible rfl
  (try simp only [Act.put, List.setIfInBounds_toArray, List.set_cons_zero, List.set_cons_succ])
  refine takeL (i := 3) (v := ?_) rfl (by kernel_rfl) (by kernel_rfl) (by kernel_rfl) (fun _ _ _ h => h) ⟨by rfl, ?_⟩ (by assumption) ?_
  rotate_left
  · intro W9 hSw
    (try dsimp only at hSw)
    go_simp
    try with_reducible rfl
  (try simp only [Act.put, List.setIfInBounds_toArray, List.set_cons_zero, List.set_cons_succ])
  refine takeL (i := 4) (v := ?_) rfl (by kernel_rfl) (by kernel_rfl) (by kernel_rfl) (fun _ _ _ h => h) ⟨by rfl, ?_⟩ (by assumption) ?_
  rotate_left
  · intro W9 hSw
    (try dsimp only at hSw)
    obtain ⟨⟨z0, z1, z2, z3, z4, z5, z6, z7⟩, y1, y2⟩ := hSw
    go_simp
    try with_reducible rfl
  (try simp only [Act.put, List.setIfInBounds_toArray, List.set_cons_zero, List.set_cons_succ])
  refine takeL (i := 5) (v := ?_) rfl (by kernel_rfl) (by kernel_rfl) (by kernel_rfl) (fun _ _ _ h => h) ⟨by rfl, ?_⟩ (by assumption) ?_
  rotate_left
  · intro W9 hSw
    (try dsimp only at hSw)
    obtain ⟨⟨z0, z1, z2, z3, z4, z5, z6, z7⟩, y1, y2⟩ := hSw
    go_simp
    try with_reducible rfl
  (try simp only [Act.put, List.setIfInBounds_toArray, List.set_cons_zero, List.set_cons_succ])
  refine takeL (i := 6) (v := ?_) rfl (by kernel_rfl) (by kernel_rfl) (by kernel_rfl) (fun _ _ _ h => h) ⟨by rfl, ?_⟩ (by assumption) ?_
  rotate_left
  · intro W9 hSw
    (try dsimp only at hSw)
    obtain ⟨⟨z0, z1, z2, z3, z4, z5, z6, z7⟩, y1, y2⟩ := hSw
    go_simp
    try with_reducible rfl
  (try simp only [Act.put, List.setIfInBounds_toArray, List.set_cons_zero, List.set_cons_succ])
  refine takeL (i := 7) (v := ?_) rfl (by kernel_rfl) (by kernel_rfl) (by kernel_rfl) (fun _ _ _ h => h) ⟨by rfl, ?_⟩ (by assumption) ?_
  rotate_left
  · intro W9 hSw
    (try dsimp only at hSw)
    obtain ⟨⟨z0, z1, z2, z3, z4, z5, z6, z7⟩, y1, y2⟩ := hSw
    go_simp
    try with_reducible rfl
  (try simp only [Act.put, List.setIfInBounds_toArray, List.set_cons_zero, List.set_cons_succ])
  refine takeL (i := 8) (v := ?_) rfl (by kernel_rfl) (by kernel_rfl) (by kernel_rfl) (fun _ _ _ h => h) ⟨by rfl, ?_⟩ (by assumption) ?_
  rotate_left
  · intro W9 hSw
    (try dsimp only at hSw)
    go_simp
    try with_reducible rfl
  (try simp only [Act.put, List.setIfInBounds_toArray, List.set_cons_zero, List.set_cons_succ])
  have kX : Below wq.heap.size wq wq.drew := Below.drew (Below.refl _ _)
  have hX := hHeld
  clear hHeld
  generalize wq.drew = X at *
  refine wpAnyH_ready (rs := [9]) (by kernel_rfl) (by simp) ?_
  refine consL rfl (by rfl) (fun K hK => ?_) ?_
  · go_simp
    have kx2 : Below X.heap.size X (X.alloc (.cells #[.string m.f, .string m.t, .int .i64 m.a.wall, .int .i32 m.a.logic, .int .i32 m.a.tag, .int .i32 m.nd, .int .i32 m.nu] 63)) := (Below.refl _ _).alloc (Nat.le_refl _) _
    refine hK.out _ _ (hX.next kx2) (fun hX' => ?_)
    clear hK K
    have HM : Hid (Rd (X.alloc (.cells #[.string m.f, .string m.t, .int .i64 m.a.wall, .int .i32 m.a.logic, .int .i32 m.a.tag, .int .i32 m.nd, .int .i32 m.nu] 63)) (X.heap.size + 1) (some ⟨X.heap.size, 0, none⟩) (mkCells m)) := Lib.hid (fun _ => ⟨X.heap.size, 0, rfl, by omega, fun i u hu => by rw [World.cell?_alloc_mark]; simpa [mkCells] using hu⟩)
    have k2 : Below wq.heap.size wq (X.alloc (.cells #[.string m.f, .string m.t, .int .i64 m.a.wall, .int .i32 m.a.logic, .int .i32 m.a.tag, .int .i32 m.nd, .int .i32 m.nu] 63)) := kX.trans (kx2.mono kX.size)
    clear kx2 hX kX
    generalize hX9 : X.alloc (.cells #[.string m.f, .string m.t, .int .i64 m.a.wall, .int .i32 m.a.logic, .int .i32 m.a.tag, .int .i32 m.nd, .int .i32 m.nu] 63) = X2 at *
    generalize hX8 : X.heap.size = nb at *
    clear hX9 hX8 X
    obtain ⟨X, rfl⟩ : ∃ x, x = X2 := ⟨_, rfl⟩
    have H3 := Lib.hid (H2.out.next k2)
    refine wpAnyH_ready (rs := [10]) (by kernel_rfl) (by simp) ?_
    refine consL rfl (by rfl) (fun K hK => ?_) ?_
    · refine wp_app styM (.tmp 34) (.tmp 39) rfl base H3.out.own rfl 1 1 HM.out rfl rfl (by intro u hu; simp [mkCells] at hu; rcases hu with rfl | rfl | rfl | rfl | rfl | rfl | rfl <;> rfl) (by unfold maxLen; omega) (by omega) (Nat.le_trans H3.out.lo (Nat.le_of_lt H3.out.lt)) ?_
      intro v2 w2 own2 gr2 nil2 at2
      have hv2 : v2.ownBlock = v.ownBlock ∨ ∀ g, v2.ownBlock = some g → W.heap.size ≤ g := by
        rcases at2 with e | e
        · exact .inl e
        · refine .inr (fun g e2 => ?_)
          rw [e] at e2
          have h1 := B2.out.size
          have h2 := k2.size
          simp at e2
          omega
      have hfr : Hid (Fr b v.ownBlock W w2) := Lib.hid ((Fr.of_below (B2.out.trans (k2.mono B2.out.size))).grown gr2 (.inl rfl))
      refine hK.out _ _ (hX'.grown gr2 H3.out.ne (fun g e => .inl (hgp g e))) (fun hX2 => ?_)
      have HC : Hid (CaB 63 (w2.setCell ⟨b, 4, none⟩ v2) base b v2 s (l ++ [m])) := Lib.hid (H3.out.put gr2 (by rw [mv_append]; exact own_eq own2 rfl (by simp [mv])) at2 hn9)
      have hfx : w2.frozen? ⟨b, 4, none⟩ = false := (World.grownBy.frozen_far gr2 ⟨b, 4, none⟩ H3.out.lt (fun e => H3.out.ne e.symm)).trans (H3.out.fz 4)
      have hcx := hX2.c4
      have hlx := hX2.lb
      clear hK K gr2 nil2 at2 own2 hX' hX2 HM k2 H3 H2 BX2
      refine wpAnyH_done (by kernel_rfl) ?_ _
      simp only [tailPost, List.drop_succ_cons, List.drop_zero]
      have hfr2 : Hid (Fr b v.ownBlock W (w2.setCell ⟨b, 4, none⟩ v2)) := Lib.hid (hfr.out.setCell (p := ⟨b, 4, none⟩) (.inl rfl) _)
      obtain ⟨g, c2, hv9, hg1, hg2⟩ := HC.out.own.form (by simp)
      rw [HLN.out] at hv9
      subst hv9
      rw [← HLD.out] at HC
      have i1 : ((1024 : Int) < ((i + t + 1 : Nat) : Int)) := by have := HL25.out; omega
      have i2 : ((1024 : Int) < (i : Int) + (t : Int) + 1) := by have := HL25.out; omega
      have c4n := HC.out.c4
      have hgb : g ≠ b := fun e => HC.out.ne (by rw [e]; rfl)
      go_upto_region 10 with (fail)
      clear hcx hfx hlx c4n
      generalize hw6 : w2.setCell ⟨b, 4, none⟩ (.slice (some ⟨g, 0, none⟩) (i + t + 1) c2) = w6 at *
      clear hw6 hfr
      have OW6 : Hid (w6.ownsRow base 63 7 (.slice (some ⟨g, 0, none⟩) (i + t + 1) c2) (i + t + 1) (mv L)) := Lib.hid (own_eq HC.out.own HL3.out rfl)
      have hmn := cmin_any (some ⟨g, 0, none⟩) (i + t + 1) c2 L HL3.out (by omega) (by have := HL25.out; omega) m w6 (own_rdM OW6.out)
      rw [HKK.out] at hmn
      unfold mkV at hmn
      have HMN := Lib.hid hmn
      clear hmn
      have c4n := HC.out.c4
      have blt := HC.out.lt
      have glt : g < w6.heap.size := (OW6.out.lt g rfl).2
      go_wp2_with fail
      refine HMN.out.mono ?_
      rintro e w7 ⟨rfl, hb⟩
      have hb8 : Below w6.heap.size w6 (w7.alloc (.cells #[.string q.f, .string q.t, .int .i64 q.a.wall, .int .i32 q.a.logic, .int .i32 q.a.tag, .int .i32 q.nd, .int .i32 q.nu] 63)) := hb.alloc hb.size _
      have HC8 := Lib.hid (HC.out.next hb8)
      have OW8 := Lib.hid (own_keep OW6.out hb8 (Nat.le_refl _))
      have hf8 := Lib.hid (hfr2.out.below hb8)
      have MQ8 := Lib.hid (mki_new w7 q 63)
      have tl7 : w6.heap.size ≤ w7.heap.size := hb.size
      have tb8 : w7.heap.size < (w7.alloc (.cells #[.string q.f, .string q.t, .int .i64 q.a.wall, .int .i32 q.a.logic, .int .i32 q.a.tag, .int .i32 q.nd, .int .i32 q.nu] 63)).heap.size := by simp
      have hw68 := hb8.size
      clear hb hb8 HC OW6 hfr2 c4n HMN
      go_upto_region 11 with (fail)
      generalize hw8 : w7.alloc (.cells #[.string q.f, .string q.t, .int .i64 q.a.wall, .int .i32 q.a.logic, .int .i32 q.a.tag, .int .i32 q.nd, .int .i32 q.nu] 63) = w8 at *
      generalize htb : w7.heap.size = tb at *
      clear hw8 htb w7
      have c4n := HC8.out.c4
      have bl8 := HC8.out.lt
      obtain ⟨a0, a1, a2, a3, a4, a5, a6⟩ := MQ8.out
      simp only [Nat.zero_add] at a1 a2 a3 a4 a5 a6
      have hix := fun X (k : Below w8.heap.size w8 X) => cindex_any (some ⟨g, 0, none⟩) (i + t + 1) c2 i L HL3.out (by have := HL25.out; omega) q HXI.out HNO.out X (own_rdM (own_keep OW8.out k (Nat.le_refl _)))
      unfold mkV at hix
      have HIXX := Lib.hid hix
      clear hix
      refine wp_qall (by kernel_rfl) (by kernel_rfl) ?_
      intro hcg
      repeat (first | go_big_quiet_step ((with_reducible (first | exact Calls.reg (HIXX.out _ (below_regrown _ _ _))))) | quiet_step ((with_reducible (first | exact Calls.reg (HIXX.out _ (below_regrown _ _ _))))))
      refine wpQuiet_nil ?_
      intro w9 hbw9 hcw9 hfw9
      clear hcg
      have HC9 := Lib.hid (HC8.out.next hbw9)
      have ow9 := own_keep OW8.out hbw9 (Nat.le_refl _)
      rw [HL2.out] at ow9
      have OW9 := Lib.hid ow9
      have hf9 := Lib.hid (hf8.out.below hbw9)
      have MQ9 := Lib.hid (MQ8.out.keep (fun p hp => hbw9.cell (p := p) (by rw [hp]; exact tb8)))
      have tl9 : tb < w9.heap.size := Nat.lt_of_lt_of_le tb8 hbw9.size
      have hw89 := hbw9.size
      clear hbw9 hcw9 hfw9 c4n a0 a1 a2 a3 a4 a5 a6 HIXX OW8 HC8 hf8 MQ8 ow9
      have c4n := HC9.out.c4
      have i3 : i < 1025 := by have := HL25.out; omega
      go_wp2_with fail
      refine (cdel_any x y q i t HIX.out HTY.out (by have := HL25.out; omega) OW9.out).mono ?_
      rintro e w10 ⟨rfl, own10, hf10⟩
      have bl9 := HC9.out.lt
      have hbc := fun o => hf10.cell (p := ⟨b, o, none⟩) bl9 (by show b ≠ _; omega) (by intro e; injection e with e; exact hgb e)
      have hbz := fun o => hf10.frozen (p := ⟨b, o, none⟩) bl9 (by show b ≠ _; omega) (by intro e; injection e with e; exact hgb e)
      have c4b := (hbc 4).trans c4n
      have fzb := (hbz 4).trans (HC9.out.fz 4)
      have hxy : (x ++ y).length = i + t := by rw [List.length_append, HIX.out, HTY.out]
      have H10 : Hid (CaB 63 (w10.setCell ⟨b, 4, none⟩ (.slice (some ⟨g, 0, none⟩) (i + t) c2)) base b (.slice (some ⟨g, 0, none⟩) (i + t) c2) s (x ++ y)) := Lib.hid (HC9.out.setV hf10.size hbc hbz (own_eq own10 hxy.symm rfl) (by intro e; injection e with e; exact hgb e) (by have := HL25.out; omega))
      have hrow : (Value.slice (some ⟨g, 0, none⟩) (i + t + 1) c2).ownBlock = some g := rfl
      have F10 : Hid (Fr b v.ownBlock W (w10.setCell ⟨b, 4, none⟩ (.slice (some ⟨g, 0, none⟩) (i + t) c2))) := Lib.hid ((hf9.out.trans hf10.any (by
        rcases hv2 with h | h
        · exact .inl (by rw [← h]; rfl)
        · exact .inr (fun k e => h k (by rw [← e]; rfl)))).setCell (p := ⟨b, 4, none⟩) (.inl rfl) _)
      have hgt : g < tb := by omega
      have hbt : b < tb := by omega
      have MQ10 : Hid (MkI (w10.setCell ⟨b, 4, none⟩ (.slice (some ⟨g, 0, none⟩) (i + t) c2)) tb 0 q) := Lib.hid (MQ9.out.keep (fun p hp => (World.cell?_setCell_other _ _ _ _ (fun e => by rw [← e] at hp; simp only at hp; omega)).trans (hf10.cell (p := p) (by rw [hp]; exact tl9) (by rw [hp]; omega) (by rw [hp]; intro e; injection e with e; omega))))
      have tl10 : tb < (w10.setCell ⟨b, 4, none⟩ (.slice (some ⟨g, 0, none⟩) (i + t) c2)).heap.size := by have := hf10.size; simp [World.setCell]; omega
      clear own10 hf10 hbc hbz HC9 OW9 hf9 MQ9 c4n
      go_upto_region 13 with (fail)
      clear c4b fzb
      generalize hw11 : w10.setCell ⟨b, 4, none⟩ (.slice (some ⟨g, 0, none⟩) (i + t) c2) = w11 at *
      clear hw11
      obtain ⟨d1, d2, d3⟩ := (⟨H10.out.c1, H10.out.c2, H10.out.c3⟩ : _ ∧ _ ∧ _)
      have bl11 := H10.out.lt
      obtain ⟨a0, a1, a2, a3, a4, a5, a6⟩ := MQ10.out
      simp only [Nat.zero_add] at a1 a2 a3 a4 a5 a6
      refine wp_qtail 8 (by kernel_rfl) (by kernel_rfl) ?_
      intro hcg
      simp only [List.take_succ_cons, List.take_zero, List.drop_succ_cons, List.drop_zero]
      repeat (first | go_big_quiet_step ((with_reducible (first | exact Calls.reg (HMX.out _)))) | quiet_step ((with_reducible (first | exact Calls.reg (HMX.out _)))))
      refine wpQuiet_nil ?_
      intro w12 hbw12 hcw12 hfw12
      clear hcg
      have H12 := Lib.hid (H10.out.next hbw12)
      have F12 := Lib.hid (F10.out.below hbw12)
      clear a0 a1 a2 a3 a4 a5 a6 d1 d2 d3 hbw12 hcw12 hfw12 H10 F10 MQ10 HMX
      obtain ⟨d1, d2, d3⟩ := (⟨H12.out.c1, H12.out.c2, H12.out.c3⟩ : _ ∧ _ ∧ _)
      have df := H12.out.fz
      have H13 := Lib.hid (H12.out.setL s2)
      have F13 := Lib.hid (setL_fr F12.out s2)
      unfold setL at H13 F13
      go_wp2_with fail
      go_ret
      exact ⟨rfl, F13.out, _, H13.out, hv2⟩
    exact AllReadyH.nil
  exact AllReadyH.nil
theorem cread_over {W : World} {base b : Nat} {v : Value} {s : Stp} {l : List Mk} (h : CaB 63 W base b v s l) (m : Mk) (hc : chk m.a = 0) (he : sEmp m.f m.t = false) (hl : less s m.a = true) (hn : l.length = 1024) : Calls Try.prog 10 #[.pointer (some ⟨b, 0, none⟩), .agg #[.string m.f, .string m.t], .agg #[.int .i64 m.a.wall, .int .i32 m.a.logic, .int .i32 m.a.tag], .agg #[.int .i32 m.nd, .int .i32 m.nu]] W fun e w' => e = .returned (.int .i64 0) ∧ RdP 63 base b v.ownBlock (putS s l m) (putL s l m) W w' := by
  obtain ⟨x, y, q, hL, hi, hK, hE, hno⟩ := min_split l m
  have := cread_overX h m hc he hl hn x y q hL hK hno
  unfold putS putL
  rw [if_neg (by omega), if_neg (by omega), hK, hE]
  exact this
end Go.Proofs.Ytnhobjjgpnbnmaa
