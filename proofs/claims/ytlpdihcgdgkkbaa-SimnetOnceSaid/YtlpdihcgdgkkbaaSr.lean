/- Walks: the document's net: Send and Twice. -/
import Derived.Test.YtlpdihcgdgkkbaaSq
namespace Go.Proofs.Ytlpdihcgdgkkbaa
open Go.RowKit Go.St
set_option linter.unusedVariables false
set_option linter.unusedSimpArgs false
set_option maxRecDepth 100000

/-- What Send reads: the net's letters, its last number. -/
structure RefS (W : World) (b : Nat) (last : Int) (v : Value) : Prop where
  lb : b < W.heap.size
  c2 : W.cell? ⟨b, 2, none⟩ = some v
  c3 : W.cell? ⟨b, 3, none⟩ = some (.int .i64 last)
theorem RefS.keep {W W' : World} {b : Nat} {last : Int} {v : Value} (h : RefS W b last v) (hs : W.heap.size ≤ W'.heap.size) (h1 : W'.heap[b]? = W.heap[b]?) : RefS W' b last v :=
  have hb := fun o => World.cell?_of_block (w := W) (w' := W') (a := ⟨b, o, none⟩) h1
  ⟨Nat.lt_of_lt_of_le h.lb hs, (hb 2).trans h.c2, (hb 3).trans h.c3⟩
theorem RefS.next {W W' : World} {b : Nat} {last : Int} {v : Value} (h : RefS W b last v) (hb : Below W.heap.size W W') : RefS W' b last v := h.keep hb.size (hb.block b h.lb)
theorem RefS.grown {W W' : World} {b : Nat} {last : Int} {v : Value} (h : RefS W b last v) {row : Option Nat} (hg : W.grownBy W' row) (h1 : row ≠ some b) : RefS W' b last v := h.keep hg.size (hg.block b h.lb (fun e => h1 e.symm))
set_option maxHeartbeats 1600000 in
theorem rsend_put {W : World} {base b : Nat} {v : Value} {F : Nat → Prop} {s : Nt} (h : NetR W base b v F s) (h0 : 0 ≤ s.last) (h1 : s.last ≤ 4611686018427387904) (fr to : Int) (A2 : Option Addr) (n2 c2 : Nat) (bs : List UInt8) (hx : LtB W (fun k => k ≠ b) ⟨⟨0, fr, to, bs⟩, A2, n2, c2⟩) (hok : okK s.nodes fr to = true) (hn : s.ks.length < 2048) :
    Calls Try.prog 79 #[.pointer (some ⟨b, 0, none⟩), .int .i64 fr, .int .i64 to, .slice A2 n2 c2] W fun e w' => e = .returned (.tuple #[.int .i64 (s.last + 1), .int .i64 0]) ∧ OutR base b v.ownBlock F (putS s fr to bs) W w' := by
  have HN := Lib.hid (rnone_net h)
  obtain ⟨nodes, last, ks⟩ := s
  obtain ⟨l, el, hs⟩ := h
  dsimp only at *
  unfold OutR putS
  dsimp only
  have hl : l.length = ks.length := by rw [← el, List.length_map]
  rw [← el]
  obtain ⟨A, c, hv, -, -, -⟩ := hs.row
  subst hv
  have k1 := hs.cell 1 _ rfl
  have k2 := hs.cell 2 _ rfl
  have k3 := hs.cell 3 _ rfl
  have lt := hs.lt
  have fz := hs.fz
  have HS := Lib.hid hs
  have HX := Lib.hid hx
  have hn' : l.length < 2048 := by omega
  have i2 : ¬ (2048 : Int) ≤ (l.length : Int) := by omega
  unfold okK at hok
  simp only [Bool.and_eq_true, decide_eq_true_eq] at hok
  obtain ⟨⟨a1, a2⟩, a3, a4⟩ := hok
  have b1 : decide (fr < 0) = false := decide_eq_false (by omega)
  have b2 : decide (nodes ≤ fr) = false := decide_eq_false (by omega)
  have b3 : decide (to < 0) = false := decide_eq_false (by omega)
  have b4 : decide (nodes ≤ to) = false := decide_eq_false (by omega)
  clear hs hx hl el hn a1 a2 a3 a4
  go_enter Try.func79, Try.ntmps79
  go_wp2_with fail
  refine HN.out.mono ?_
  rintro e w' ⟨rfl, rfl⟩
  clear HN
  go_upto_region 8 with (fail)
  have S1 : Hid (NetS (W.setCell ⟨b, 3, none⟩ (.int .i64 (last + 1))) base b (csR nodes (last + 1) (.slice A l.length c)) (.slice A l.length c) F l) := Lib.hid (HS.out.setLastR (last + 1))
  have X1 : Hid (LtB (W.setCell ⟨b, 3, none⟩ (.int .i64 (last + 1))) (fun k => k ≠ b) ⟨⟨0, fr, to, bs⟩, A2, n2, c2⟩) := Lib.hid (HX.out.keep (by simp [World.setCell]) (fun k e _ => Below.heap_setCell _ _ _ _ e))
  have R1 : Hid (Fr b (Value.slice A l.length c).ownBlock W (W.setCell ⟨b, 3, none⟩ (.int .i64 (last + 1)))) := Lib.hid ((Fr.refl b (Value.slice A l.length c).ownBlock W).setCell (p := ⟨b, 3, none⟩) (.inl rfl) _)
  have bo := HS.out.lo
  have hrX : ∀ k, (Value.slice A l.length c).ownBlock = some k → k < W.heap.size := fun k e => (HS.out.own.lt k e).2
  have hW1 := R1.out.size
  generalize W.setCell ⟨b, 3, none⟩ (.int .i64 (last + 1)) = w1 at *
  have hFW := fun k (hk : F k) => (HS.out.Fp k hk).1
  clear k1 k2 k3 fz HX HS
  have P1 : RefS w1 b (last + 1) (.slice A l.length c) := ⟨S1.out.lt, S1.out.cell 2 _ rfl, S1.out.cell 3 _ rfl⟩
  refine wp_heldcut (S := fun X => RefS X b (last + 1) (.slice A l.length c)) 16 (by kernel_rfl) (by kernel_rfl) (P1.next (Below.drew (Below.refl _ _))) (fun hHeld => ?_)
  simp only [List.take_succ_cons, List.take_zero]
  refine takeL (i := 0) (v := ?_) rfl (by kernel_rfl) (by kernel_rfl) (by kernel_rfl) (fun _ _ _ h => h) ⟨by rfl, ?_⟩ (by assumption) ?_
  rotate_left
  · intro W9 hSw
    (try dsimp only at hSw)
    obtain ⟨z0, z1, z2⟩ := hSw
    go_simp
    try with_reducible rfl
  (try simp only [Act.put, List.setIfInBounds_toArray, List.set_cons_zero, List.set_cons_succ])
  refine takeL (i := 1) (v := ?_) rfl (by kernel_rfl) (by kernel_rfl) (by kernel_rfl) (fun _ _ _ h => h) ⟨by rfl, ?_⟩ (by assumption) ?_
  rotate_left
  · intro W9 hSw
    (try dsimp only at hSw)
    obtain ⟨z0, z1, z2⟩ := hSw
    go_simp
    try with_reducible rfl
  (try simp only [Act.put, List.setIfInBounds_toArray, List.set_cons_zero, List.set_cons_succ])
  refine takeL (i := 2) (v := ?_) rfl (by kernel_rfl) (by kernel_rfl) (by kernel_rfl) (fun _ _ _ h => h) ⟨by rfl, ?_⟩ (by assumption) ?_
  rotate_left
  · intro W9 hSw
    (try dsimp only at hSw)
    obtain ⟨z0, z1, z2⟩ := hSw
    go_simp
    try with_reducible rfl
  (try simp only [Act.put, List.setIfInBounds_toArray, List.set_cons_zero, List.set_cons_succ])
  refine takeL (i := 3) (v := ?_) rfl (by kernel_rfl) (by kernel_rfl) (by kernel_rfl) (fun _ _ _ h => h) ⟨by rfl, ?_⟩ (by assumption) ?_
  rotate_left
  · intro W9 hSw
    (try dsimp only at hSw)
    obtain ⟨z0, z1, z2⟩ := hSw
    go_simp
    try with_reducible rfl
  (try simp only [Act.put, List.setIfInBounds_toArray, List.set_cons_zero, List.set_cons_succ])
  refine takeL (i := 4) (v := ?_) rfl (by kernel_rfl) (by kernel_rfl) (by kernel_rfl) (fun _ _ _ h => h) ⟨by rfl, ?_⟩ (by assumption) ?_
  rotate_left
  · intro W9 hSw
    (try dsimp only at hSw)
    obtain ⟨z0, z1, z2⟩ := hSw
    go_simp
    try with_reducible rfl
  (try simp only [Act.put, List.setIfInBounds_toArray, List.set_cons_zero, List.set_cons_succ])
  refine takeL (i := 5) (v := ?_) rfl (by kernel_rfl) (by kernel_rfl) (by kernel_rfl) (fun _ _ _ h => h) ⟨by rfl, ?_⟩ (by assumption) ?_
  rotate_left
  · intro W9 hSw
    (try dsimp only at hSw)
    obtain ⟨z0, z1, z2⟩ := hSw
    go_simp
    try with_reducible rfl
  (try simp only [Act.put, List.setIfInBounds_toArray, List.set_cons_zero, List.set_cons_succ])
  refine takeL (i := 6) (v := ?_) rfl (by kernel_rfl) (by kernel_rfl) (by kernel_rfl) (fun _ _ _ h => h) ⟨by rfl, ?_⟩ (by assumption) ?_
  rotate_left
  · intro W9 hSw
    (try dsimp only at hSw)
    obtain ⟨z0, z1, z2⟩ := hSw
    go_simp
    try with_reducible rfl
  (try simp only [Act.put, List.setIfInBounds_toArray, List.set_cons_zero, List.set_cons_succ])
  refine takeL (i := 7) (v := ?_) rfl (by kernel_rfl) (by kernel_rfl) (by kernel_rfl) (fun _ _ _ h => h) ⟨by rfl, ?_⟩ (by assumption) ?_
  rotate_left
  · intro W9 hSw
    (try dsimp only at hSw)
    obtain ⟨z0, z1, z2⟩ := hSw
    go_simp
    try with_reducible rfl
  (try simp only [Act.put, List.setIfInBounds_toArray, List.set_cons_zero, List.set_cons_succ])
  refine takeL (i := 8) (v := ?_) rfl (by kernel_rfl) (by kernel_rfl) (by kernel_rfl) (fun _ _ _ h => h) ⟨by rfl, ?_⟩ (by assumption) ?_
  rotate_left
  · intro W9 hSw
    (try dsimp only at hSw)
    obtain ⟨z0, z1, z2⟩ := hSw
    go_simp
    try with_reducible rfl
  (try simp only [Act.put, List.setIfInBounds_toArray, List.set_cons_zero, List.set_cons_succ])
  refine takeL (i := 9) (v := ?_) rfl (by kernel_rfl) (by kernel_rfl) (by kernel_rfl) (fun _ _ _ h => h) ⟨by rfl, ?_⟩ (by assumption) ?_
  rotate_left
  · intro W9 hSw
    (try dsimp only at hSw)
    obtain ⟨z0, z1, z2⟩ := hSw
    go_simp
    try with_reducible rfl
  (try simp only [Act.put, List.setIfInBounds_toArray, List.set_cons_zero, List.set_cons_succ])
  refine takeL (i := 10) (v := ?_) rfl (by kernel_rfl) (by kernel_rfl) (by kernel_rfl) (fun _ _ _ h => h) ⟨by rfl, ?_⟩ (by assumption) ?_
  rotate_left
  · intro W9 hSw
    (try dsimp only at hSw)
    obtain ⟨z0, z1, z2⟩ := hSw
    go_simp
    try with_reducible rfl
  (try simp only [Act.put, List.setIfInBounds_toArray, List.set_cons_zero, List.set_cons_succ])
  refine takeL (i := 11) (v := ?_) rfl (by kernel_rfl) (by kernel_rfl) (by kernel_rfl) (fun _ _ _ h => h) ⟨by rfl, ?_⟩ (by assumption) ?_
  rotate_left
  · intro W9 hSw
    (try dsimp only at hSw)
    obtain ⟨z0, z1, z2⟩ := hSw
    go_simp
    try with_reducible rfl
  (try simp only [Act.put, List.setIfInBounds_toArray, List.set_cons_zero, List.set_cons_succ])
  have k0 : Below w1.heap.size w1 w1.drew := Below.drew (Below.refl _ _)
  have hX0 := hHeld
  clear hHeld P1
  generalize w1.drew = X0 at *
  refine wpAnyH_ready (rs := [12]) (by kernel_rfl) (by simp) ?_
  refine consL rfl (by rfl) (fun K hK => ?_) ?_
  · have hx0 := X1.out.keep (W' := X0) k0.size (fun k _ h => k0.block k h)
    have hl0 := hx0.len
    have hb0 := hx0.bnd
    have hr0 := hx0.read
    dsimp only at hl0 hb0 hr0
    go_simp
    go_at_call 86
    refine (rown_any A2 n2 c2 X0.heap.size bs hl0 (by omega) X0 hr0 (Nat.le_refl _)).mono ?_
    rintro e w4 ⟨v4, rfl, own4, hb4⟩
    have k4 : Below w1.heap.size w1 w4 := k0.trans (hb4.mono k0.size)
    refine hK.out _ _ (hX0.next hb4) (fun hX' => ?_)
    clear hK K
    have S4 := Lib.hid (S1.out.next k4)
    have R4 := Lib.hid (R1.out.below k4)
    obtain ⟨A4, c4, rfl, -, -, rd4⟩ := own_rd4 own4
    have L4 : Hid (LtB w4 (fun k => F k ∨ (X0.heap.size ≤ k ∧ k < w4.heap.size)) ⟨⟨last + 1, fr, to, bs⟩, A4, n2, c4⟩) := Lib.hid (LtB.of_rd hl0 hb0 rd4 (fun k o e => .inr (own4.lt k (by have e2 : A4 = _ := e; rw [e2]; rfl))))
    have hz4 : w1.heap.size ≤ X0.heap.size := k0.size
    have hz5 := hb4.size
    have hbX : b < X0.heap.size := by have := hX0.lb; exact this
    clear hx0 hl0 hr0 S1 R1 X1 hb4 own4 k4 rd4 hX0 k0
    (try simp only [Act.put, List.setIfInBounds_toArray, List.set_cons_zero, List.set_cons_succ])
    refine takeL (i := 13) (v := ?_) rfl (by kernel_rfl) (by kernel_rfl) (by kernel_rfl) (fun _ _ _ h => h) ⟨by rfl, ?_⟩ (by assumption) ?_
    rotate_left
    · intro W9 hSw
      (try dsimp only at hSw)
      go_simp
      try with_reducible rfl
    (try simp only [Act.put, List.setIfInBounds_toArray, List.set_cons_zero, List.set_cons_succ])
    refine wpAnyH_ready (rs := [14]) (by kernel_rfl) (by simp) ?_
    refine consL rfl (by rfl) (fun K hK => ?_) ?_
    · go_simp
      have kx2 : Below w4.heap.size w4 (w4.alloc (.cells #[.int .i64 (last + 1), .int .i64 fr, .int .i64 to, .slice A4 n2 c4] 51)) := (Below.refl _ _).alloc (Nat.le_refl _) _
      refine hK.out _ _ (hX'.next kx2) (fun hX2 => ?_)
      clear hK K hX'
      have HM : Hid (Rd (w4.alloc (.cells #[.int .i64 (last + 1), .int .i64 fr, .int .i64 to, .slice A4 n2 c4] 51)) (w4.heap.size + 1) (some ⟨w4.heap.size, 0, none⟩) (ltc ⟨⟨last + 1, fr, to, bs⟩, A4, n2, c4⟩)) := Lib.hid (fun _ => ⟨w4.heap.size, 0, rfl, by omega, fun i u hu => by rw [World.cell?_alloc_mark]; simpa [ltc] using hu⟩)
      have S6 := Lib.hid (S4.out.next kx2)
      have R6 := Lib.hid (R4.out.below kx2)
      have L6 := Lib.hid (L4.out.keep kx2.size (fun k _ h => kx2.block k h))
      have hz6 := kx2.size
      clear kx2 S4 R4 L4
      generalize w4.alloc (.cells #[.int .i64 (last + 1), .int .i64 fr, .int .i64 to, .slice A4 n2 c4] 51) = X2 at *
      (try simp only [Act.put, List.setIfInBounds_toArray, List.set_cons_zero, List.set_cons_succ])
      refine wpAnyH_ready (rs := [15]) (by kernel_rfl) (by simp) ?_
      refine consL rfl (by rfl) (fun K hK => ?_) ?_
      · refine wp_app styL (.tmp 54) (.tmp 64) rfl base S6.out.own rfl 1 1 HM.out rfl rfl (by intro u hu; simp [ltc] at hu; rcases hu with rfl | rfl | rfl | rfl <;> rfl) (by unfold maxLen; omega) (by omega) (Nat.le_trans S6.out.lo (Nat.le_of_lt S6.out.lt)) ?_
        intro v2 w2 own2 gr2 nil2 at2
        have hv2 : v2.ownBlock = (Value.slice A l.length c).ownBlock ∨ ∀ g, v2.ownBlock = some g → W.heap.size ≤ g := by
          rcases at2 with e | e
          · exact .inl e
          · refine .inr (fun g e2 => ?_)
            rw [e] at e2
            have h1 := R6.out.size
            simp at e2
            omega
        have hfr : Hid (Fr b (Value.slice A l.length c).ownBlock W w2) := Lib.hid (R6.out.grown gr2 (.inl rfl))
        refine hK.out _ _ (hX2.grown gr2 S6.out.ne) (fun hX3 => ?_)
        have HC : Hid (NetS (w2.setCell ⟨b, 2, none⟩ v2) base b (csR nodes (last + 1) v2) v2 (fun k => F k ∨ (X0.heap.size ≤ k ∧ k < w4.heap.size)) (l ++ [⟨⟨last + 1, fr, to, bs⟩, A4, n2, c4⟩])) := Lib.hid (S6.out.put gr2 (by rw [lv_append]; exact own_eq own2 rfl (by simp [lv])) at2 hn' (fun k hk => by
          rcases hk with hk | hk
          · exact .inl hk
          · exact .inr ⟨by omega, by omega, by omega, fun e => by have := hrX k e; omega⟩) (fun k hk => .inl hk) L6.out)
        have hfx : w2.frozen? ⟨b, 2, none⟩ = false := (World.grownBy.frozen_far gr2 ⟨b, 2, none⟩ S6.out.lt (fun e => S6.out.ne e.symm)).trans (S6.out.fz 2)
        have hcx := hX3.c2
        have hc3 := hX3.c3
        have hlx := hX3.lb
        clear hK K gr2 nil2 at2 own2 hX2 hX3 HM S6 R6 L6
        refine wpAnyH_done (by kernel_rfl) ?_ _
        simp only [tailPost, List.drop_succ_cons, List.drop_zero]
        have hfr2 : Hid (Fr b (Value.slice A l.length c).ownBlock W (w2.setCell ⟨b, 2, none⟩ v2)) := Lib.hid (hfr.out.setCell (p := ⟨b, 2, none⟩) (.inl rfl) _)
        obtain ⟨A5, c5, hv5, -, -, -⟩ := HC.out.row
        rw [show (l ++ [(⟨⟨last + 1, fr, to, bs⟩, A4, n2, c4⟩ : Ltr)]).length = l.length + 1 by simp] at hv5
        subst hv5
        go_wp2_with fail
        go_ret2
        exact ⟨rfl, hfr2.out, _, _, _, HC.out, by simp, hv2, fun k hk => Or.imp_right (fun h => by omega) hk⟩
      exact AllReadyH.nil
    exact AllReadyH.nil
  exact AllReadyH.nil
theorem rsend_any {W : World} {base b : Nat} {v : Value} {F : Nat → Prop} {s : Nt} (h : NetR W base b v F s) (hw : s.WF) (hb : s.last ≤ 4611686018427387904) (fr to : Int) (A : Option Addr) (n c : Nat) (bs : List UInt8) (hx : LtB W (fun k => k ≠ b) ⟨⟨0, fr, to, bs⟩, A, n, c⟩) :
    Calls Try.prog 79 #[.pointer (some ⟨b, 0, none⟩), .int .i64 fr, .int .i64 to, .slice A n c] W fun e w' => e = .returned (.tuple #[.int .i64 (sendV s fr to), .int .i64 (sendE s fr to)]) ∧ OutR base b v.ownBlock F (sendS s fr to bs) W w' := by
  unfold sendV sendS
  by_cases hok : okK s.nodes fr to = true
  · have hE : sendE s fr to = if 2048 ≤ s.ks.length then 3 else 0 := by unfold sendE; rw [if_pos hok]
    by_cases hn : s.ks.length < 2048
    · rw [if_neg (by omega)] at hE
      rw [hE]
      exact rsend_put h hw.ls hb fr to A n c bs hx hok hn
    · rw [if_pos (by omega)] at hE
      rw [hE]
      have HO := Lib.hid (h.same (Below.refl _ _))
      have HN := Lib.hid (rnone_net h)
      obtain ⟨l, el, hs⟩ := h
      have hl : l.length = s.ks.length := by rw [← el, List.length_map]
      have hl2 : l.length = 2048 := by have := hw.len; omega
      obtain ⟨A', c', hv, -, -, -⟩ := hs.row
      have c0 := hs.cell 1 _ rfl
      have c2 := hs.cell 2 _ rfl
      rw [hv, hl2] at c2
      have lt := hs.lt
      unfold okK at hok
      simp only [Bool.and_eq_true, decide_eq_true_eq] at hok
      obtain ⟨⟨a1, a2⟩, a3, a4⟩ := hok
      have b1 : decide (fr < 0) = false := decide_eq_false (by omega)
      have b2 : decide (s.nodes ≤ fr) = false := decide_eq_false (by omega)
      have b3 : decide (to < 0) = false := decide_eq_false (by omega)
      have b4 : decide (s.nodes ≤ to) = false := decide_eq_false (by omega)
      clear hs el hx hE hn hl hl2 hw hv a1 a2 a3 a4
      go_enter Try.func79, Try.ntmps79
      go_wp2_with fail
      refine HN.out.mono ?_
      rintro e w' ⟨rfl, rfl⟩
      go_wp2_with fail
      go_ret2
      exact ⟨rfl, HO.out⟩
  · have hE : sendE s fr to = 2 := by unfold sendE; rw [if_neg hok]
    rw [hE]
    have HO := Lib.hid (h.same (Below.refl _ _))
    have HN := Lib.hid (rnone_net h)
    obtain ⟨l, el, hs⟩ := h
    have c0 := hs.cell 1 _ rfl
    have lt := hs.lt
    clear hs el hx hE hw
    have hor : (decide (fr < 0) = true) ∨ (decide (fr < 0) = false ∧ decide (s.nodes ≤ fr) = true) ∨ (decide (fr < 0) = false ∧ decide (s.nodes ≤ fr) = false ∧ decide (to < 0) = true) ∨ (decide (fr < 0) = false ∧ decide (s.nodes ≤ fr) = false ∧ decide (to < 0) = false ∧ decide (s.nodes ≤ to) = true) := by
      unfold okK at hok
      simp only [Bool.and_eq_true, decide_eq_true_eq, decide_eq_false_iff_not] at hok ⊢
      omega
    clear hok
    rcases hor with b1 | ⟨b1, b2⟩ | ⟨b1, b2, b3⟩ | ⟨b1, b2, b3, b4⟩
    all_goals
      go_enter Try.func79, Try.ntmps79
      go_wp2_with fail
      refine HN.out.mono ?_
      rintro e w' ⟨rfl, rfl⟩
      go_wp2_with fail
      go_ret2
      exact ⟨rfl, HO.out⟩
end Go.Proofs.Ytlpdihcgdgkkbaa
