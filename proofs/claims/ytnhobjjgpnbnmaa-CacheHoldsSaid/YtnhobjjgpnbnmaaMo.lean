/- Walks: slices.Delete of one mark, in place. -/
import Derived.Test.YtnhobjjgpnbnmaaMn
namespace Go.Proofs.Ytnhobjjgpnbnmaa
open Go.RowKit Go.St
set_option linter.unusedVariables false
set_option linter.unusedSimpArgs false
set_option maxRecDepth 100000

theorem own_grb {w w' : World} {g : Nat} (h : w.grownBy w' (some g)) : Fr w.heap.size (some g) w w' := ⟨h.os, h.tape, h.output, h.size, fun k hk _ hg => h.block k hk (fun e => hg e.symm)⟩
theorem own_tk {w : World} {base n size : Nat} {e : TypeId} {v : Value} {xs : List Value} (h : w.ownsRow base e size v n xs) : xs.take (n * size) = xs := List.take_of_length_le (Nat.le_of_eq h.1)
theorem mv_mid (x : List Mk) (m : Mk) (y : List Mk) : (mv (x ++ m :: y)).take (x.length * 7) = mv x := by
  rw [mv_take, List.take_left]
theorem mv_two (x y : List Mk) : (mv (x ++ y)).take ((x.length + y.length) * 7) = mv (x ++ y) := by
  rw [mv_take, List.take_of_length_le (by simp)]
set_option maxHeartbeats 1600000 in
theorem cdel_any {W : World} {base g c : Nat} (x y : List Mk) (m : Mk) (i t : Nat) (hx : x.length = i) (hy : y.length = t) (hn : i + t ≤ 1048576) (hown : W.ownsRow base 63 7 (.slice (some ⟨g, 0, none⟩) (i + t + 1) c) (i + t + 1) (mv (x ++ m :: y))) :
    Calls Try.prog 33 #[.slice (some ⟨g, 0, none⟩) (i + t + 1) c, .int .i64 i, .int .i64 ((i : Int) + 1)] W
      fun e w' => e = .returned (.slice (some ⟨g, 0, none⟩) (i + t) c) ∧ w'.ownsRow base 63 7 (.slice (some ⟨g, 0, none⟩) (i + t) c) (i + t) (mv (x ++ y)) ∧ Fr W.heap.size (some g) W w' := by
  obtain ⟨hnc, hcm⟩ := own_capLe hown
  have hml : maxLen = 9223372036854775807 := rfl
  have HO := Lib.hid hown
  have HX := Lib.hid hx; have HY := Lib.hid hy
  clear hown hx hy
  have a1 : (0 : Int) ≤ (i : Int) := by omega
  have a2 : (i : Int) ≤ (i : Int) + 1 := by omega
  have a3 : (i : Int) + 1 ≤ ((i + t + 1 : Nat) : Int) := by omega
  have a4 : ((i + t + 1 : Nat) : Int) ≤ (c : Int) := by omega
  have a5 : (i : Int) ≤ (c : Int) := by omega
  have a6 : (i : Int) + 1 ≤ (c : Int) := by omega
  have a7 : (i : Int) ≤ ((i + t + 1 : Nat) : Int) := by omega
  have a8 : ((i : Int) == (i : Int) + 1) = false := by rw [beq_eq_false_iff_ne]; omega
  have a9 : ¬ ((i : Int) = (i : Int) + 1) := by omega
  have a10 : ((i : Int) + 1).toNat = i + 1 := by omega
  have a11 : ¬ (i + t + 1 = i) := by omega
  have a12 : i ≤ c := by omega
  have a13 : i + 1 ≤ c := by omega
  have a14 : i ≤ i + t + 1 := by omega
  have a15 : i + t + 1 - i = t + 1 := by omega
  have a16 : (0 : Int) ≤ (i : Int) + 1 := by omega
  have a17 : (i : Int) ≤ (i : Int) + (t : Int) := by omega
  have a18 : (i : Int) + (t : Int) ≤ (c : Int) := by omega
  have a19 : (i : Int) + (t : Int) + 1 ≤ (c : Int) := by omega
  have a20 : (0 : Int) ≤ (i : Int) + (t : Int) := by omega
  by_cases hct : c = i + 1
  · skip
    obtain rfl : t = 0 := by omega
    obtain rfl : y = [] := List.eq_nil_of_length_eq_zero HY.out
    subst hct
    go_enter Try.func33, Try.ntmps33
    go_upto_region 5 with (fail)
    refine wp_heldcut (S := fun X => Below W.heap.size W X) 6 (by kernel_rfl) (by kernel_rfl) (Below.drew (Below.refl _ _)) (fun hHeld => ?_)
    simp only [List.take_succ_cons, List.take_zero]
    refine takeL (i := 0) (v := ?_) rfl (by kernel_rfl) (by kernel_rfl) (by kernel_rfl) (fun _ _ _ h => h) ⟨by rfl, ?_⟩ (by assumption) ?_
    rotate_left
    · intro W9 hSw
      (try dsimp only at hSw)
      go_simp
      try with_reducible rfl
    (try simp only [Act.put, List.setIfInBounds_toArray, List.set_cons_zero, List.set_cons_succ])
    refine takeL (i := 1) (v := ?_) rfl (by kernel_rfl) (by kernel_rfl) (by kernel_rfl) (fun _ _ _ h => h) ⟨by rfl, ?_⟩ (by assumption) ?_
    rotate_left
    · intro W9 hSw
      (try dsimp only at hSw)
      go_simp
      try with_reducible rfl
    (try simp only [Act.put, List.setIfInBounds_toArray, List.set_cons_zero, List.set_cons_succ])
    refine takeL (i := 2) (v := ?_) rfl (by kernel_rfl) (by kernel_rfl) (by kernel_rfl) (fun _ _ _ h => h) ⟨by rfl, ?_⟩ (by assumption) ?_
    rotate_left
    · intro W9 hSw
      (try dsimp only at hSw)
      go_simp
      try with_reducible rfl
    (try simp only [Act.put, List.setIfInBounds_toArray, List.set_cons_zero, List.set_cons_succ])
    refine takeL (i := 3) (v := ?_) rfl (by kernel_rfl) (by kernel_rfl) (by kernel_rfl) (fun _ _ _ h => h) ⟨by rfl, ?_⟩ (by assumption) ?_
    rotate_left
    · intro W9 hSw
      (try dsimp only at hSw)
      go_simp
      try with_reducible rfl
    (try simp only [Act.put, List.setIfInBounds_toArray, List.set_cons_zero, List.set_cons_succ])
    refine takeL (i := 4) (v := ?_) rfl (by kernel_rfl) (by kernel_rfl) (by kernel_rfl) (fun _ _ _ h => h) ⟨by rfl, ?_⟩ (by assumption) ?_
    rotate_left
    · intro W9 hSw
      (try dsimp only at hSw)
      go_simp
      try with_reducible rfl
    (try simp only [Act.put, List.setIfInBounds_toArray, List.set_cons_zero, List.set_cons_succ])
    refine takeL (i := 5) (v := ?_) rfl (by kernel_rfl) (by kernel_rfl) (by kernel_rfl) (fun _ _ _ h => h) ⟨by rfl, ?_⟩ (by assumption) ?_
    rotate_left
    · intro W9 hSw
      (try dsimp only at hSw)
      go_simp
      try with_reducible rfl
    (try simp only [Act.put, List.setIfInBounds_toArray, List.set_cons_zero, List.set_cons_succ])
    have HO1 := Lib.hid (own_keep HO.out hHeld (Nat.le_refl _))
    have HB1 := Lib.hid hHeld
    clear HO hHeld
    generalize W.drew = X at *
    refine wpAnyH_done (by kernel_rfl) ?_ _
    simp only [tailPost, List.drop_succ_cons, List.drop_zero]
    have hcut := own_cut (k := i) HO1.out (by omega)
    have hmid : (mv (x ++ m :: [])).take (i * 7) = mv x := by rw [← HX.out]; exact mv_mid x m []
    rw [hmid] at hcut
    refine wpList_fitS styM (.tmp 22) (.tmp 25) rfl rfl base hcut rfl ⟨g, 0, none⟩ 0 0 (news := mv []) ?_ rfl (by rw [mv_length]; rfl) (mv_one _) (by omega) ?_
    · intro j u hu; simp [mv] at hu
    intro w2 own2 gr2
    have HO2 : Hid (w2.ownsRow base 63 7 (.slice (some ⟨g, 0, none⟩) (i + 0) (i + 1)) (i + 0) (mv (x ++ []))) := Lib.hid (by rw [mv_append]; exact own2)
    have F2 : Hid (Fr W.heap.size (some g) W w2) := Lib.hid ((Fr.of_below HB1.out).trans ((own_grb gr2).any) (.inl rfl))
    clear own2 gr2 hcut hmid HO1 HB1
    obtain ⟨w3, hrun, own3, gr3⟩ := run_clear_own (k := i + 0) (m := 1) (c := i + 1 - (i + 0)) styM w2 0 base HO2.out zeroM (by rfl) zM1 (Nat.le_refl _) (by omega)
    rw [own_tk HO2.out] at own3
    have HO3 := Lib.hid own3
    have HF3 := Lib.hid ((F2.out.trans ((own_grb gr3).any) (.inl rfl)))
    have hcl : ∀ ty, (Builtin.clear_ #[56] ty #[.slice (some ⟨g, (i + 0) * 7, none⟩) 1 (i + 1 - (i + 0))]).run Try.prog w2 = .ok (.tuple #[]) w3 := fun ty => hrun
    have l1 : ¬ (i + 1 = i + 0) := by omega
    have l2 : i + 0 ≤ i + 1 := by omega
    clear own3 gr3 hrun F2 HO2
    simp only [Nat.add_zero, Nat.zero_add, Nat.add_sub_cancel_left] at *
    go_wp2_with fail
    go_ret
    exact ⟨rfl, HO3.out, HF3.out⟩
  · skip
    have hct2 : ¬ (c = i + 1) := hct
    have hct3 : i + 1 < c := by omega
    go_enter Try.func33, Try.ntmps33
    go_upto_region 5 with (fail)
    refine wp_heldcut (S := fun X => Below W.heap.size W X) 6 (by kernel_rfl) (by kernel_rfl) (Below.drew (Below.refl _ _)) (fun hHeld => ?_)
    simp only [List.take_succ_cons, List.take_zero]
    refine takeL (i := 0) (v := ?_) rfl (by kernel_rfl) (by kernel_rfl) (by kernel_rfl) (fun _ _ _ h => h) ⟨by rfl, ?_⟩ (by assumption) ?_
    rotate_left
    · intro W9 hSw
      (try dsimp only at hSw)
      go_simp
      try with_reducible rfl
    (try simp only [Act.put, List.setIfInBounds_toArray, List.set_cons_zero, List.set_cons_succ])
    refine takeL (i := 1) (v := ?_) rfl (by kernel_rfl) (by kernel_rfl) (by kernel_rfl) (fun _ _ _ h => h) ⟨by rfl, ?_⟩ (by assumption) ?_
    rotate_left
    · intro W9 hSw
      (try dsimp only at hSw)
      go_simp
      try with_reducible rfl
    (try simp only [Act.put, List.setIfInBounds_toArray, List.set_cons_zero, List.set_cons_succ])
    refine takeL (i := 2) (v := ?_) rfl (by kernel_rfl) (by kernel_rfl) (by kernel_rfl) (fun _ _ _ h => h) ⟨by rfl, ?_⟩ (by assumption) ?_
    rotate_left
    · intro W9 hSw
      (try dsimp only at hSw)
      go_simp
      try with_reducible rfl
    (try simp only [Act.put, List.setIfInBounds_toArray, List.set_cons_zero, List.set_cons_succ])
    refine takeL (i := 3) (v := ?_) rfl (by kernel_rfl) (by kernel_rfl) (by kernel_rfl) (fun _ _ _ h => h) ⟨by rfl, ?_⟩ (by assumption) ?_
    rotate_left
    · intro W9 hSw
      (try dsimp only at hSw)
      go_simp
      try with_reducible rfl
    (try simp only [Act.put, List.setIfInBounds_toArray, List.set_cons_zero, List.set_cons_succ])
    refine takeL (i := 4) (v := ?_) rfl (by kernel_rfl) (by kernel_rfl) (by kernel_rfl) (fun _ _ _ h => h) ⟨by rfl, ?_⟩ (by assumption) ?_
    rotate_left
    · intro W9 hSw
      (try dsimp only at hSw)
      go_simp
      try with_reducible rfl
    (try simp only [Act.put, List.setIfInBounds_toArray, List.set_cons_zero, List.set_cons_succ])
    refine takeL (i := 5) (v := ?_) rfl (by kernel_rfl) (by kernel_rfl) (by kernel_rfl) (fun _ _ _ h => h) ⟨by rfl, ?_⟩ (by assumption) ?_
    rotate_left
    · intro W9 hSw
      (try dsimp only at hSw)
      go_simp
      try with_reducible rfl
    (try simp only [Act.put, List.setIfInBounds_toArray, List.set_cons_zero, List.set_cons_succ])
    have HO1 := Lib.hid (own_keep HO.out hHeld (Nat.le_refl _))
    have HB1 := Lib.hid hHeld
    clear HO hHeld
    generalize W.drew = X at *
    refine wpAnyH_done (by kernel_rfl) ?_ _
    simp only [tailPost, List.drop_succ_cons, List.drop_zero]
    have hcut := own_cut (k := i) HO1.out (by omega)
    have hmid : (mv (x ++ m :: y)).take (i * 7) = mv x := by rw [← HX.out]; exact mv_mid x m y
    rw [hmid] at hcut
    refine wpList_fitS styM (.tmp 22) (.tmp 25) rfl rfl base hcut rfl ⟨g, (i + 1) * 7, none⟩ t (c - (i + 1)) (news := mv y) ?_ rfl (by rw [mv_length]; rw [HY.out]) (mv_one _) (by omega) ?_
    · intro j u hu
      have h2 : (mv (x ++ m :: y))[(i + 1) * 7 + j]? = some u := by
        have e : mv (x ++ m :: y) = mv (x ++ [m]) ++ mv y := by rw [← mv_append]; simp
        rw [e, List.getElem?_append_right (by rw [mv_length]; simp; rw [HX.out]; omega), mv_length]
        have e2 : (i + 1) * 7 + j - (x ++ [m]).length * 7 = j := by simp; rw [HX.out]; omega
        rw [e2]; exact hu
      have h3 := HO1.out.cells (g := g) rfl _ _ h2
      have h4 : (⟨g, 0, none⟩ : Addr).add ((i + 1) * 7 + j) = (⟨g, (i + 1) * 7, none⟩ : Addr).add j := by
        unfold Addr.add; split <;> split <;> simp <;> omega
      rw [← h4]; exact h3
    intro w2 own2 gr2
    have HO2 : Hid (w2.ownsRow base 63 7 (.slice (some ⟨g, 0, none⟩) (i + t) c) (i + t) (mv (x ++ y))) := Lib.hid (by rw [mv_append]; exact own2)
    have F2 : Hid (Fr W.heap.size (some g) W w2) := Lib.hid ((Fr.of_below HB1.out).trans ((own_grb gr2).any) (.inl rfl))
    clear own2 gr2 hcut hmid HO1 HB1
    obtain ⟨w3, hrun, own3, gr3⟩ := run_clear_own (k := i + t) (m := 1) (c := c - (i + t)) styM w2 0 base HO2.out zeroM (by rfl) zM1 (Nat.le_refl _) (by omega)
    rw [own_tk HO2.out] at own3
    have HO3 := Lib.hid own3
    have HF3 := Lib.hid ((F2.out.trans ((own_grb gr3).any) (.inl rfl)))
    have hcl : ∀ ty, (Builtin.clear_ #[56] ty #[.slice (some ⟨g, (i + t) * 7, none⟩) 1 (c - (i + t))]).run Try.prog w2 = .ok (.tuple #[]) w3 := fun ty => hrun
    have l1 : ¬ (c = i + t) := by omega
    have l2 : i + t ≤ c := by omega
    clear own3 gr3 hrun F2 HO2
    go_wp2_with fail
    go_ret
    exact ⟨rfl, HO3.out, HF3.out⟩
end Go.Proofs.Ytnhobjjgpnbnmaa
