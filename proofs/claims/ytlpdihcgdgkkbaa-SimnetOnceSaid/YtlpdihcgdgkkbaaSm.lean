/- Walks: a letter taken out of a row (slices.Delete). -/
import Derived.Test.YtlpdihcgdgkkbaaSl
namespace Go.Proofs.Ytlpdihcgdgkkbaa
open Go.RowKit Go.St
set_option linter.unusedVariables false
set_option linter.unusedSimpArgs false
set_option maxRecDepth 100000

theorem zeroL : ∀ w, (zeroValue 51).run Try.prog w = .ok (.agg #[.int .i64 0, .int .i64 0, .int .i64 0, .slice none 0 0]) w := Try.zeroValue51
theorem zL1 : ∀ u ∈ (Value.agg #[.int .i64 0, .int .i64 0, .int .i64 0, .slice none 0 0]).cells.toList, u.oneCell' = true := by
  intro u hu
  simp [Value.cells] at hu
  rcases hu with rfl | rfl <;> rfl
theorem lv_erase (l : List Ltr) (i : Nat) : (lv l).take (i * 4) ++ (lv l).drop ((i + 1) * 4) = lv (l.eraseIdx i) := by
  rw [lv_take, lv_drop, ← lv_append, List.eraseIdx_eq_take_drop_succ]
set_option maxHeartbeats 1600000 in
theorem sdel_any {W : World} {base g m c : Nat} {l : List Ltr} (hl : l.length = m + 1) (hn : m + 1 ≤ 2048) (hown : W.ownsRow base 51 4 (.slice (some ⟨g, 0, none⟩) (m + 1) c) (m + 1) (lv l)) (i : Nat) (hi : i ≤ m) :
    Calls Try.prog 76 #[.slice (some ⟨g, 0, none⟩) (m + 1) c, .int .i64 i, .int .i64 ((i : Int) + 1)] W fun e w' => e = .returned (.slice (some ⟨g, 0, none⟩) m c) ∧ w'.ownsRow base 51 4 (.slice (some ⟨g, 0, none⟩) m c) m (lv (l.eraseIdx i)) ∧ ∀ b, Fr b (some g) W w' := by
  obtain ⟨hnc, hcm⟩ := own_capLe hown
  have HO := Lib.hid hown
  have HL := Lib.hid hl
  have i1 : (i : Int) ≤ ((m + 1 : Nat) : Int) := by omega
  have i2 : (i : Int) + 1 ≤ ((m + 1 : Nat) : Int) := by omega
  have i3 : (i : Int) ≤ (i : Int) + 1 := by omega
  have i4 : ((i : Int) == (i : Int) + 1) = false := by rw [beq_eq_false_iff_ne]; omega
  have i5 : (0 : Int) ≤ (i : Int) := by omega
  have i6 : (0 : Int) ≤ (i : Int) + 1 := by omega
  have i7 : i ≤ c := by omega
  have i8 : i + 1 ≤ c := by omega
  have hlv : (lv l).length = (m + 1) * 4 := hown.1
  have hgl := (hown.lt g rfl).2
  obtain ⟨ad, hif, hnew⟩ : ∃ ad : Addr, (if c = i + 1 then some (⟨g, 0, none⟩ : Addr) else some ⟨g, (i + 1) * 4, none⟩) = some ad ∧ ∀ j u, ((lv l).drop ((i + 1) * 4))[j]? = some u → W.cell? (ad.add j) = some u := by
    by_cases hc : c = i + 1
    · refine ⟨⟨g, 0, none⟩, by rw [if_pos hc], fun j u hu => ?_⟩
      rw [List.drop_of_length_le (by omega)] at hu
      cases hu
    · refine ⟨⟨g, (i + 1) * 4, none⟩, by rw [if_neg hc], fun j u hu => ?_⟩
      rw [List.getElem?_drop] at hu
      have h1 : (i + 1) * 4 + j < (m + 1) * 4 := by rw [← hlv]; exact (List.getElem?_eq_some_iff.1 hu).1
      have h2 := hown.cellAt ((i + 1) * 4 + j) h1
      unfold Addr.add
      split
      · rename_i h0; subst h0; rw [Nat.add_zero] at h2 hu; rw [h2]; exact hu
      · rw [h2]; exact hu
  have HN := Lib.hid hnew
  have HLV := Lib.hid hlv
  clear hown hl hnew hlv
  go_enter Try.func76, Try.ntmps76
  go_upto_region 5 with (fail)
  refine wp_heldcut (S := fun X => True) 7 (by kernel_rfl) (by kernel_rfl) trivial (fun hTrue => ?_)
  simp only [List.take_succ_cons, List.take_zero]
  refine takeL (i := 0) (v := ?_) rfl (by kernel_rfl) (by kernel_rfl) (by kernel_rfl) (fun _ _ _ h => h) ⟨by rfl, ?_⟩ (by assumption) ?_
  rotate_left
  · intro W9 hSw
    (try dsimp only at hSw)
    go_simp
    try with_reducible rfl
  (try simp only [Act.put, List.setIfInBounds_toArray, List.set_cons_zero, List.set_cons_succ])
  refine takeL (i := 1) (v := ?_) rfl (by kernel_rfl) (by kernel_rfl) (by kernel_rfl) (fun _ _ _ h => h) ⟨by rfl, ?_⟩ (by assumption) ?_
  rotate_left
  · intro W9 hSw
    (try dsimp only at hSw)
    go_simp
    try with_reducible rfl
  (try simp only [Act.put, List.setIfInBounds_toArray, List.set_cons_zero, List.set_cons_succ])
  refine takeL (i := 2) (v := ?_) rfl (by kernel_rfl) (by kernel_rfl) (by kernel_rfl) (fun _ _ _ h => h) ⟨by rfl, ?_⟩ (by assumption) ?_
  rotate_left
  · intro W9 hSw
    (try dsimp only at hSw)
    go_simp
    try with_reducible rfl
  (try simp only [Act.put, List.setIfInBounds_toArray, List.set_cons_zero, List.set_cons_succ])
  refine takeL (i := 3) (v := ?_) rfl (by kernel_rfl) (by kernel_rfl) (by kernel_rfl) (fun _ _ _ h => h) ⟨by rfl, ?_⟩ (by assumption) ?_
  rotate_left
  · intro W9 hSw
    (try dsimp only at hSw)
    go_simp
    try with_reducible rfl
  (try simp only [Act.put, List.setIfInBounds_toArray, List.set_cons_zero, List.set_cons_succ])
  refine takeL (i := 4) (v := ?_) rfl (by kernel_rfl) (by kernel_rfl) (by kernel_rfl) (fun _ _ _ h => h) ⟨by rfl, ?_⟩ (by assumption) ?_
  rotate_left
  · intro W9 hSw
    (try dsimp only at hSw)
    go_simp
    try with_reducible rfl
  (try simp only [Act.put, List.setIfInBounds_toArray, List.set_cons_zero, List.set_cons_succ])
  refine takeL (i := 5) (v := ?_) rfl (by kernel_rfl) (by kernel_rfl) (by kernel_rfl) (fun _ _ _ h => h) ⟨by rfl, ?_⟩ (by assumption) ?_
  rotate_left
  · intro W9 hSw
    (try dsimp only at hSw)
    go_simp
    try with_reducible rfl
  (try simp only [Act.put, List.setIfInBounds_toArray, List.set_cons_zero, List.set_cons_succ])
  have hHeld : Below W.heap.size W W.drew := Below.drew (Below.refl _ _)
  generalize W.drew = X at *
  refine wpAnyH_ready (rs := [6]) (by kernel_rfl) (by simp) ?_
  refine consL rfl (by rfl) (fun K hK => ?_) ?_
  · have OX := own_cut (own_keep HO.out hHeld (Nat.le_refl _)) (k := i) (by omega)
    refine wp_fit styL (.tmp 22) (.tmp 25) rfl base OX rfl ad (m - i) (c - (i + 1)) (news := (lv l).drop ((i + 1) * 4)) (fun j u hu => ?_) rfl (by rw [List.length_drop, HLV.out]; omega) (fun u hu => lv_one l u (List.mem_of_mem_drop hu)) (by omega) ?_
    · have h1 := HN.out j u hu
      exact (hHeld.cell (World.block_lt_of_cell? _ _ h1)).trans h1
    intro w2 own2 gr2
    have h9 : Below W.heap.size W X := hHeld
    have hfr : Hid (∀ b, Fr b (some g) W w2) := Lib.hid (fun b => (Fr.of_below (row := some g) h9).grown gr2 (.inl rfl))
    rw [show i + (m - i) = m by omega, lv_erase] at own2
    rw [show i + (m - i) = m by omega]
    refine hK.out _ _ trivial (fun _ => ?_)
    obtain ⟨w3, hrun, own3, gr3⟩ := run_clear_own (k := m) (m := 1) (c := c - m) styL w2 0 base own2 zeroL (by rfl) zL1 (Nat.le_refl _) (by omega)
    have hcl : ∀ ty, (Builtin.clear_ #[58] ty #[.slice (some ⟨g, m * 4, none⟩) 1 (c - m)]).run Try.prog w2 = .ok (.tuple #[]) w3 := fun ty => hrun
    have hfr3 : Hid (∀ b, Fr b (some g) W w3) := Lib.hid (fun b => (hfr.out b).grown gr3 (.inl rfl))
    have hlen : (l.eraseIdx i).length = m := by rw [List.length_eraseIdx]; rw [if_pos (by rw [HL.out]; omega), HL.out]; omega
    have O3 : Hid (w3.ownsRow base 51 4 (.slice (some ⟨g, 0, none⟩) m c) m (lv (l.eraseIdx i))) := Lib.hid (own_eq own3 rfl (by rw [List.take_of_length_le]; rw [lv_length, hlen]; exact Nat.le_refl _))
    have k1 : ¬ (c = m) := by omega
    have k2 : (m : Int) ≤ (m : Int) + 1 := by omega
    have k3 : m ≤ c := by omega
    have k4 : m + 1 ≤ c := hnc
    have k5 : (m : Int) ≤ ((m + 1 : Nat) : Int) := by omega
    clear hK K own2 gr2 hfr hrun own3 gr3 hlen OX h9 hHeld HN HLV HL HO hif
    refine wpAnyH_done (by kernel_rfl) ?_ _
    simp only [tailPost, List.drop_succ_cons, List.drop_zero]
    go_wp2_with fail
    go_ret
    exact ⟨rfl, O3.out, hfr3.out⟩
  exact AllReadyH.nil
end Go.Proofs.Ytlpdihcgdgkkbaa
