/- Walks: the first least mark found; marks compared. -/
import Derived.Test.YtnhobjjgpnbnmaaMj
namespace Go.Proofs.Ytnhobjjgpnbnmaa
open Go.RowKit Go.St
set_option linter.unusedVariables false
set_option linter.unusedSimpArgs false
set_option maxRecDepth 100000

theorem minI_eq {l : List Mk} {i : Nat} (hi : i < l.length) (h1 : ∀ m ∈ l, less m.a l[i].a = false) (h2 : ∀ (j : Nat) (hj : j < i), less l[i].a (l[j]'(by omega)).a = true) : minI l = i := by
  have hne : l ≠ [] := by intro e; subst e; simp at hi
  have hlt := minI_lt l hne
  have hk : minK l l[i] = l[minI l] := by unfold minK; simp only [List.getD, List.getElem?_eq_getElem hlt, Option.getD_some]
  rcases Nat.lt_trichotomy (minI l) i with h | h | h
  · have a1 := h2 _ h
    have a2 := minI_le l[i] l l[i] (List.getElem_mem hi)
    rw [hk] at a2
    rw [a1] at a2; cases a2
  · exact h
  · have a1 := minI_first l[i] l i h
    rw [hk] at a1
    simp only [List.getD, List.getElem?_eq_getElem hi, Option.getD_some] at a1
    rw [h1 _ (List.getElem_mem hlt)] at a1; cases a1
theorem minK_at {l : List Mk} (d : Mk) (h : minI l < l.length) : minK l d = l[minI l] := by
  unfold minK; simp only [List.getD, List.getElem?_eq_getElem h, Option.getD_some]
/-- The first least of the marks so far, one by one. -/
theorem minI_one (l : List Mk) (h : 0 < l.length) : minI (l.take 1) = 0 := by
  cases l with
  | nil => simp at h
  | cons x l => simp [minI]
theorem minI_step (l : List Mk) (d : Mk) (k : Nat) (h0 : 0 < k) (hk : k < l.length) : minI (l.take (k + 1)) = if less l[k].a (minK (l.take k) d).a then k else minI (l.take k) := by
  have hlen : (l.take k).length = k := by simp; omega
  have hlen1 : (l.take (k + 1)).length = k + 1 := by simp; omega
  have hlt : minI (l.take k) < k := by
    have := minI_lt (l.take k) (by intro e; rw [e] at hlen; simp at hlen; omega)
    omega
  have hm : minK (l.take k) d = l[minI (l.take k)] := by rw [minK_at d (by omega)]; simp
  have hmem : ∀ m ∈ l.take (k + 1), m ∈ l.take k ∨ m = l[k] := fun m hm => by
    rw [List.take_add_one, List.getElem?_eq_getElem hk] at hm
    rcases List.mem_append.1 hm with h | h
    · exact .inl h
    · exact .inr (by simpa using h)
  have hle := minI_le d (l.take k)
  have hfs := minI_first d (l.take k)
  split
  · rename_i hc
    refine minI_eq (by omega) (fun m hmm => ?_) (fun j hj => ?_)
    · simp only [List.getElem_take]
      rcases hmem m hmm with h | h
      · have := hle m h
        cases hx : less m.a l[k].a
        · rfl
        · rw [less_trans hx hc] at this; cases this
      · subst h; exact less_irrefl _
    · simp only [List.getElem_take]
      have hj2 : l[j] ∈ l.take k := List.mem_take_iff_getElem.2 ⟨j, by omega, rfl⟩
      have a1 := hle _ hj2
      rw [hm] at a1 hc
      cases hx : less l[k].a l[j].a
      · exfalso
        have a2 := nlt_trans (show less l[j].a l[minI (l.take k)].a = false from a1 |> fun h => h) hx
        cases hy : less l[k].a l[minI (l.take k)].a
        · rw [hc] at hy; cases hy
        · rw [less_no] at a1 hx
          rw [less_iff] at hy
          omega
      · rfl
  · rename_i hc
    refine minI_eq (by omega) (fun m hmm => ?_) (fun j hj => ?_)
    · simp only [List.getElem_take]
      rw [← hm]
      rcases hmem m hmm with h | h
      · exact hle m h
      · subst h; simpa using hc
    · simp only [List.getElem_take]
      have := hfs j hj
      rw [hm] at this
      simpa [List.getD, List.getElem?_take, show j < k by omega, show j < l.length by omega] using this
theorem minK_step (l : List Mk) (d : Mk) (k : Nat) (h0 : 0 < k) (hk : k < l.length) : minK (l.take (k + 1)) d = if less l[k].a (minK (l.take k) d).a then l[k] else minK (l.take k) d := by
  have hlen : (l.take k).length = k := by simp; omega
  have hlen1 : (l.take (k + 1)).length = k + 1 := by simp; omega
  have hlt : minI (l.take k) < k := by
    have := minI_lt (l.take k) (by intro e; rw [e] at hlen; simp at hlen; omega)
    omega
  have hs := minI_step l d k h0 hk
  have h1 : minI (l.take (k + 1)) < (l.take (k + 1)).length := by rw [hs, hlen1]; split <;> omega
  rw [minK_at d h1]
  simp only [List.getElem_take]
  by_cases hc : less l[k].a (minK (l.take k) d).a = true
  · rw [if_pos hc] at hs ⊢
    simp only [hs]
  · rw [if_neg hc] at hs ⊢
    rw [minK_at d (by omega)]
    simp only [hs, List.getElem_take]
theorem cearl_any (x y : Mk) (w : World) : Calls Try.prog 31 #[mkV x, mkV y] w fun e w' => e = .returned (.int .i64 (cmpS x.a y.a)) ∧ Below w.heap.size w w' := by
  have HC := Lib.hid (fun X => hcompare_any x.a y.a X)
  generalize cmpS x.a y.a = K at *
  unfold mkV
  go_enter Try.func31, Try.ntmps31
  go_wp2_with fail
  refine (HC.out _).mono ?_
  rintro e w1 ⟨rfl, hb⟩
  have HB : Hid (Below w.heap.size w w1) := Below.go (by go_grown) hb (by go_size)
  clear hb
  go_wp2_with fail
  go_ret
  exact ⟨rfl, HB.out⟩
set_option maxHeartbeats 1600000 in
theorem eq_mark_self (m : Mk) (w : World) : (binOp .eql 63 (mkV m) (mkV m)).run Try.prog w = .ok (.bool true) w := by
  unfold mkV
  simp [go_sem]
set_option maxHeartbeats 1600000 in
theorem eq_mark_ne {a b : Mk} (h : a.a ≠ b.a) (w : World) : (binOp .eql 63 (mkV a) (mkV b)).run Try.prog w = .ok (.bool false) w := by
  have h2 : ¬ (a.a.wall = b.a.wall ∧ a.a.logic = b.a.logic ∧ a.a.tag = b.a.tag) := fun h3 => h (stp_ext h3.1 h3.2.1 h3.2.2)
  unfold mkV
  by_cases h6 : a.f.toList = b.f.toList
  · by_cases h7 : a.t.toList = b.t.toList
    · by_cases h3 : a.a.wall = b.a.wall
      · by_cases h4 : a.a.logic = b.a.logic
        · have h5 : ¬ a.a.tag = b.a.tag := fun h5 => h2 ⟨h3, h4, h5⟩
          simp [go_sem, h6, h7, h3, h4, h5]
        · simp [go_sem, h6, h7, h3, h4]
      · simp [go_sem, h6, h7, h3]
    · simp [go_sem, h6, h7]
  · simp [go_sem, h6]
end Go.Proofs.Ytnhobjjgpnbnmaa
