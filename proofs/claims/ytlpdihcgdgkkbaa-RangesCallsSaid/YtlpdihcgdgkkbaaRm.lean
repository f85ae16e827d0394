/- Plain law: texts stand in one strict order; the place of a key among texts that stand in order. -/
import Derived.Test.YtlpdihcgdgkkbaaRd
import Derived.Sort.Walk0
namespace Go.Proofs.Ytlpdihcgdgkkbaa
open Go.RowKit Go.St
set_option linter.unusedVariables false
set_option linter.unusedSimpArgs false

theorem klt_iff (a b : ByteArray) : klt a b = true ↔ a.toList < b.toList := by
  unfold klt; rw [bytesLess_eq]; exact decide_eq_true_iff
theorem klt_false (a b : ByteArray) : klt a b = false ↔ ¬ a.toList < b.toList := by
  unfold klt; rw [bytesLess_eq]; exact decide_eq_false_iff_not
theorem toList_inj {a b : ByteArray} (h : a.toList = b.toList) : a = b := by
  rw [Lib.toList_data, Lib.toList_data] at h
  cases a with
  | mk a => cases b with
    | mk b => exact congrArg ByteArray.mk (Array.toList_inj.1 h)
theorem klt_irrefl (a : ByteArray) : klt a a = false := (klt_false _ _).2 (List.lt_irrefl _)
theorem klt_trans {a b c : ByteArray} (h : klt a b = true) (k : klt b c = true) : klt a c = true :=
  (klt_iff _ _).2 (List.lt_trans ((klt_iff _ _).1 h) ((klt_iff _ _).1 k))
theorem klt_asymm {a b : ByteArray} (h : klt a b = true) : klt b a = false := by
  cases k : klt b a
  · rfl
  · have := klt_trans h k; rw [klt_irrefl] at this; cases this
theorem klt_total {a b : ByteArray} (h : klt a b = false) (k : klt b a = false) : a = b := by
  have h := (klt_false _ _).1 h; have k := (klt_false _ _).1 k
  exact toList_inj (List.le_antisymm k h)
/-- Not above, then below: below. -/
theorem klt_of_le_lt {a b c : ByteArray} (h : klt b a = false) (k : klt b c = true) : klt a c = true := by
  cases h' : klt a b
  · rw [klt_total h' h]; exact k
  · exact klt_trans h' k
theorem klt_of_lt_le {a b c : ByteArray} (h : klt a b = true) (k : klt c b = false) : klt a c = true := by
  cases h' : klt b c
  · rw [← klt_total h' k]; exact h
  · exact klt_trans h h'
theorem kle_trans {a b c : ByteArray} (h : klt b a = false) (k : klt c b = false) : klt c a = false := by
  cases h' : klt c a
  · rfl
  · have := klt_of_lt_le h' h; rw [k] at this; cases this

theorem ordT_lt {l : List ByteArray} (h : ordT l l.length = true) : ∀ {i j : Nat}, i < j → j < l.length → klt (l.getD i zE) (l.getD j zE) = true := by
  unfold ordT at h
  rw [List.all_eq_true] at h
  intro i j
  induction j with
  | zero => intro a; omega
  | succ j ih =>
    intro a b
    have hj := h j (List.mem_range.2 (by omega))
    by_cases e : i = j
    · subst e; exact hj
    · exact klt_trans (ih (by omega) (by omega)) hj

/-- How many texts are below a key; how many are not above it. -/
def bsT (l : List ByteArray) (k : ByteArray) : Nat := (l.takeWhile fun s => klt s k).length
def ofT (l : List ByteArray) (k : ByteArray) : Nat := bsT l k + if hasT l k then 1 else 0

theorem takeWhile_len {α} (p : α → Bool) (d : α) : ∀ (l : List α) (n : Nat), n ≤ l.length → (∀ i, i < n → p (l.getD i d) = true) → (n < l.length → p (l.getD n d) = false) → (l.takeWhile p).length = n
  | [], n, h, _, _ => by simp at h; subst h; rfl
  | x :: l, 0, _, _, h => by have := h (by simp); simp at this; simp [this]
  | x :: l, n + 1, h, a, b => by
    have h0 := a 0 (by omega)
    simp only [List.getD_cons_zero] at h0
    rw [List.takeWhile_cons, h0]
    simp only [if_true, List.length_cons]
    rw [takeWhile_len p d l n (by simpa using h) (fun i hi => by have := a (i + 1) (by omega); simpa using this) (fun hn => by have := b (by simpa using hn); simpa using this)]
theorem bsT_eq {l : List ByteArray} {k : ByteArray} {p : Nat} (h : p ≤ l.length) (a : ∀ i, i < p → klt (l.getD i zE) k = true) (b : ∀ i, p ≤ i → i < l.length → klt (l.getD i zE) k = false) : bsT l k = p :=
  takeWhile_len _ zE l p h a (fun hp => b p (Nat.le_refl _) hp)
theorem hasT_yes {l : List ByteArray} {k : ByteArray} {p : Nat} (h : p < l.length) (e : l.getD p zE = k) : hasT l k = true := by
  refine hasT_hit (j := p) h ?_
  rw [← e]; simp [List.getD, h]
theorem hasT_no {l : List ByteArray} {k : ByteArray} (h : ∀ i, i < l.length → l.getD i zE ≠ k) : hasT l k = false := by
  cases e : hasT l k
  · rfl
  · unfold hasT at e
    rw [List.any_eq_true] at e
    obtain ⟨s, hs, hk⟩ := e
    obtain ⟨i, hi, rfl⟩ := List.getElem_of_mem hs
    exact absurd (by simp [List.getD, hi]; exact (toList_inj (by simpa using hk)).symm) (h i hi)
theorem hasT_iff {l : List ByteArray} {k : ByteArray} : hasT l k = true ↔ ∃ i, i < l.length ∧ l.getD i zE = k := by
  constructor
  · intro h
    refine Classical.byContradiction fun hn => ?_
    have := hasT_no (l := l) (k := k) (fun i hi e => hn ⟨i, hi, e⟩)
    rw [h] at this; cases this
  · rintro ⟨i, hi, e⟩; exact hasT_yes hi e
/-- The place that the halving found: is the key there? -/
theorem hasT_at {l : List ByteArray} {k : ByteArray} {p : Nat} (ho : ordT l l.length = true) (a : ∀ i, i < p → klt (l.getD i zE) k = true) (b : ∀ i, p ≤ i → i < l.length → klt (l.getD i zE) k = false) (hn : p < l.length → l.getD p zE ≠ k) : hasT l k = false := by
  refine hasT_no fun i hi e => ?_
  by_cases c : i < p
  · have := a i c; rw [e, klt_irrefl] at this; cases this
  · by_cases c' : i = p
    · subst c'; exact hn hi e
    · have h1 := ordT_lt ho (i := p) (j := i) (by omega) hi
      rw [e, b p (Nat.le_refl _) (by omega)] at h1; cases h1
theorem below_all {l : List ByteArray} {k : ByteArray} {m : Nat} (ho : ordT l l.length = true) (hm : m < l.length) (h : klt (l.getD m zE) k = true) : ∀ i, i < m + 1 → klt (l.getD i zE) k = true := by
  intro i hi
  by_cases e : i = m
  · subst e; exact h
  · exact klt_trans (ordT_lt ho (i := i) (j := m) (by omega) hm) h
theorem above_all {l : List ByteArray} {k : ByteArray} {m : Nat} (ho : ordT l l.length = true) (h : klt (l.getD m zE) k = false) : ∀ i, m ≤ i → i < l.length → klt (l.getD i zE) k = false := by
  intro i hi hl
  by_cases e : m = i
  · subst e; exact h
  · cases h2 : klt (l.getD i zE) k
    · rfl
    · have := klt_trans (ordT_lt ho (i := m) (j := i) (by omega) hl) h2
      rw [h] at this; cases this
end Go.Proofs.Ytlpdihcgdgkkbaa
