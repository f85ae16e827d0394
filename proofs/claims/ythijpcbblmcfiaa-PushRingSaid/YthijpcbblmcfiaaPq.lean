/- Plain law of the ring: stamps are in a strict order; how many are unseen. -/
import Derived.Test.YthijpcbblmcfiaaHmath
import Derived.Test.YthijpcbblmcfiaaBase
namespace Go.Proofs.Ythijpcbblmcfiaa
open Go.RowKit Go.St
set_option linter.unusedVariables false
set_option linter.unusedSimpArgs false

theorem less_trans {a b c : Stp} (h : less a b = true) (k : less b c = true) : less a c = true := by
  simp only [less, decide_eq_true_eq] at *
  omega
theorem less_irr (a : Stp) : ¬ less a a = true := by
  simp only [less, decide_eq_true_eq]
  omega
theorem less_tri {a b : Stp} (h : a ≠ b) (k : less a b = false) : less b a = true := by
  obtain ⟨x, y, z⟩ := a
  obtain ⟨x', y', z'⟩ := b
  simp only [less, decide_eq_true_eq, decide_eq_false_iff_not] at *
  by_cases e : x = x' ∧ y = y' ∧ z = z'
  · obtain ⟨rfl, rfl, rfl⟩ := e
    exact absurd rfl h
  · omega

/-- How many are not seen yet. -/
def un : List Bool → Nat
  | [] => 0
  | b :: r => (if b then 0 else 1) + un r
theorem un_set : ∀ {l : List Bool} {y : Nat}, l[y]? = some false → un (l.set y true) + 1 = un l
  | [], _, h => by simp at h
  | b :: r, 0, h => by
    have e : b = false := by simpa using h
    subst e
    simp [un]
    omega
  | b :: r, y + 1, h => by
    have := un_set (l := r) (y := y) (by simpa using h)
    simp [un]
    omega
theorem un_rep : ∀ n, un (List.replicate n false) = n
  | 0 => rfl
  | n + 1 => by rw [List.replicate_succ]; simp [un, un_rep n]; omega
/-- The same, read off the block where the flags lie. -/
def flg (o : Option Value) : Nat := match o with | some (.bool false) => 1 | _ => 0
def unW (W : World) (g : Nat) : Nat → Nat → Nat
  | 0, _ => 0
  | n + 1, i => flg (W.cell? ⟨g, i, none⟩) + unW W g n (i + 1)
theorem unW_eq {W : World} {g : Nat} : ∀ (l : List Bool) (i : Nat), (∀ j b, l[j]? = some b → W.cell? ⟨g, i + j, none⟩ = some (.bool b)) → unW W g l.length i = un l
  | [], _, _ => rfl
  | b :: r, i, h => by
    have h0 := h 0 b rfl
    have hr := unW_eq r (i + 1) (fun j c hc => by
      have := h (j + 1) c hc
      rwa [show i + (j + 1) = i + 1 + j by omega] at this)
    simp only [List.length_cons, unW, un]
    rw [Nat.add_zero] at h0
    rw [hr, h0]
    cases b <;> rfl
end Go.Proofs.Ythijpcbblmcfiaa
