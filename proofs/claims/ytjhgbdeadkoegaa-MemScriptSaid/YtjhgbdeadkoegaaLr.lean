/- Plain law: entries one behind the other; lanes. -/
import Derived.Test.YtjhgbdeadkoegaaLp
namespace Go.Proofs.Ytjhgbdeadkoegaa
open Go.RowKit Go.St Go.Shelf Go.Maps
set_option linter.unusedVariables false
set_option linter.unusedSimpArgs false
set_option maxRecDepth 100000

def adds (hs : List Int) (l : List Ent) : List Ld := l.foldl (fun L e => addL hs e L) []
theorem adds_succ {hs : List Int} {l : List Ent} {i : Nat} {x : Ent} (h : l[i]? = some x) : adds hs (l.take (i + 1)) = addL hs x (adds hs (l.take i)) := by
  unfold adds
  rw [List.take_add_one, h]
  simp [List.foldl_append]
theorem adds_len' (hs : List Int) : ∀ (l : List Ent) (L : List Ld), (l.foldl (fun L e => addL hs e L) L).length ≤ L.length + l.length
  | [], _ => by simp
  | e :: r, L => by
    have h1 := adds_len' hs r (addL hs e L)
    have h2 := addL_len hs e L
    rw [List.foldl_cons, List.length_cons]
    omega
theorem adds_len (hs : List Int) (l : List Ent) : (adds hs l).length ≤ l.length := by
  have := adds_len' hs l []
  simpa [adds] using this
theorem smallM_get {l : List Ent} (h : smallM l = true) : l.length ≤ 60 ∧ ∀ (i : Nat) (x : Ent), l[i]? = some x → x.key.size ≤ 600 ∧ x.val.size ≤ 600 := by
  unfold smallM at h
  rw [Bool.and_eq_true, decide_eq_true_eq, List.all_eq_true] at h
  refine ⟨h.2, fun i x hx => ?_⟩
  have := h.1 x (List.mem_of_getElem? hx)
  unfold smlE at this
  rw [Bool.and_eq_true, decide_eq_true_eq, decide_eq_true_eq] at this
  exact this
theorem asc_lt {V : List Int} (h : V.Pairwise (· < ·)) {i j : Nat} {a b : Int} (hij : i < j) (ha : V[i]? = some a) (hb : V[j]? = some b) : a < b := by
  obtain ⟨h1, rfl⟩ := List.getElem?_eq_some_iff.1 ha
  obtain ⟨h2, rfl⟩ := List.getElem?_eq_some_iff.1 hb
  exact List.pairwise_iff_getElem.1 h i j h1 h2 hij
theorem lnJ_ge (h : Int) : ∀ (L : List Ld) (i : Nat) (x : Int), x ∈ lnJ h i L → (i : Int) ≤ x
  | [], _, _, hx => by cases hx
  | y :: r, i, x, hx => by
    rw [lnJ] at hx
    split at hx
    · rcases List.mem_cons.1 hx with h1 | h1
      · omega
      · have := lnJ_ge h r (i + 1) x h1; omega
    · have := lnJ_ge h r (i + 1) x hx; omega
theorem lnJ_asc (h : Int) : ∀ (L : List Ld) (i : Nat), (lnJ h i L).Pairwise (· < ·)
  | [], _ => List.Pairwise.nil
  | y :: r, i => by
    rw [lnJ]
    split
    · rw [List.pairwise_cons]
      exact ⟨fun x hx => by have := lnJ_ge h r (i + 1) x hx; omega, lnJ_asc h r (i + 1)⟩
    · exact lnJ_asc h r (i + 1)
theorem lnJ_mono {h h' : Int} (hh : h' ≤ h) : ∀ (L : List Ld) (i : Nat) (x : Int), x ∈ lnJ h i L → x ∈ lnJ h' i L
  | [], _, _, hx => by cases hx
  | y :: r, i, x, hx => by
    rw [lnJ] at hx ⊢
    split at hx
    · rw [if_pos (by omega)]
      rcases List.mem_cons.1 hx with h1 | h1
      · rw [h1]; exact List.mem_cons_self ..
      · exact List.mem_cons_of_mem _ (lnJ_mono hh r (i + 1) x h1)
    · have := lnJ_mono hh r (i + 1) x hx
      split
      · exact List.mem_cons_of_mem _ this
      · exact this
theorem lnJ_all {L : List Ld} (hL : ∀ x ∈ L, 1 ≤ x.2) (i : Nat) : (lnJ 1 i L).length = L.length := by
  induction L generalizing i with
  | nil => rfl
  | cons y r ih =>
    rw [lnJ, if_pos (by have := hL y (List.mem_cons_self ..); omega), List.length_cons, ih (fun x hx => hL x (List.mem_cons_of_mem _ hx)), List.length_cons]
theorem lnJ_len (h : Int) : ∀ (L : List Ld) (i : Nat), (lnJ h i L).length ≤ L.length
  | [], _ => Nat.le_refl _
  | y :: r, i => by
    have := lnJ_len h r (i + 1)
    rw [lnJ]
    split <;> simp only [List.length_cons] <;> omega
theorem lnL_len (h : Int) (L : List Ld) : (lnL h L).length ≤ L.length := by
  unfold lnL
  split
  · exact lnJ_len _ _ _
  · exact Nat.zero_le _
theorem lnL_asc (h : Int) (L : List Ld) : (lnL h L).Pairwise (· < ·) := by
  unfold lnL
  split
  · exact lnJ_asc _ _ _
  · exact List.Pairwise.nil
theorem lnL_sub {h : Int} (h2 : 2 ≤ h) (h12 : h ≤ 12) (L : List Ld) : ∀ x ∈ lnL h L, x ∈ lnL (h - 1) L := by
  unfold lnL
  rw [if_pos ⟨by omega, h12⟩, if_pos ⟨by omega, by omega⟩]
  exact lnJ_mono (by omega) L 0
theorem lnL_one {L : List Ld} (hL : ∀ x ∈ L, 1 ≤ x.2 ∧ x.2 ≤ 12) : (lnL 1 L).length = L.length := by
  unfold lnL
  rw [if_pos ⟨by omega, by omega⟩]
  exact lnJ_all (fun x hx => (hL x hx).1) 0
theorem cst_le (key : ByteArray) (seq : Int) (L : List Ld) : cst key seq L ≤ L.length + 12 := by
  unfold cst
  have := fnd_cost ⟨key, zB, seq, false⟩ 12 0 (rwN L)
  rwa [show (rwN L).length = L.length from List.length_map _] at this
end Go.Proofs.Ytjhgbdeadkoegaa
