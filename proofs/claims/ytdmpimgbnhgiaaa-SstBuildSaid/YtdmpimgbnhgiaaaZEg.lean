/- Walks: small lists; spans; what is visible in a span. -/
import Derived.Test.YtdmpimgbnhgiaaaZEf

namespace Go.Proofs.Ytdmpimgbnhgiaaa
open Go.RowKit Go.St Go.Maps
set_option linter.unusedVariables false
set_option linter.unusedSimpArgs false
set_option maxRecDepth 100000

set_option maxHeartbeats 1600000 in
theorem in_any (k fr to_ : ByteArray) (w : World) : Calls Try.prog 27 #[.string k, .agg #[.string fr, .string to_]] w fun e w' => e = .returned (.bool (inS fr to_ k)) ∧ Below w.heap.size w w' := by
  unfold inS klt
  cases h1 : Op.bytesLess k.toList fr.toList
  · cases h2 : to_.toList.isEmpty
    · cases h3 : Op.bytesLess k.toList to_.toList
      all_goals
        go_enter Try.func27, Try.ntmps27
        go_wp2_with fail
        go_ret
        exact ⟨by simp [*], (Below.refl _ _).alloc (Nat.le_refl _) _⟩
    · go_enter Try.func27, Try.ntmps27
      go_wp2_with fail
      go_ret
      exact ⟨by simp [*], (Below.refl _ _).alloc (Nat.le_refl _) _⟩
  · go_enter Try.func27, Try.ntmps27
    go_wp2_with fail
    go_ret
    exact ⟨by simp [*], (Below.refl _ _).alloc (Nat.le_refl _) _⟩

theorem visA_fin {fr to_ : ByteArray} {seq : Int} {last : Option ByteArray} {l : List Ent} {i : Nat} (h : l.length ≤ i) : visA fr to_ seq last (l.drop i) = [] := by rw [List.drop_eq_nil_of_le h]; simp [visA]
theorem nil_or_snoc (l : List Ent) : l = [] ∨ ∃ o y, l = o ++ [y] := by
  rcases List.eq_nil_or_concat l with h | ⟨o, y, h⟩
  · exact .inl h
  · exact .inr ⟨o, y, by rw [h, List.concat_eq_append]⟩
theorem lastK_nil : lastK [] = none := rfl
theorem out_len {out : List Ent} {i : Nat} (h : out.length ≤ i) (x : Ent) : (out ++ [x]).length ≤ i + 1 := by rw [List.length_append]; simp only [List.length_cons, List.length_nil]; omega

/-- Are entries gone through? -/
def smlE (e : Ent) : Bool := decide (e.key.size ≤ 600) && decide (e.val.size ≤ 600)
def smallE (l : List Ent) : Bool := l.all smlE && decide (l.length ≤ 70)
end Go.Proofs.Ytdmpimgbnhgiaaa
