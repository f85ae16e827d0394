/- Walks: spans of keys, the program's and the document's. -/
import Derived.Test.YtnhobjjgpnbnmaaHa
import Derived.Test.YtnhobjjgpnbnmaaQTail
namespace Go.Proofs.Ytnhobjjgpnbnmaa
open Go.RowKit Go.St
set_option linter.unusedVariables false
set_option linter.unusedSimpArgs false
set_option maxRecDepth 100000

/-- One key before another; a span empty; a span with a key. -/
def klt (a b : ByteArray) : Bool := Op.bytesLess a.toList b.toList
def sEmp (f t : ByteArray) : Bool := !t.toList.isEmpty && (klt t f || t.toList == f.toList)
def sHas (f t k : ByteArray) : Bool := !klt k f && (t.toList.isEmpty || klt k t)
set_option maxHeartbeats 400000 in
theorem empty_any (f t : ByteArray) (w : World) : Calls Try.prog 28 #[.agg #[.string f, .string t]] w fun e w' => e = .returned (.bool (sEmp f t)) ∧ Below w.heap.size w w' := by
  go_enter Try.func28, Try.ntmps28
  go_wp2_with fail
  all_goals
    go_ret
    refine ⟨ret_bool ?_, (Below.refl _ _).alloc (Nat.le_refl _) _⟩
    simp [sEmp, klt, *]
set_option maxHeartbeats 400000 in
theorem has21_any (f t k : ByteArray) (w : World) : Calls Try.prog 37 #[.agg #[.string f, .string t], .string k] w fun e w' => e = .returned (.bool (sHas f t k)) ∧ Below w.heap.size w w' := by
  go_enter Try.func37, Try.ntmps37
  go_wp2_with fail
  all_goals
    go_ret
    refine ⟨ret_bool ?_, (Below.refl _ _).alloc (Nat.le_refl _) _⟩
    simp [sHas, klt, *]
set_option maxHeartbeats 400000 in
theorem rempty_any (f t : ByteArray) (w : World) : Calls Try.prog 14 #[.agg #[.string f, .string t]] w fun e w' => e = .returned (.bool (sEmp f t)) ∧ Below w.heap.size w w' := by
  go_enter Try.func14, Try.ntmps14
  go_wp2_with fail
  all_goals
    go_ret
    refine ⟨ret_bool ?_, (Below.refl _ _).alloc (Nat.le_refl _) _⟩
    simp [sEmp, klt, *]
set_option maxHeartbeats 400000 in
theorem rhas21_any (f t k : ByteArray) (w : World) : Calls Try.prog 13 #[.agg #[.string f, .string t], .string k] w fun e w' => e = .returned (.bool (sHas f t k)) ∧ Below w.heap.size w w' := by
  go_enter Try.func13, Try.ntmps13
  go_wp2_with fail
  all_goals
    go_ret
    refine ⟨ret_bool ?_, (Below.refl _ _).alloc (Nat.le_refl _) _⟩
    simp [sHas, klt, *]
end Go.Proofs.Ytnhobjjgpnbnmaa
