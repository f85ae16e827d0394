/- Walks: one key's span; a range's span. -/
import Derived.Test.YtlpdihcgdgkkbaaRc
namespace Go.Proofs.Ytlpdihcgdgkkbaa
open Go.RowKit Go.St
set_option linter.unusedVariables false
set_option linter.unusedSimpArgs false
set_option maxRecDepth 100000

theorem one21_any (k : ByteArray) (hk : k.size ≤ 140737488351232) (w : World) :
    Calls Try.prog 47 #[.string k] w fun e w' => e = .returned (.agg #[.string k, .string (k ++ ⟨#[0]⟩)]) ∧ Below w.heap.size w w' := by
  go_enter Try.func47, Try.ntmps47
  go_wp2
  refine bodyPost_ret (v := .agg #[.string k, .string (k ++ ⟨#[0]⟩)]) (by simp [results, Try.results47, go_sem]) rfl ⟨rfl, ?_⟩
  go_grown
end Go.Proofs.Ytlpdihcgdgkkbaa
