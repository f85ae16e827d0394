/- Walks: the closure that finds a letter. -/
import Derived.Test.YtlpdihcgdgkkbaaSd
namespace Go.Proofs.Ytlpdihcgdgkkbaa
open Go.RowKit Go.St
set_option linter.unusedVariables false
set_option linter.unusedSimpArgs false
set_option maxRecDepth 100000

set_option maxHeartbeats 800000 in
theorem sclos_any (i b bn bk lb lo n c : Nat) (k num : Int) (hi : i < n) (hn : n < 4611686018427387904) (w : World) (h1 : w.cell? ⟨bn, 0, none⟩ = some (.pointer (some ⟨b, 0, none⟩))) (h2 : w.cell? ⟨b, 2, none⟩ = some (.slice (some ⟨lb, lo, none⟩) n c)) (h3 : w.cell? ⟨lb, lo + i * 4, none⟩ = some (.int .i64 num)) (h4 : w.cell? ⟨bk, 0, none⟩ = some (.int .i64 k)) :
    Calls Try.prog 90 #[.int .i64 i, .pointer (some ⟨bn, 0, none⟩), .pointer (some ⟨bk, 0, none⟩)] w fun e w' => e = .returned (.bool (decide (k ≤ num))) ∧ ∃ q, w' = w.drewN q := by
  go_enter Try.func90, Try.ntmps90
  go_wp2
  go_quiet (fail)
  go_wp2
  go_ret
  exact ⟨ret_bool (by simp), _, rfl⟩
end Go.Proofs.Ytlpdihcgdgkkbaa
