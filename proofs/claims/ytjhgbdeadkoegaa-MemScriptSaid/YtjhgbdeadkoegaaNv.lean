/- Numbers as cells; a list of numbers. -/
import Derived.Test.YtjhgbdeadkoegaaEa
namespace Go.Proofs.Ytjhgbdeadkoegaa
open Go.RowKit Go.St
set_option linter.unusedVariables false

def nv (l : List Int) : List Value := l.map (fun x => Value.int .i64 x)
theorem nv_length (l : List Int) : (nv l).length = l.length := by simp [nv]
theorem nv_get {l : List Int} {i : Nat} {x : Int} (h : l[i]? = some x) : (nv l)[i]? = some (.int .i64 x) := by simp [nv, h]
theorem nv_app (a b : List Int) : nv (a ++ b) = nv a ++ nv b := by simp [nv]
theorem nv_one (l : List Int) : ∀ u ∈ nv l, u.oneCell' = true := by
  intro u hu
  obtain ⟨c, _, rfl⟩ := List.mem_map.1 hu
  rfl
theorem styI : STy Try.prog 29 3 1 8 (.int .i64 0) := ⟨Try.underlying29, ⟨_, rfl, by kernel_rfl, by kernel_rfl, by kernel_rfl⟩, rfl, by decide⟩
end Go.Proofs.Ytjhgbdeadkoegaa
