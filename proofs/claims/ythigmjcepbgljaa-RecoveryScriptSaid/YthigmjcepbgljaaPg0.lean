/- A stamp's value (where the functions of pushes are not among the seat's). -/
import Derived.Test.YthigmjcepbgljaaPc
import Derived.Test.YthigmjcepbgljaaPd
namespace Go.Proofs.Ythigmjcepbgljaa
open Go.RowKit Go.St
abbrev stv (s : Stp) : Value := .agg #[.int .i64 s.wall, .int .i32 s.logic, .int .i32 s.tag]
theorem chkR_beat {r : Rec} (h : chkR r = 0) : 0 ≤ r.beat ∧ r.beat ≤ 1099511627776 := by
  unfold chkR at h
  split at h
  · cases h
  · split at h
    · rename_i h2
      unfold okR at h2
      simp at h2
      exact h2.1.1.2
    · cases h
end Go.Proofs.Ythigmjcepbgljaa
