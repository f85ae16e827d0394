/- A function held against nil. -/
import Derived.Test.YtmfkngijgellhaaSd
namespace Go.Proofs.Ytmfkngijgellhaa
open Go.RowKit Go.St Go.Shelf
theorem under55 : Try.prog.underlying 55 = some (.func #[63] #[] false) := by kernel_rfl
theorem equalIn_func (d : Nat) (f : Fn) (a b : Array Value) (w : World) : (Op.equalIn (d + 1) 55 (.func f a b) .nilFunc).run Try.prog w = .ok false w := by
  simp [Op.equalIn, run_underlying under55]
@[go_sem] theorem func_nil (f : Fn) (a b : Array Value) (w : World) : (binOp .eql 55 (.func f a b) .nilFunc).run Try.prog w = .ok (.bool false) w := by
  have := equalIn_func 9999 f a b w
  have h : (Op.equal 55 (.func f a b) .nilFunc).run Try.prog w = .ok false w := this
  simp [go_sem, binOp, h]
end Go.Proofs.Ytmfkngijgellhaa
