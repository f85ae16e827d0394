/- The law on a read cache that is not there over what comes in. -/
import Derived.Test.YtnhobjjgpnbnmaaOam
namespace Go.Proofs.Ytnhobjjgpnbnmaa
open Go.RowKit Go.St
theorem cacheNil_law (w : World) (x : ActM) (_ : InAm x) : Calls Try.prog 6 #[.agg #[.int .i64 x.k, .string x.m.f, .string x.m.t, .int .i64 x.m.a.wall, .int .i32 x.m.a.logic, .int .i32 x.m.a.tag, .int .i32 x.m.nd, .int .i32 x.m.nu]] w fun e w' => e = .returned (.bool true) ∧ Below w.heap.size w w' := cacheNil_walk w x
end Go.Proofs.Ytnhobjjgpnbnmaa
