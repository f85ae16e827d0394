/- Walks: the lives test; Opened of too few bytes. -/
import Derived.Test.YtmfkngijgellhaaB
import Derived.Lib.SlBytesConst
namespace Go.Proofs.Ytmfkngijgellhaa
open Go.RowKit Go.St

set_option maxHeartbeats 400000 in
theorem lives_any (w : World) : Calls Try.prog 15 #[] w fun e w' => e = .returned (.bool true) ∧ Below w.heap.size w w' := by
  have hm : CrcM.cmore 0 [49, 50, 51, 52, 53, 54, 55, 56, 57] = 3808858755 := by decide +kernel
  have HM := Lib.hid hm; clear hm
  have kc := fun (w : World) (C : Array Value) (n c : Nat) => Lib.run_convert_bytes_const (P := Try.prog) w 22 5 C n c Try.underlying22 Try.underlying5
  go_enter Try.func15, Try.ntmps15
  go_wp2_with fail
  refine (sum_any _ 9 _ (w.heap.size + 1) [49, 50, 51, 52, 53, 54, 55, 56, 57] rfl (by omega) _ ?_).mono ?_
  · intro _
    refine ⟨w.heap.size, 0, rfl, by omega, fun i v hv => ?_⟩
    rw [World.cell?_alloc_mark]
    simpa [bv, bt] using hv
  rintro e w' ⟨rfl, rfl⟩
  rw [HM.out]
  go_wp2
  go_ret
  exact ⟨rfl, (Below.refl _ _).alloc (Nat.le_refl _) _⟩

set_option maxHeartbeats 400000 in
theorem opened_short (A : Option Addr) (n c : Nat) (hn : n < 4) (w : World) :
    Calls Try.prog 19 #[.slice A n c] w fun e w' => e = .returned (.tuple #[.slice none 0 0, .bool false]) ∧ ∃ m, w' = w.drewN m := by
  have hd : decide (((n : Nat) : Int) - 4 < 0) = true := by simp; omega
  go_enter Try.func19, Try.ntmps19
  go_wp2
  go_quiet (fail)
  go_wp2
  go_ret2
  exact ⟨rfl, nq, rfl⟩

end Go.Proofs.Ytmfkngijgellhaa
