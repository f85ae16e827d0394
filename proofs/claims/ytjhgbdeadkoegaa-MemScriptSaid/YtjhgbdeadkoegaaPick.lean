/- Walk: the kit's Pick. -/
import Derived.Test.YtjhgbdeadkoegaaChecked
import Derived.Test.YtjhgbdeadkoegaaBase
import Derived.IntWalk
import Derived.WalkKit
namespace Go.Proofs.Ytjhgbdeadkoegaa
open Go.RowKit Go.St
set_option linter.unusedVariables false
set_option linter.unusedSimpArgs false
set_option maxRecDepth 100000
theorem tmod_val (x n : Int) (hn : 0 < n) : x % n = if x.tmod n < 0 then x.tmod n + n else x.tmod n := by
  have h := Int.tmod_add_mul_tdiv x n
  have h1 := Int.tmod_lt_of_pos x hn
  have h2 := Int.lt_tmod_of_pos x hn
  have e : x % n = x.tmod n % n := by
    conv => lhs; rw [← h]
    exact Int.add_mul_emod_self_left _ _ _
  rw [e]
  split
  · rw [← Int.add_emod_right, Int.emod_eq_of_lt (by omega) (by omega)]
  · exact Int.emod_eq_of_lt (by omega) h1
set_option maxHeartbeats 400000 in
theorem pick_any (x n : Int) (hn : 0 < n) (hn2 : n ≤ 1000000) (hx : -9223372036854775808 ≤ x ∧ x ≤ 9223372036854775807) (w : World) : Calls Try.prog 13 #[.int .i64 x, .int .i64 n] w fun e w' => e = .returned (.int .i64 (x % n)) ∧ w = w' := by
  by_cases h0 : 0 ≤ x
  · have h1 : ¬ x % n < 0 := by have := Int.emod_nonneg x (show n ≠ 0 by omega); omega
    go_enter Try.func13, Try.ntmps13
    go_wp2
    go_ret
    exact ⟨rfl, rfl⟩
  · go_enter Try.func13, Try.ntmps13
    go_wp2
    · go_ret
      refine ⟨ret_int ?_, rfl⟩
      have h3 : x.tmod n < 0 := by assumption
      have h2 := tmod_val x n hn
      rw [if_pos h3] at h2
      rw [h2]
      have hb := Int.lt_tmod_of_pos x hn
      exact IntWalk.wrap64_in _ ⟨by omega, by omega⟩
    · go_ret
      refine ⟨ret_int ?_, rfl⟩
      have h3 : 0 ≤ x.tmod n := by assumption
      have h2 := tmod_val x n hn
      rw [if_neg (by omega)] at h2
      exact h2.symm

end Go.Proofs.Ytjhgbdeadkoegaa
