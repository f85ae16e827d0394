/- Walks: sort.Search by a closure that reads. -/
import Derived.Test.YtlpdihcgdgkkbaaSc
import Derived.LoopTactic
namespace Go.Proofs.Ytlpdihcgdgkkbaa
open Go.RowKit Go.St
set_option linter.unusedVariables false
set_option linter.unusedSimpArgs false
set_option maxRecDepth 100000

set_option maxHeartbeats 3200000 in
theorem ssearch_any (n r : Nat) (x y : Value) (p : Nat → Bool) (hn : n < 4611686018427387904) (hr : r ≤ n) (h1 : ∀ t, t < r → p t = false) (h2 : ∀ t, r ≤ t → t < n → p t = true) (w : World)
    (hf : ∀ (i : Nat), i < n → ∀ m, Calls Try.prog 90 #[.int .i64 i, x, y] (w.drewN m) fun e w' => e = .returned (.bool (p i)) ∧ ∃ q, w' = w.drewN q) :
    Calls Try.prog 89 #[.int .i64 n, .func (.func 90) #[] #[x, y]] w fun e w' => e = .returned (.int .i64 r) ∧ ∃ q, w' = w.drewN q := by
  have H1 := Lib.hid h1; have H2 := Lib.hid h2; have HF := Lib.hid hf
  clear h1 h2 hf
  go_enter Try.func89, Try.ntmps89
  go_wp2
  go_loopw [5, 6] (fun s s' wr => ∃ lo hi q : Nat, s = .int .i64 lo ∧ s' = .int .i64 hi ∧ lo ≤ r ∧ r ≤ hi ∧ hi ≤ n ∧ wr = w.drewN q) (fun s s' _ => (intOf s').toNat - (intOf s).toNat)
  case atStart => exact ⟨0, n, 0, rfl, rfl, Nat.zero_le _, hr, Nat.le_refl _, rfl⟩
  case round =>
    obtain ⟨lo, hi, q, rfl, rfl, hlr, hrh, hin, rfl⟩ := hrel
    by_cases hlt : lo < hi
    · have hc := HF.out ((lo + hi) / 2) (by omega) q
      rw [show (((lo + hi) / 2 : Nat) : Int) = ((lo : Int) + (hi : Int)) / 2 by omega] at hc
      by_cases hm : (lo + hi) / 2 < r
      · rw [H1.out _ hm] at hc
        go_wp2_with (go_at_call 90; refine hc.mono ?_; rintro e w' ⟨rfl, q2, rfl⟩)
        go_roundw
        case rel => exact ⟨(lo + hi) / 2 + 1, hi, q2, by rw [show ((lo : Int) + (hi : Int)) / 2 + 1 = (((lo + hi) / 2 + 1 : Nat) : Int) by omega], rfl, by omega, hrh, hin, rfl⟩
        case measure => simp [intOf]; omega
      · rw [H2.out _ (by omega) (by omega)] at hc
        go_wp2_with (go_at_call 90; refine hc.mono ?_; rintro e w' ⟨rfl, q2, rfl⟩)
        go_roundw
        case rel => exact ⟨lo, (lo + hi) / 2, q2, rfl, by rw [show ((lo : Int) + (hi : Int)) / 2 = (((lo + hi) / 2 : Nat) : Int) by omega], hlr, by omega, by omega, rfl⟩
        case measure => simp [intOf]; omega
    · have e1 : lo = r := by omega
      have e2 : hi = r := by omega
      subst e1 e2
      go_wp2
      go_ret
      exact ⟨rfl, q, rfl⟩
end Go.Proofs.Ytlpdihcgdgkkbaa
