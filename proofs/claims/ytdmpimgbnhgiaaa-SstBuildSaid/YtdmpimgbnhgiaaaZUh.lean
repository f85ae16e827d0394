/- Build, of whatever comes in. -/
import Derived.Test.YtdmpimgbnhgiaaaZUg

namespace Go.Proofs.Ytdmpimgbnhgiaaa
open Go.RowKit Go.St Go.Shelf
set_option linter.unusedVariables false
set_option linter.unusedSimpArgs false
set_option maxRecDepth 100000

theorem bldE_arg {per bits : Int} {l : List Ent} (h : per < 1 ∨ 64 < per ∨ bits < 1 ∨ 16 < bits ∨ l.length = 0) : bldE per bits l = 2 ∧ bldL per bits l = [] := by
  have e : bldE per bits l = 2 := by unfold bldE; rw [if_pos h]
  exact ⟨e, by unfold bldL; rw [e]; rfl⟩
theorem build_any (A : Option Addr) (n c : Nat) (per bits : Int) (l : List Ent) (hl : l.length = n) (hn : n ≤ 150) (hnc : n ≤ c) (hks : ∀ x ∈ l, x.key.size ≤ maxLen) (w : World) (hr : Rd w w.heap.size A (env l)) :
    Calls Try.prog 11 #[.slice A n c, .int .i64 per, .int .i64 bits] w fun e w' => ∃ A' c', e = .returned (.tuple #[.slice A' (bldL per bits l).length c', .int .i64 (bldE per bits l)]) ∧ w'.ownsRow w.heap.size 5 1 (.slice A' (bldL per bits l).length c') (bldL per bits l).length (bv (bldL per bits l)) ∧ Below w.heap.size w w' := by
  by_cases h : per < 1 ∨ 64 < per ∨ bits < 1 ∨ 16 < bits ∨ l.length = 0
  · obtain ⟨h1, h2⟩ := bldE_arg h
    rw [h1, h2]
    refine (build_arg A n c per bits (by omega) w).mono ?_
    rintro e w' ⟨rfl, hb⟩
    exact ⟨none, 0, rfl, World.ownsRow_nil _ _ _ _, hb⟩
  · obtain ⟨p, rfl⟩ := Int.eq_ofNat_of_zero_le (show 0 ≤ per by omega)
    obtain ⟨b, rfl⟩ := Int.eq_ofNat_of_zero_le (show 0 ≤ bits by omega)
    exact build_yes A n c p b (by omega) (by omega) l hl (by omega) hnc hks w hr
end Go.Proofs.Ytdmpimgbnhgiaaa
