/- Walk: two lists of cells that are the same are found so. -/
import Derived.Test.YtgikaglmeeeplaaIj
import Derived.Deep.Cut
namespace Go.Proofs.Ytgikaglmeeeplaa
open Go.RowKit Go.St
set_option linter.unusedVariables false
set_option linter.unusedSimpArgs false
set_option maxRecDepth 100000

set_option maxHeartbeats 1600000 in
theorem cellsq_yes (A : Option Addr) (n c : Nat) (A' : Option Addr) (c' : Nat) (l : List Cel) (hl : l.length = n) (hn : n ≤ 1000000) (B : Nat) (w : World) (hr : Rd w B A (cev l)) (hr' : Rd w B A' (cev l)) (hB : B ≤ w.heap.size) :
    Calls Try.prog 19 #[.slice A n c, .slice A' n c'] w fun e w' => e = .returned (.bool true) ∧ Below w.heap.size w w' := by
  have HL := Lib.hid hl
  have HR := Lib.hid hr
  have HR' := Lib.hid hr'
  clear hl hr hr'
  go_enter Try.func19, Try.ntmps19
  go_wp2_with fail
  go_loopw [5] (fun s5 wr => ∃ i : Nat, s5 = .int .i64 (i : Int) ∧ i ≤ n ∧ Hid (Below w.heap.size w wr)) (fun s5 _ => n - (intOf s5).toNat)
  case atStart => exact ⟨0, rfl, Nat.zero_le _, Lib.hid (Below.refl _ _)⟩
  case round =>
    obtain ⟨i, rfl, hi, hB1⟩ := hrel
    obtain ⟨w2, rfl⟩ : ∃ x, x = wr := ⟨_, rfl⟩
    by_cases hlt : i < n
    · obtain ⟨x, hx⟩ : ∃ x, l[i]? = some x := ⟨_, List.getElem?_eq_getElem (by rw [HL.out]; exact hlt)⟩
      obtain ⟨b, off, rfl, hb, hce⟩ := ce_at HR.out hx
      obtain ⟨b', off', rfl, hb', hce'⟩ := ce_at HR'.out hx
      obtain ⟨d0, d1, d2, d3, d4, d5⟩ := hce.below (Nat.lt_of_lt_of_le hb hB) hB1.out
      obtain ⟨f0, f1, f2, f3, f4, f5⟩ := hce'.below (Nat.lt_of_lt_of_le hb' hB) hB1.out
      have i1 : (i : Int) < (n : Int) := by omega
      have i0 : (0 : Int) ≤ (i : Int) := by omega
      have z1 : b < w2.heap.size := by have := hB1.out.size; omega
      have z2 : b' < w2.heap.size := by have := hB1.out.size; omega
      clear hce hce' hx
      go_wp2_with fail
      refine wp_qall (by kernel_rfl) (by kernel_rfl) ?_
      intro hcg
      repeat (first | go_big_quiet_step (fail) | quiet_step (fail))
      refine wpQuiet_nil ?_
      intro wq hbwq hcwq hfwq
      clear hcg
      have B9 := Lib.hid (hB1.out.trans (hbwq.mono hB1.out.size))
      clear hbwq hcwq hfwq
      go_wp2_with fail
      go_roundw
      case rel => exact ⟨i + 1, by go_num, by omega, B9⟩
      case measure => simp [intOf]; omega
    · have i1 : ¬ (i : Int) < (n : Int) := by omega
      clear hlt
      go_wp2_with fail
      go_ret
      exact ⟨rfl, hB1.out⟩

end Go.Proofs.Ytgikaglmeeeplaa
