/- Walks: splits checked; one key's span. -/
import Derived.Test.YtlpdihcgdgkkbaaRb
namespace Go.Proofs.Ytlpdihcgdgkkbaa
open Go.RowKit Go.St
set_option linter.unusedVariables false
set_option linter.unusedSimpArgs false
set_option maxRecDepth 100000

def zE : ByteArray := ⟨#[]⟩
/-- The first so many texts stand in order. -/
def ordT (l : List ByteArray) (j : Nat) : Bool := (List.range (j - 1)).all fun i => klt (l.getD i zE) (l.getD (i + 1) zE)
def chk21 (l : List ByteArray) : Int := if 15 < l.length then 3 else if hasT l zE then 2 else if ordT l l.length then 0 else 10
theorem ordT_succ (l : List ByteArray) (i : Nat) : ordT l (i + 1 + 1) = (ordT l (i + 1) && klt (l.getD i zE) (l.getD (i + 1) zE)) := by
  unfold ordT
  rw [Nat.add_sub_cancel, Nat.add_sub_cancel, List.range_succ, List.all_append]
  simp
theorem ordT_not {l : List ByteArray} {i n : Nat} (h : i + 1 < n) (e : klt (l.getD i zE) (l.getD (i + 1) zE) = false) : ordT l n = false := by
  unfold ordT
  rw [List.all_eq_false]
  exact ⟨i, List.mem_range.2 (by omega), by rw [e]; decide⟩

set_option maxHeartbeats 800000 in
theorem check21_any (A : Option Addr) (n c B : Nat) (l : List ByteArray) (hl : l.length = n) (hn : n ≤ 9223372036854775807) (w : World) (hr : Rd w B A (sv l)) :
    Calls Try.prog 46 #[.slice A n c] w fun e w' => e = .returned (.int .i64 (chk21 l)) ∧ ∃ m, w' = w.drewN m := by
  by_cases h15 : 15 < n
  · have hc : chk21 l = 3 := by unfold chk21; rw [if_pos (by omega)]
    have HC := Lib.hid hc; clear hc hl hr
    go_enter Try.func46, Try.ntmps46
    go_wp2
    go_ret
    exact ⟨ret_int HC.out.symm, 0, rfl⟩
  have H := contains_any A n c B l hl hn zE w hr
  cases hh : hasT l zE
  case true =>
    have hc : chk21 l = 2 := by unfold chk21; rw [if_neg (by omega), if_pos hh]
    rw [hh] at H
    have HH := Lib.hid H
    have HC := Lib.hid hc; clear hc hl hr hh H
    go_enter Try.func46, Try.ntmps46
    go_wp2_with fail
    refine HH.out.mono ?_
    rintro e w' ⟨rfl, rfl⟩
    go_wp2
    go_ret
    exact ⟨ret_int HC.out.symm, 0, rfl⟩
  have hc : chk21 l = if ordT l l.length then 0 else 10 := by unfold chk21; rw [if_neg (by omega), if_neg (by rw [hh]; decide)]
  rw [hh] at H
  have HH := Lib.hid H; have HL := Lib.hid hl; have HR := Lib.hid hr
  have HC := Lib.hid hc; clear hc hl hr hh H
  go_enter Try.func46, Try.ntmps46
  go_wp2_with fail
  refine HH.out.mono ?_
  rintro e w' ⟨rfl, rfl⟩
  go_wp2_with fail
  go_loopw [3] (fun i wr => ∃ j m : Nat, (j + 1 ≤ n ∨ j = 0) ∧ i = .int .i64 ((j + 1 : Nat) : Int) ∧ wr = w.drewN m ∧ Hid (ordT l (j + 1) = true)) (fun i _ => n - (intOf i).toNat)
  case atStart => exact ⟨0, 0, .inr rfl, rfl, rfl, rfl⟩
  case round =>
    obtain ⟨j, m, hj, rfl, rfl, hU⟩ := hrel
    by_cases hlt : j + 1 < n
    · obtain ⟨b, off, rfl, hb, hcell⟩ := HR.out.at_ (sv_get l j (by have := HL.out; omega))
      obtain ⟨b', off', e, hb', hcell'⟩ := HR.out.at_ (sv_get l (j + 1) (by have := HL.out; omega))
      injection e with e
      injection e with e1 e2
      subst e1 e2
      have g1 : l.getD j zE = l[j]'(by have := HL.out; omega) := by simp [List.getD, show j < l.length by have := HL.out; omega]
      have g2 : l.getD (j + 1) zE = l[j + 1]'(by have := HL.out; omega) := by simp [List.getD, show j + 1 < l.length by have := HL.out; omega]
      have hs := ordT_succ l j
      have hno := fun e => ordT_not (l := l) (i := j) (n := l.length) (by have := HL.out; omega) e
      rw [g1, g2] at hs hno
      unfold klt at hs hno
      generalize l[j]'(by have := HL.out; omega) = s at *
      generalize l[j + 1]'(by have := HL.out; omega) = t at *
      have HS := Lib.hid hs; have HN := Lib.hid hno; clear hs hno g1 g2
      have hji : ((j + 1 : Nat) : Int) - 1 = (j : Int) := by omega
      cases hk : Op.bytesLess s.toList t.toList
      · have hz := HN.out hk
        have HZ := Lib.hid hz; clear hz
        go_wp2
        go_quiet (fail)
        go_wp2
        go_ret
        refine ⟨ret_int ?_, m + nq, by simp⟩
        rw [HC.out, HZ.out]; rfl
      · have hz := HS.out
        rw [hk, hU.out] at hz
        have HZ := Lib.hid hz; clear hz
        go_wp2
        go_quiet (fail)
        go_wp2
        exact ⟨⟨j + 1, m + nq, .inl (by omega), by go_num, by simp, HZ.out⟩, by simp [intOf]; omega⟩
    · have ho : ordT l l.length = true := by
        rcases hj with hj | rfl
        · obtain rfl : n = j + 1 := by omega
          rw [HL.out]; exact hU.out
        · unfold ordT
          have : l.length - 1 = 0 := by have := HL.out; omega
          rw [this]; rfl
      have HO := Lib.hid ho; clear ho
      go_wp2
      go_ret
      refine ⟨ret_int ?_, m, rfl⟩
      rw [HC.out, HO.out]; rfl
end Go.Proofs.Ytlpdihcgdgkkbaa
