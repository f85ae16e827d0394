/- Walks: whether a record may be, by the document. -/
import Derived.Test.YtgikaglmeeeplaaPc
namespace Go.Proofs.Ytgikaglmeeeplaa
open Go.RowKit Go.St
set_option linter.unusedVariables false
set_option linter.unusedSimpArgs false
set_option maxRecDepth 100000


set_option maxHeartbeats 6400000 in
theorem rreccheck_any (r : Rec) (hl : r.l.length = r.n) (B : Nat) (w : World) (hr : Rd w B r.A (sv r.l)) (hB : B ≤ w.heap.size) :
    Calls Try.prog 52 #[r.v] w fun e w' => e = .returned (.int .i64 (chkR r)) ∧ Below w.heap.size w w' := by
  obtain ⟨nd, nu, st, ⟨aw, al, ag⟩, A, n, c, l, beat, pu⟩ := r
  unfold Rec.v
  simp only at hl hr ⊢
  have HL := Lib.hid hl; clear hl
  by_cases h24 : 24 < n
  · have hc : chkR ⟨nd, nu, st, ⟨aw, al, ag⟩, A, n, c, l, beat, pu⟩ = 3 := by unfold chkR; rw [if_pos h24]
    have HC := Lib.hid hc; clear hc
    go_enter Try.func52, Try.ntmps52
    go_wp2
    go_ret
    exact ⟨ret_int HC.out.symm, (Below.refl _ _).alloc (Nat.le_refl _) _⟩
  have hn24 : n ≤ 24 := by omega
  by_cases htb : tagBad nd nu
  · have hc : chkR ⟨nd, nu, st, ⟨aw, al, ag⟩, A, n, c, l, beat, pu⟩ = 2 := chkR_no h24 (by unfold okR; simp [htb])
    have HC := Lib.hid hc; clear hc
    have e2 : tagE nd nu = 2 := by unfold tagE; rw [if_pos htb]
    go_enter Try.func52, Try.ntmps52
    go_wp2_with fail
    refine (rtag_any nd nu _).mono ?_
    rintro e w1 ⟨rfl, hb⟩
    obtain ⟨hcw1, hfw1⟩ := bcell hb
    have HBw1 : Hid (Below w.heap.size w w1) := Below.go (by go_grown) hb (by go_size)
    have hzw10 : w.heap.size < w1.heap.size := by have := hb.size; (try simp at this); omega
    have HEw1 := Lib.hid hb
    clear hb
    rw [e2]
    clear e2
    go_wp2
    all_goals
      go_ret
      exact ⟨ret_int HC.out.symm, HBw1.out⟩
  have e2 : tagE nd nu = 0 := by unfold tagE; rw [if_neg htb]
  by_cases hb0 : beat < 0
  · have hc : chkR ⟨nd, nu, st, ⟨aw, al, ag⟩, A, n, c, l, beat, pu⟩ = 2 := chkR_no h24 (by unfold okR; rw [decide_eq_false (show ¬ (0 ≤ beat ∧ beat ≤ 1099511627776) by omega)]; simp)
    have HC := Lib.hid hc; clear hc
    go_enter Try.func52, Try.ntmps52
    go_wp2_with fail
    refine (rtag_any nd nu _).mono ?_
    rintro e w1 ⟨rfl, hb⟩
    obtain ⟨hcw1, hfw1⟩ := bcell hb
    have HBw1 : Hid (Below w.heap.size w w1) := Below.go (by go_grown) hb (by go_size)
    have hzw10 : w.heap.size < w1.heap.size := by have := hb.size; (try simp at this); omega
    have HEw1 := Lib.hid hb
    clear hb
    rw [e2]
    clear e2
    go_wp2
    all_goals
      go_ret
      exact ⟨ret_int HC.out.symm, HBw1.out⟩
  by_cases hb1 : 1099511627776 < beat
  · have hc : chkR ⟨nd, nu, st, ⟨aw, al, ag⟩, A, n, c, l, beat, pu⟩ = 2 := chkR_no h24 (by unfold okR; rw [decide_eq_false (show ¬ (0 ≤ beat ∧ beat ≤ 1099511627776) by omega)]; simp)
    have HC := Lib.hid hc; clear hc
    go_enter Try.func52, Try.ntmps52
    go_wp2_with fail
    refine (rtag_any nd nu _).mono ?_
    rintro e w1 ⟨rfl, hb⟩
    obtain ⟨hcw1, hfw1⟩ := bcell hb
    have HBw1 : Hid (Below w.heap.size w w1) := Below.go (by go_grown) hb (by go_size)
    have hzw10 : w.heap.size < w1.heap.size := by have := hb.size; (try simp at this); omega
    have HEw1 := Lib.hid hb
    clear hb
    rw [e2]
    clear e2
    go_wp2
    all_goals
      go_ret
      exact ⟨ret_int HC.out.symm, HBw1.out⟩
  have hbb : 0 ≤ beat ∧ beat ≤ 1099511627776 := by omega
  cases hpu : okS pu
  · have hc : chkR ⟨nd, nu, st, ⟨aw, al, ag⟩, A, n, c, l, beat, pu⟩ = 2 := chkR_no h24 (by unfold okR; simp [hpu])
    have HC := Lib.hid hc; clear hc
    have hcp := chk_no hpu
    go_enter Try.func52, Try.ntmps52
    go_wp2_with fail
    refine (rtag_any nd nu _).mono ?_
    rintro e w1 ⟨rfl, hb⟩
    obtain ⟨hcw1, hfw1⟩ := bcell hb
    have HBw1 : Hid (Below w.heap.size w w1) := Below.go (by go_grown) hb (by go_size)
    have hzw10 : w.heap.size < w1.heap.size := by have := hb.size; (try simp at this); omega
    have HEw1 := Lib.hid hb
    clear hb
    rw [e2]
    clear e2
    go_wp2_with fail
    refine (rcheck_any pu _).mono ?_
    rintro e w2 ⟨rfl, hb⟩
    obtain ⟨hcw2, hfw2⟩ := bcell hb
    have HBw2 : Hid (Below w.heap.size w w2) := Below.go (by have hpre := HBw1.out; have hps := hpre.size; go_grown) hb (by have hpre := HBw1.out; have hps := hpre.size; go_size)
    have hzw20 : w.heap.size < w2.heap.size := by have := hb.size; (try simp at this); omega
    have HEw2 := Lib.hid hb
    clear hb
    rw [hcp]
    go_wp2
    all_goals
      go_ret
      exact ⟨ret_int HC.out.symm, HBw2.out⟩
  have hcp := chk_ok hpu
  by_cases hs1 : st = 1
  · subst hs1
    by_cases zaw : aw = 0
    case neg =>
      have hc : chkR ⟨nd, nu, 1, ⟨aw, al, ag⟩, A, n, c, l, beat, pu⟩ = 2 := chkR_no h24 (by unfold okR; simp [zaw])
      have HC := Lib.hid hc; clear hc
      have zb : (aw == 0) = false := by simpa using zaw
      go_enter Try.func52, Try.ntmps52
      go_wp2_with fail
      refine (rtag_any nd nu _).mono ?_
      rintro e w1 ⟨rfl, hb⟩
      obtain ⟨hcw1, hfw1⟩ := bcell hb
      have HBw1 : Hid (Below w.heap.size w w1) := Below.go (by go_grown) hb (by go_size)
      have hzw10 : w.heap.size < w1.heap.size := by have := hb.size; (try simp at this); omega
      have HEw1 := Lib.hid hb
      clear hb
      rw [e2]
      clear e2
      go_wp2_with fail
      refine (rcheck_any pu _).mono ?_
      rintro e w2 ⟨rfl, hb⟩
      obtain ⟨hcw2, hfw2⟩ := bcell hb
      have HBw2 : Hid (Below w.heap.size w w2) := Below.go (by have hpre := HBw1.out; have hps := hpre.size; go_grown) hb (by have hpre := HBw1.out; have hps := hpre.size; go_size)
      have hzw20 : w.heap.size < w2.heap.size := by have := hb.size; (try simp at this); omega
      have HEw2 := Lib.hid hb
      clear hb
      rw [hcp]
      go_wp2
      all_goals
        go_ret
        exact ⟨ret_int HC.out.symm, HBw2.out⟩
    by_cases zal : al = 0
    case neg =>
      have hc : chkR ⟨nd, nu, 1, ⟨aw, al, ag⟩, A, n, c, l, beat, pu⟩ = 2 := chkR_no h24 (by unfold okR; simp [zal])
      have HC := Lib.hid hc; clear hc
      have zb : (al == 0) = false := by simpa using zal
      go_enter Try.func52, Try.ntmps52
      go_wp2_with fail
      refine (rtag_any nd nu _).mono ?_
      rintro e w1 ⟨rfl, hb⟩
      obtain ⟨hcw1, hfw1⟩ := bcell hb
      have HBw1 : Hid (Below w.heap.size w w1) := Below.go (by go_grown) hb (by go_size)
      have hzw10 : w.heap.size < w1.heap.size := by have := hb.size; (try simp at this); omega
      have HEw1 := Lib.hid hb
      clear hb
      rw [e2]
      clear e2
      go_wp2_with fail
      refine (rcheck_any pu _).mono ?_
      rintro e w2 ⟨rfl, hb⟩
      obtain ⟨hcw2, hfw2⟩ := bcell hb
      have HBw2 : Hid (Below w.heap.size w w2) := Below.go (by have hpre := HBw1.out; have hps := hpre.size; go_grown) hb (by have hpre := HBw1.out; have hps := hpre.size; go_size)
      have hzw20 : w.heap.size < w2.heap.size := by have := hb.size; (try simp at this); omega
      have HEw2 := Lib.hid hb
      clear hb
      rw [hcp]
      go_wp2
      all_goals
        go_ret
        exact ⟨ret_int HC.out.symm, HBw2.out⟩
    by_cases zag : ag = 0
    case neg =>
      have hc : chkR ⟨nd, nu, 1, ⟨aw, al, ag⟩, A, n, c, l, beat, pu⟩ = 2 := chkR_no h24 (by unfold okR; simp [zag])
      have HC := Lib.hid hc; clear hc
      have zb : (ag == 0) = false := by simpa using zag
      go_enter Try.func52, Try.ntmps52
      go_wp2_with fail
      refine (rtag_any nd nu _).mono ?_
      rintro e w1 ⟨rfl, hb⟩
      obtain ⟨hcw1, hfw1⟩ := bcell hb
      have HBw1 : Hid (Below w.heap.size w w1) := Below.go (by go_grown) hb (by go_size)
      have hzw10 : w.heap.size < w1.heap.size := by have := hb.size; (try simp at this); omega
      have HEw1 := Lib.hid hb
      clear hb
      rw [e2]
      clear e2
      go_wp2_with fail
      refine (rcheck_any pu _).mono ?_
      rintro e w2 ⟨rfl, hb⟩
      obtain ⟨hcw2, hfw2⟩ := bcell hb
      have HBw2 : Hid (Below w.heap.size w w2) := Below.go (by have hpre := HBw1.out; have hps := hpre.size; go_grown) hb (by have hpre := HBw1.out; have hps := hpre.size; go_size)
      have hzw20 : w.heap.size < w2.heap.size := by have := hb.size; (try simp at this); omega
      have HEw2 := Lib.hid hb
      clear hb
      rw [hcp]
      go_wp2
      all_goals
        go_ret
        exact ⟨ret_int HC.out.symm, HBw2.out⟩
    subst zaw zal zag
    rcases Nat.eq_zero_or_pos n with hn0 | hn0
    · subst hn0
      have hc : chkR ⟨nd, nu, 1, ⟨0, 0, 0⟩, A, 0, c, l, beat, pu⟩ = 0 := chkR_ok h24 (by unfold okR; simp [htb, hbb, hpu])
      have HC := Lib.hid hc; clear hc
      go_enter Try.func52, Try.ntmps52
      go_wp2_with fail
      refine (rtag_any nd nu _).mono ?_
      rintro e w1 ⟨rfl, hb⟩
      obtain ⟨hcw1, hfw1⟩ := bcell hb
      have HBw1 : Hid (Below w.heap.size w w1) := Below.go (by go_grown) hb (by go_size)
      have hzw10 : w.heap.size < w1.heap.size := by have := hb.size; (try simp at this); omega
      have HEw1 := Lib.hid hb
      clear hb
      rw [e2]
      clear e2
      go_wp2_with fail
      refine (rcheck_any pu _).mono ?_
      rintro e w2 ⟨rfl, hb⟩
      obtain ⟨hcw2, hfw2⟩ := bcell hb
      have HBw2 : Hid (Below w.heap.size w w2) := Below.go (by have hpre := HBw1.out; have hps := hpre.size; go_grown) hb (by have hpre := HBw1.out; have hps := hpre.size; go_size)
      have hzw20 : w.heap.size < w2.heap.size := by have := hb.size; (try simp at this); omega
      have HEw2 := Lib.hid hb
      clear hb
      rw [hcp]
      go_wp2
      all_goals
        go_ret
        exact ⟨ret_int HC.out.symm, HBw2.out⟩
    · have hc : chkR ⟨nd, nu, 1, ⟨0, 0, 0⟩, A, n, c, l, beat, pu⟩ = 2 := chkR_no h24 (by unfold okR; simp; omega)
      have HC := Lib.hid hc; clear hc
      have zb : ((n : Int) == 0) = false := by rw [beq_eq_false_iff_ne]; omega
      go_enter Try.func52, Try.ntmps52
      go_wp2_with fail
      refine (rtag_any nd nu _).mono ?_
      rintro e w1 ⟨rfl, hb⟩
      obtain ⟨hcw1, hfw1⟩ := bcell hb
      have HBw1 : Hid (Below w.heap.size w w1) := Below.go (by go_grown) hb (by go_size)
      have hzw10 : w.heap.size < w1.heap.size := by have := hb.size; (try simp at this); omega
      have HEw1 := Lib.hid hb
      clear hb
      rw [e2]
      clear e2
      go_wp2_with fail
      refine (rcheck_any pu _).mono ?_
      rintro e w2 ⟨rfl, hb⟩
      obtain ⟨hcw2, hfw2⟩ := bcell hb
      have HBw2 : Hid (Below w.heap.size w w2) := Below.go (by have hpre := HBw1.out; have hps := hpre.size; go_grown) hb (by have hpre := HBw1.out; have hps := hpre.size; go_size)
      have hzw20 : w.heap.size < w2.heap.size := by have := hb.size; (try simp at this); omega
      have HEw2 := Lib.hid hb
      clear hb
      rw [hcp]
      go_wp2
      all_goals
        go_ret
        exact ⟨ret_int HC.out.symm, HBw2.out⟩
  by_cases hs4 : st = 4
  · subst hs4
    by_cases zaw : aw = 0
    case neg =>
      have hc : chkR ⟨nd, nu, 4, ⟨aw, al, ag⟩, A, n, c, l, beat, pu⟩ = 2 := chkR_no h24 (by unfold okR; simp [zaw])
      have HC := Lib.hid hc; clear hc
      have zb : (aw == 0) = false := by simpa using zaw
      go_enter Try.func52, Try.ntmps52
      go_wp2_with fail
      refine (rtag_any nd nu _).mono ?_
      rintro e w1 ⟨rfl, hb⟩
      obtain ⟨hcw1, hfw1⟩ := bcell hb
      have HBw1 : Hid (Below w.heap.size w w1) := Below.go (by go_grown) hb (by go_size)
      have hzw10 : w.heap.size < w1.heap.size := by have := hb.size; (try simp at this); omega
      have HEw1 := Lib.hid hb
      clear hb
      rw [e2]
      clear e2
      go_wp2_with fail
      refine (rcheck_any pu _).mono ?_
      rintro e w2 ⟨rfl, hb⟩
      obtain ⟨hcw2, hfw2⟩ := bcell hb
      have HBw2 : Hid (Below w.heap.size w w2) := Below.go (by have hpre := HBw1.out; have hps := hpre.size; go_grown) hb (by have hpre := HBw1.out; have hps := hpre.size; go_size)
      have hzw20 : w.heap.size < w2.heap.size := by have := hb.size; (try simp at this); omega
      have HEw2 := Lib.hid hb
      clear hb
      rw [hcp]
      go_wp2
      all_goals
        go_ret
        exact ⟨ret_int HC.out.symm, HBw2.out⟩
    by_cases zal : al = 0
    case neg =>
      have hc : chkR ⟨nd, nu, 4, ⟨aw, al, ag⟩, A, n, c, l, beat, pu⟩ = 2 := chkR_no h24 (by unfold okR; simp [zal])
      have HC := Lib.hid hc; clear hc
      have zb : (al == 0) = false := by simpa using zal
      go_enter Try.func52, Try.ntmps52
      go_wp2_with fail
      refine (rtag_any nd nu _).mono ?_
      rintro e w1 ⟨rfl, hb⟩
      obtain ⟨hcw1, hfw1⟩ := bcell hb
      have HBw1 : Hid (Below w.heap.size w w1) := Below.go (by go_grown) hb (by go_size)
      have hzw10 : w.heap.size < w1.heap.size := by have := hb.size; (try simp at this); omega
      have HEw1 := Lib.hid hb
      clear hb
      rw [e2]
      clear e2
      go_wp2_with fail
      refine (rcheck_any pu _).mono ?_
      rintro e w2 ⟨rfl, hb⟩
      obtain ⟨hcw2, hfw2⟩ := bcell hb
      have HBw2 : Hid (Below w.heap.size w w2) := Below.go (by have hpre := HBw1.out; have hps := hpre.size; go_grown) hb (by have hpre := HBw1.out; have hps := hpre.size; go_size)
      have hzw20 : w.heap.size < w2.heap.size := by have := hb.size; (try simp at this); omega
      have HEw2 := Lib.hid hb
      clear hb
      rw [hcp]
      go_wp2
      all_goals
        go_ret
        exact ⟨ret_int HC.out.symm, HBw2.out⟩
    by_cases zag : ag = 0
    case neg =>
      have hc : chkR ⟨nd, nu, 4, ⟨aw, al, ag⟩, A, n, c, l, beat, pu⟩ = 2 := chkR_no h24 (by unfold okR; simp [zag])
      have HC := Lib.hid hc; clear hc
      have zb : (ag == 0) = false := by simpa using zag
      go_enter Try.func52, Try.ntmps52
      go_wp2_with fail
      refine (rtag_any nd nu _).mono ?_
      rintro e w1 ⟨rfl, hb⟩
      obtain ⟨hcw1, hfw1⟩ := bcell hb
      have HBw1 : Hid (Below w.heap.size w w1) := Below.go (by go_grown) hb (by go_size)
      have hzw10 : w.heap.size < w1.heap.size := by have := hb.size; (try simp at this); omega
      have HEw1 := Lib.hid hb
      clear hb
      rw [e2]
      clear e2
      go_wp2_with fail
      refine (rcheck_any pu _).mono ?_
      rintro e w2 ⟨rfl, hb⟩
      obtain ⟨hcw2, hfw2⟩ := bcell hb
      have HBw2 : Hid (Below w.heap.size w w2) := Below.go (by have hpre := HBw1.out; have hps := hpre.size; go_grown) hb (by have hpre := HBw1.out; have hps := hpre.size; go_size)
      have hzw20 : w.heap.size < w2.heap.size := by have := hb.size; (try simp at this); omega
      have HEw2 := Lib.hid hb
      clear hb
      rw [hcp]
      go_wp2
      all_goals
        go_ret
        exact ⟨ret_int HC.out.symm, HBw2.out⟩
    subst zaw zal zag
    rcases Nat.eq_zero_or_pos n with hn0 | hn0
    · subst hn0
      have hc : chkR ⟨nd, nu, 4, ⟨0, 0, 0⟩, A, 0, c, l, beat, pu⟩ = 0 := chkR_ok h24 (by unfold okR; simp [htb, hbb, hpu])
      have HC := Lib.hid hc; clear hc
      go_enter Try.func52, Try.ntmps52
      go_wp2_with fail
      refine (rtag_any nd nu _).mono ?_
      rintro e w1 ⟨rfl, hb⟩
      obtain ⟨hcw1, hfw1⟩ := bcell hb
      have HBw1 : Hid (Below w.heap.size w w1) := Below.go (by go_grown) hb (by go_size)
      have hzw10 : w.heap.size < w1.heap.size := by have := hb.size; (try simp at this); omega
      have HEw1 := Lib.hid hb
      clear hb
      rw [e2]
      clear e2
      go_wp2_with fail
      refine (rcheck_any pu _).mono ?_
      rintro e w2 ⟨rfl, hb⟩
      obtain ⟨hcw2, hfw2⟩ := bcell hb
      have HBw2 : Hid (Below w.heap.size w w2) := Below.go (by have hpre := HBw1.out; have hps := hpre.size; go_grown) hb (by have hpre := HBw1.out; have hps := hpre.size; go_size)
      have hzw20 : w.heap.size < w2.heap.size := by have := hb.size; (try simp at this); omega
      have HEw2 := Lib.hid hb
      clear hb
      rw [hcp]
      go_wp2
      all_goals
        go_ret
        exact ⟨ret_int HC.out.symm, HBw2.out⟩
    · have hc : chkR ⟨nd, nu, 4, ⟨0, 0, 0⟩, A, n, c, l, beat, pu⟩ = 2 := chkR_no h24 (by unfold okR; simp; omega)
      have HC := Lib.hid hc; clear hc
      have zb : ((n : Int) == 0) = false := by rw [beq_eq_false_iff_ne]; omega
      go_enter Try.func52, Try.ntmps52
      go_wp2_with fail
      refine (rtag_any nd nu _).mono ?_
      rintro e w1 ⟨rfl, hb⟩
      obtain ⟨hcw1, hfw1⟩ := bcell hb
      have HBw1 : Hid (Below w.heap.size w w1) := Below.go (by go_grown) hb (by go_size)
      have hzw10 : w.heap.size < w1.heap.size := by have := hb.size; (try simp at this); omega
      have HEw1 := Lib.hid hb
      clear hb
      rw [e2]
      clear e2
      go_wp2_with fail
      refine (rcheck_any pu _).mono ?_
      rintro e w2 ⟨rfl, hb⟩
      obtain ⟨hcw2, hfw2⟩ := bcell hb
      have HBw2 : Hid (Below w.heap.size w w2) := Below.go (by have hpre := HBw1.out; have hps := hpre.size; go_grown) hb (by have hpre := HBw1.out; have hps := hpre.size; go_size)
      have hzw20 : w.heap.size < w2.heap.size := by have := hb.size; (try simp at this); omega
      have HEw2 := Lib.hid hb
      clear hb
      rw [hcp]
      go_wp2
      all_goals
        go_ret
        exact ⟨ret_int HC.out.symm, HBw2.out⟩
  by_cases hs2 : st = 2
  · subst hs2
    cases hat : okS ⟨aw, al, ag⟩
    · have hc : chkR ⟨nd, nu, 2, ⟨aw, al, ag⟩, A, n, c, l, beat, pu⟩ = 2 := chkR_no h24 (by unfold okR; simp [hat])
      have HC := Lib.hid hc; clear hc
      have hca := chk_no hat
      go_enter Try.func52, Try.ntmps52
      go_wp2_with fail
      refine (rtag_any nd nu _).mono ?_
      rintro e w1 ⟨rfl, hb⟩
      obtain ⟨hcw1, hfw1⟩ := bcell hb
      have HBw1 : Hid (Below w.heap.size w w1) := Below.go (by go_grown) hb (by go_size)
      have hzw10 : w.heap.size < w1.heap.size := by have := hb.size; (try simp at this); omega
      have HEw1 := Lib.hid hb
      clear hb
      rw [e2]
      clear e2
      go_wp2_with fail
      refine (rcheck_any pu _).mono ?_
      rintro e w2 ⟨rfl, hb⟩
      obtain ⟨hcw2, hfw2⟩ := bcell hb
      have HBw2 : Hid (Below w.heap.size w w2) := Below.go (by have hpre := HBw1.out; have hps := hpre.size; go_grown) hb (by have hpre := HBw1.out; have hps := hpre.size; go_size)
      have hzw20 : w.heap.size < w2.heap.size := by have := hb.size; (try simp at this); omega
      have HEw2 := Lib.hid hb
      clear hb
      rw [hcp]
      go_wp2_with fail
      refine (rcheck_any ⟨aw, al, ag⟩ _).mono ?_
      rintro e w3 ⟨rfl, hb⟩
      obtain ⟨hcw3, hfw3⟩ := bcell hb
      have HBw3 : Hid (Below w.heap.size w w3) := Below.go (by have hpre := HBw2.out; have hps := hpre.size; go_grown) hb (by have hpre := HBw2.out; have hps := hpre.size; go_size)
      have hzw30 : w.heap.size < w3.heap.size := by have := hb.size; (try simp at this); omega
      have HEw3 := Lib.hid hb
      clear hb
      rw [hca]
      go_wp2
      all_goals
        go_ret
        exact ⟨ret_int HC.out.symm, HBw3.out⟩
    have hca := chk_ok hat
    by_cases htg : ag = tagV nd nu
    case neg =>
      have hc : chkR ⟨nd, nu, 2, ⟨aw, al, ag⟩, A, n, c, l, beat, pu⟩ = 2 := chkR_no h24 (by unfold okR; simp [htg])
      have HC := Lib.hid hc; clear hc
      have zb : (ag == tagV nd nu) = false := by simpa using htg
      go_enter Try.func52, Try.ntmps52
      go_wp2_with fail
      refine (rtag_any nd nu _).mono ?_
      rintro e w1 ⟨rfl, hb⟩
      obtain ⟨hcw1, hfw1⟩ := bcell hb
      have HBw1 : Hid (Below w.heap.size w w1) := Below.go (by go_grown) hb (by go_size)
      have hzw10 : w.heap.size < w1.heap.size := by have := hb.size; (try simp at this); omega
      have HEw1 := Lib.hid hb
      clear hb
      rw [e2]
      clear e2
      go_wp2_with fail
      refine (rcheck_any pu _).mono ?_
      rintro e w2 ⟨rfl, hb⟩
      obtain ⟨hcw2, hfw2⟩ := bcell hb
      have HBw2 : Hid (Below w.heap.size w w2) := Below.go (by have hpre := HBw1.out; have hps := hpre.size; go_grown) hb (by have hpre := HBw1.out; have hps := hpre.size; go_size)
      have hzw20 : w.heap.size < w2.heap.size := by have := hb.size; (try simp at this); omega
      have HEw2 := Lib.hid hb
      clear hb
      rw [hcp]
      go_wp2_with fail
      refine (rcheck_any ⟨aw, al, ag⟩ _).mono ?_
      rintro e w3 ⟨rfl, hb⟩
      obtain ⟨hcw3, hfw3⟩ := bcell hb
      have HBw3 : Hid (Below w.heap.size w w3) := Below.go (by have hpre := HBw2.out; have hps := hpre.size; go_grown) hb (by have hpre := HBw2.out; have hps := hpre.size; go_size)
      have hzw30 : w.heap.size < w3.heap.size := by have := hb.size; (try simp at this); omega
      have HEw3 := Lib.hid hb
      clear hb
      rw [hca]
      go_wp2
      all_goals
        go_ret
        exact ⟨ret_int HC.out.symm, HBw3.out⟩
    subst htg
    rcases Nat.eq_zero_or_pos n with hn0 | hn0
    · subst hn0
      have hc : chkR ⟨nd, nu, 2, ⟨aw, al, tagV nd nu⟩, A, 0, c, l, beat, pu⟩ = 2 := chkR_no h24 (by unfold okR; simp)
      have HC := Lib.hid hc; clear hc
      go_enter Try.func52, Try.ntmps52
      go_wp2_with fail
      refine (rtag_any nd nu _).mono ?_
      rintro e w1 ⟨rfl, hb⟩
      obtain ⟨hcw1, hfw1⟩ := bcell hb
      have HBw1 : Hid (Below w.heap.size w w1) := Below.go (by go_grown) hb (by go_size)
      have hzw10 : w.heap.size < w1.heap.size := by have := hb.size; (try simp at this); omega
      have HEw1 := Lib.hid hb
      clear hb
      rw [e2]
      clear e2
      go_wp2_with fail
      refine (rcheck_any pu _).mono ?_
      rintro e w2 ⟨rfl, hb⟩
      obtain ⟨hcw2, hfw2⟩ := bcell hb
      have HBw2 : Hid (Below w.heap.size w w2) := Below.go (by have hpre := HBw1.out; have hps := hpre.size; go_grown) hb (by have hpre := HBw1.out; have hps := hpre.size; go_size)
      have hzw20 : w.heap.size < w2.heap.size := by have := hb.size; (try simp at this); omega
      have HEw2 := Lib.hid hb
      clear hb
      rw [hcp]
      go_wp2_with fail
      refine (rcheck_any ⟨aw, al, tagV nd nu⟩ _).mono ?_
      rintro e w3 ⟨rfl, hb⟩
      obtain ⟨hcw3, hfw3⟩ := bcell hb
      have HBw3 : Hid (Below w.heap.size w w3) := Below.go (by have hpre := HBw2.out; have hps := hpre.size; go_grown) hb (by have hpre := HBw2.out; have hps := hpre.size; go_size)
      have hzw30 : w.heap.size < w3.heap.size := by have := hb.size; (try simp at this); omega
      have HEw3 := Lib.hid hb
      clear hb
      rw [hca]
      have RW : Hid (Rd w3 B A (sv l)) := Lib.hid (hr.below (HBw3.out.mono hB))
      go_wp2_with fail
      refine (fine_any A 0 c B l HL.out (by omega) _ RW.out).mono ?_
      rintro e w' ⟨rfl, q, rfl⟩
      have HBq : Hid (Below w.heap.size w (w3.drewN q)) := bel_dn HBw3.out q
      generalize riseB l = rb at *
      cases rb
      all_goals
        go_wp2
        all_goals
          go_ret
          exact ⟨ret_int HC.out.symm, HBq.out⟩
    · cases hri : riseB l
      · have hc : chkR ⟨nd, nu, 2, ⟨aw, al, tagV nd nu⟩, A, n, c, l, beat, pu⟩ = 2 := chkR_no h24 (by unfold okR; simp [hri])
        have HC := Lib.hid hc; clear hc
        have zn : decide (0 < (n : Int)) = true := decide_eq_true (by omega)
        have zn2 : decide (0 < n) = true := decide_eq_true hn0
        go_enter Try.func52, Try.ntmps52
        go_wp2_with fail
        refine (rtag_any nd nu _).mono ?_
        rintro e w1 ⟨rfl, hb⟩
        obtain ⟨hcw1, hfw1⟩ := bcell hb
        have HBw1 : Hid (Below w.heap.size w w1) := Below.go (by go_grown) hb (by go_size)
        have hzw10 : w.heap.size < w1.heap.size := by have := hb.size; (try simp at this); omega
        have HEw1 := Lib.hid hb
        clear hb
        rw [e2]
        clear e2
        go_wp2_with fail
        refine (rcheck_any pu _).mono ?_
        rintro e w2 ⟨rfl, hb⟩
        obtain ⟨hcw2, hfw2⟩ := bcell hb
        have HBw2 : Hid (Below w.heap.size w w2) := Below.go (by have hpre := HBw1.out; have hps := hpre.size; go_grown) hb (by have hpre := HBw1.out; have hps := hpre.size; go_size)
        have hzw20 : w.heap.size < w2.heap.size := by have := hb.size; (try simp at this); omega
        have HEw2 := Lib.hid hb
        clear hb
        rw [hcp]
        go_wp2_with fail
        refine (rcheck_any ⟨aw, al, tagV nd nu⟩ _).mono ?_
        rintro e w3 ⟨rfl, hb⟩
        obtain ⟨hcw3, hfw3⟩ := bcell hb
        have HBw3 : Hid (Below w.heap.size w w3) := Below.go (by have hpre := HBw2.out; have hps := hpre.size; go_grown) hb (by have hpre := HBw2.out; have hps := hpre.size; go_size)
        have hzw30 : w.heap.size < w3.heap.size := by have := hb.size; (try simp at this); omega
        have HEw3 := Lib.hid hb
        clear hb
        rw [hca]
        have RW : Hid (Rd w3 B A (sv l)) := Lib.hid (hr.below (HBw3.out.mono hB))
        go_wp2_with fail
        refine (fine_any A n c B l HL.out (by omega) _ RW.out).mono ?_
        rintro e w' ⟨rfl, q, rfl⟩
        rw [hri]
        have HBq : Hid (Below w.heap.size w (w3.drewN q)) := bel_dn HBw3.out q
        go_wp2
        all_goals
          go_ret
          exact ⟨ret_int HC.out.symm, HBq.out⟩
      · have hc : chkR ⟨nd, nu, 2, ⟨aw, al, tagV nd nu⟩, A, n, c, l, beat, pu⟩ = 0 := chkR_ok h24 (by unfold okR; simp [htb, hbb, hpu, hat, hri, hn0])
        have HC := Lib.hid hc; clear hc
        have zn : decide (0 < (n : Int)) = true := decide_eq_true (by omega)
        have zn2 : decide (0 < n) = true := decide_eq_true hn0
        go_enter Try.func52, Try.ntmps52
        go_wp2_with fail
        refine (rtag_any nd nu _).mono ?_
        rintro e w1 ⟨rfl, hb⟩
        obtain ⟨hcw1, hfw1⟩ := bcell hb
        have HBw1 : Hid (Below w.heap.size w w1) := Below.go (by go_grown) hb (by go_size)
        have hzw10 : w.heap.size < w1.heap.size := by have := hb.size; (try simp at this); omega
        have HEw1 := Lib.hid hb
        clear hb
        rw [e2]
        clear e2
        go_wp2_with fail
        refine (rcheck_any pu _).mono ?_
        rintro e w2 ⟨rfl, hb⟩
        obtain ⟨hcw2, hfw2⟩ := bcell hb
        have HBw2 : Hid (Below w.heap.size w w2) := Below.go (by have hpre := HBw1.out; have hps := hpre.size; go_grown) hb (by have hpre := HBw1.out; have hps := hpre.size; go_size)
        have hzw20 : w.heap.size < w2.heap.size := by have := hb.size; (try simp at this); omega
        have HEw2 := Lib.hid hb
        clear hb
        rw [hcp]
        go_wp2_with fail
        refine (rcheck_any ⟨aw, al, tagV nd nu⟩ _).mono ?_
        rintro e w3 ⟨rfl, hb⟩
        obtain ⟨hcw3, hfw3⟩ := bcell hb
        have HBw3 : Hid (Below w.heap.size w w3) := Below.go (by have hpre := HBw2.out; have hps := hpre.size; go_grown) hb (by have hpre := HBw2.out; have hps := hpre.size; go_size)
        have hzw30 : w.heap.size < w3.heap.size := by have := hb.size; (try simp at this); omega
        have HEw3 := Lib.hid hb
        clear hb
        rw [hca]
        have RW : Hid (Rd w3 B A (sv l)) := Lib.hid (hr.below (HBw3.out.mono hB))
        go_wp2_with fail
        refine (fine_any A n c B l HL.out (by omega) _ RW.out).mono ?_
        rintro e w' ⟨rfl, q, rfl⟩
        rw [hri]
        have HBq : Hid (Below w.heap.size w (w3.drewN q)) := bel_dn HBw3.out q
        go_wp2
        all_goals
          go_ret
          exact ⟨ret_int HC.out.symm, HBq.out⟩
  by_cases hs3 : st = 3
  · subst hs3
    cases hat : okS ⟨aw, al, ag⟩
    · have hc : chkR ⟨nd, nu, 3, ⟨aw, al, ag⟩, A, n, c, l, beat, pu⟩ = 2 := chkR_no h24 (by unfold okR; simp [hat])
      have HC := Lib.hid hc; clear hc
      have hca := chk_no hat
      go_enter Try.func52, Try.ntmps52
      go_wp2_with fail
      refine (rtag_any nd nu _).mono ?_
      rintro e w1 ⟨rfl, hb⟩
      obtain ⟨hcw1, hfw1⟩ := bcell hb
      have HBw1 : Hid (Below w.heap.size w w1) := Below.go (by go_grown) hb (by go_size)
      have hzw10 : w.heap.size < w1.heap.size := by have := hb.size; (try simp at this); omega
      have HEw1 := Lib.hid hb
      clear hb
      rw [e2]
      clear e2
      go_wp2_with fail
      refine (rcheck_any pu _).mono ?_
      rintro e w2 ⟨rfl, hb⟩
      obtain ⟨hcw2, hfw2⟩ := bcell hb
      have HBw2 : Hid (Below w.heap.size w w2) := Below.go (by have hpre := HBw1.out; have hps := hpre.size; go_grown) hb (by have hpre := HBw1.out; have hps := hpre.size; go_size)
      have hzw20 : w.heap.size < w2.heap.size := by have := hb.size; (try simp at this); omega
      have HEw2 := Lib.hid hb
      clear hb
      rw [hcp]
      go_wp2_with fail
      refine (rcheck_any ⟨aw, al, ag⟩ _).mono ?_
      rintro e w3 ⟨rfl, hb⟩
      obtain ⟨hcw3, hfw3⟩ := bcell hb
      have HBw3 : Hid (Below w.heap.size w w3) := Below.go (by have hpre := HBw2.out; have hps := hpre.size; go_grown) hb (by have hpre := HBw2.out; have hps := hpre.size; go_size)
      have hzw30 : w.heap.size < w3.heap.size := by have := hb.size; (try simp at this); omega
      have HEw3 := Lib.hid hb
      clear hb
      rw [hca]
      go_wp2
      all_goals
        go_ret
        exact ⟨ret_int HC.out.symm, HBw3.out⟩
    have hca := chk_ok hat
    by_cases htg : ag = tagV nd nu
    case neg =>
      have hc : chkR ⟨nd, nu, 3, ⟨aw, al, ag⟩, A, n, c, l, beat, pu⟩ = 2 := chkR_no h24 (by unfold okR; simp [htg])
      have HC := Lib.hid hc; clear hc
      have zb : (ag == tagV nd nu) = false := by simpa using htg
      go_enter Try.func52, Try.ntmps52
      go_wp2_with fail
      refine (rtag_any nd nu _).mono ?_
      rintro e w1 ⟨rfl, hb⟩
      obtain ⟨hcw1, hfw1⟩ := bcell hb
      have HBw1 : Hid (Below w.heap.size w w1) := Below.go (by go_grown) hb (by go_size)
      have hzw10 : w.heap.size < w1.heap.size := by have := hb.size; (try simp at this); omega
      have HEw1 := Lib.hid hb
      clear hb
      rw [e2]
      clear e2
      go_wp2_with fail
      refine (rcheck_any pu _).mono ?_
      rintro e w2 ⟨rfl, hb⟩
      obtain ⟨hcw2, hfw2⟩ := bcell hb
      have HBw2 : Hid (Below w.heap.size w w2) := Below.go (by have hpre := HBw1.out; have hps := hpre.size; go_grown) hb (by have hpre := HBw1.out; have hps := hpre.size; go_size)
      have hzw20 : w.heap.size < w2.heap.size := by have := hb.size; (try simp at this); omega
      have HEw2 := Lib.hid hb
      clear hb
      rw [hcp]
      go_wp2_with fail
      refine (rcheck_any ⟨aw, al, ag⟩ _).mono ?_
      rintro e w3 ⟨rfl, hb⟩
      obtain ⟨hcw3, hfw3⟩ := bcell hb
      have HBw3 : Hid (Below w.heap.size w w3) := Below.go (by have hpre := HBw2.out; have hps := hpre.size; go_grown) hb (by have hpre := HBw2.out; have hps := hpre.size; go_size)
      have hzw30 : w.heap.size < w3.heap.size := by have := hb.size; (try simp at this); omega
      have HEw3 := Lib.hid hb
      clear hb
      rw [hca]
      go_wp2
      all_goals
        go_ret
        exact ⟨ret_int HC.out.symm, HBw3.out⟩
    subst htg
    rcases Nat.eq_zero_or_pos n with hn0 | hn0
    · subst hn0
      have hc : chkR ⟨nd, nu, 3, ⟨aw, al, tagV nd nu⟩, A, 0, c, l, beat, pu⟩ = 2 := chkR_no h24 (by unfold okR; simp)
      have HC := Lib.hid hc; clear hc
      go_enter Try.func52, Try.ntmps52
      go_wp2_with fail
      refine (rtag_any nd nu _).mono ?_
      rintro e w1 ⟨rfl, hb⟩
      obtain ⟨hcw1, hfw1⟩ := bcell hb
      have HBw1 : Hid (Below w.heap.size w w1) := Below.go (by go_grown) hb (by go_size)
      have hzw10 : w.heap.size < w1.heap.size := by have := hb.size; (try simp at this); omega
      have HEw1 := Lib.hid hb
      clear hb
      rw [e2]
      clear e2
      go_wp2_with fail
      refine (rcheck_any pu _).mono ?_
      rintro e w2 ⟨rfl, hb⟩
      obtain ⟨hcw2, hfw2⟩ := bcell hb
      have HBw2 : Hid (Below w.heap.size w w2) := Below.go (by have hpre := HBw1.out; have hps := hpre.size; go_grown) hb (by have hpre := HBw1.out; have hps := hpre.size; go_size)
      have hzw20 : w.heap.size < w2.heap.size := by have := hb.size; (try simp at this); omega
      have HEw2 := Lib.hid hb
      clear hb
      rw [hcp]
      go_wp2_with fail
      refine (rcheck_any ⟨aw, al, tagV nd nu⟩ _).mono ?_
      rintro e w3 ⟨rfl, hb⟩
      obtain ⟨hcw3, hfw3⟩ := bcell hb
      have HBw3 : Hid (Below w.heap.size w w3) := Below.go (by have hpre := HBw2.out; have hps := hpre.size; go_grown) hb (by have hpre := HBw2.out; have hps := hpre.size; go_size)
      have hzw30 : w.heap.size < w3.heap.size := by have := hb.size; (try simp at this); omega
      have HEw3 := Lib.hid hb
      clear hb
      rw [hca]
      have RW : Hid (Rd w3 B A (sv l)) := Lib.hid (hr.below (HBw3.out.mono hB))
      go_wp2_with fail
      refine (fine_any A 0 c B l HL.out (by omega) _ RW.out).mono ?_
      rintro e w' ⟨rfl, q, rfl⟩
      have HBq : Hid (Below w.heap.size w (w3.drewN q)) := bel_dn HBw3.out q
      generalize riseB l = rb at *
      cases rb
      all_goals
        go_wp2
        all_goals
          go_ret
          exact ⟨ret_int HC.out.symm, HBq.out⟩
    · cases hri : riseB l
      · have hc : chkR ⟨nd, nu, 3, ⟨aw, al, tagV nd nu⟩, A, n, c, l, beat, pu⟩ = 2 := chkR_no h24 (by unfold okR; simp [hri])
        have HC := Lib.hid hc; clear hc
        have zn : decide (0 < (n : Int)) = true := decide_eq_true (by omega)
        have zn2 : decide (0 < n) = true := decide_eq_true hn0
        go_enter Try.func52, Try.ntmps52
        go_wp2_with fail
        refine (rtag_any nd nu _).mono ?_
        rintro e w1 ⟨rfl, hb⟩
        obtain ⟨hcw1, hfw1⟩ := bcell hb
        have HBw1 : Hid (Below w.heap.size w w1) := Below.go (by go_grown) hb (by go_size)
        have hzw10 : w.heap.size < w1.heap.size := by have := hb.size; (try simp at this); omega
        have HEw1 := Lib.hid hb
        clear hb
        rw [e2]
        clear e2
        go_wp2_with fail
        refine (rcheck_any pu _).mono ?_
        rintro e w2 ⟨rfl, hb⟩
        obtain ⟨hcw2, hfw2⟩ := bcell hb
        have HBw2 : Hid (Below w.heap.size w w2) := Below.go (by have hpre := HBw1.out; have hps := hpre.size; go_grown) hb (by have hpre := HBw1.out; have hps := hpre.size; go_size)
        have hzw20 : w.heap.size < w2.heap.size := by have := hb.size; (try simp at this); omega
        have HEw2 := Lib.hid hb
        clear hb
        rw [hcp]
        go_wp2_with fail
        refine (rcheck_any ⟨aw, al, tagV nd nu⟩ _).mono ?_
        rintro e w3 ⟨rfl, hb⟩
        obtain ⟨hcw3, hfw3⟩ := bcell hb
        have HBw3 : Hid (Below w.heap.size w w3) := Below.go (by have hpre := HBw2.out; have hps := hpre.size; go_grown) hb (by have hpre := HBw2.out; have hps := hpre.size; go_size)
        have hzw30 : w.heap.size < w3.heap.size := by have := hb.size; (try simp at this); omega
        have HEw3 := Lib.hid hb
        clear hb
        rw [hca]
        have RW : Hid (Rd w3 B A (sv l)) := Lib.hid (hr.below (HBw3.out.mono hB))
        go_wp2_with fail
        refine (fine_any A n c B l HL.out (by omega) _ RW.out).mono ?_
        rintro e w' ⟨rfl, q, rfl⟩
        rw [hri]
        have HBq : Hid (Below w.heap.size w (w3.drewN q)) := bel_dn HBw3.out q
        go_wp2
        all_goals
          go_ret
          exact ⟨ret_int HC.out.symm, HBq.out⟩
      · have hc : chkR ⟨nd, nu, 3, ⟨aw, al, tagV nd nu⟩, A, n, c, l, beat, pu⟩ = 0 := chkR_ok h24 (by unfold okR; simp [htb, hbb, hpu, hat, hri, hn0])
        have HC := Lib.hid hc; clear hc
        have zn : decide (0 < (n : Int)) = true := decide_eq_true (by omega)
        have zn2 : decide (0 < n) = true := decide_eq_true hn0
        go_enter Try.func52, Try.ntmps52
        go_wp2_with fail
        refine (rtag_any nd nu _).mono ?_
        rintro e w1 ⟨rfl, hb⟩
        obtain ⟨hcw1, hfw1⟩ := bcell hb
        have HBw1 : Hid (Below w.heap.size w w1) := Below.go (by go_grown) hb (by go_size)
        have hzw10 : w.heap.size < w1.heap.size := by have := hb.size; (try simp at this); omega
        have HEw1 := Lib.hid hb
        clear hb
        rw [e2]
        clear e2
        go_wp2_with fail
        refine (rcheck_any pu _).mono ?_
        rintro e w2 ⟨rfl, hb⟩
        obtain ⟨hcw2, hfw2⟩ := bcell hb
        have HBw2 : Hid (Below w.heap.size w w2) := Below.go (by have hpre := HBw1.out; have hps := hpre.size; go_grown) hb (by have hpre := HBw1.out; have hps := hpre.size; go_size)
        have hzw20 : w.heap.size < w2.heap.size := by have := hb.size; (try simp at this); omega
        have HEw2 := Lib.hid hb
        clear hb
        rw [hcp]
        go_wp2_with fail
        refine (rcheck_any ⟨aw, al, tagV nd nu⟩ _).mono ?_
        rintro e w3 ⟨rfl, hb⟩
        obtain ⟨hcw3, hfw3⟩ := bcell hb
        have HBw3 : Hid (Below w.heap.size w w3) := Below.go (by have hpre := HBw2.out; have hps := hpre.size; go_grown) hb (by have hpre := HBw2.out; have hps := hpre.size; go_size)
        have hzw30 : w.heap.size < w3.heap.size := by have := hb.size; (try simp at this); omega
        have HEw3 := Lib.hid hb
        clear hb
        rw [hca]
        have RW : Hid (Rd w3 B A (sv l)) := Lib.hid (hr.below (HBw3.out.mono hB))
        go_wp2_with fail
        refine (fine_any A n c B l HL.out (by omega) _ RW.out).mono ?_
        rintro e w' ⟨rfl, q, rfl⟩
        rw [hri]
        have HBq : Hid (Below w.heap.size w (w3.drewN q)) := bel_dn HBw3.out q
        go_wp2
        all_goals
          go_ret
          exact ⟨ret_int HC.out.symm, HBq.out⟩
  have hc : chkR ⟨nd, nu, st, ⟨aw, al, ag⟩, A, n, c, l, beat, pu⟩ = 2 := chkR_no h24 (by unfold okR; simp [hs1, hs2, hs3, hs4])
  have HC := Lib.hid hc; clear hc
  have zs1 : (st == 1) = false := by simpa using hs1
  have zs4 : (st == 4) = false := by simpa using hs4
  have zs2 : (st == 2) = false := by simpa using hs2
  have zs3 : (st == 3) = false := by simpa using hs3
  go_enter Try.func52, Try.ntmps52
  go_wp2_with fail
  refine (rtag_any nd nu _).mono ?_
  rintro e w1 ⟨rfl, hb⟩
  obtain ⟨hcw1, hfw1⟩ := bcell hb
  have HBw1 : Hid (Below w.heap.size w w1) := Below.go (by go_grown) hb (by go_size)
  have hzw10 : w.heap.size < w1.heap.size := by have := hb.size; (try simp at this); omega
  have HEw1 := Lib.hid hb
  clear hb
  rw [e2]
  clear e2
  go_wp2_with fail
  refine (rcheck_any pu _).mono ?_
  rintro e w2 ⟨rfl, hb⟩
  obtain ⟨hcw2, hfw2⟩ := bcell hb
  have HBw2 : Hid (Below w.heap.size w w2) := Below.go (by have hpre := HBw1.out; have hps := hpre.size; go_grown) hb (by have hpre := HBw1.out; have hps := hpre.size; go_size)
  have hzw20 : w.heap.size < w2.heap.size := by have := hb.size; (try simp at this); omega
  have HEw2 := Lib.hid hb
  clear hb
  rw [hcp]
  go_wp2
  all_goals
    go_ret
    exact ⟨ret_int HC.out.symm, HBw2.out⟩
end Go.Proofs.Ytgikaglmeeeplaa
