/- Walks: whether a cell, an intent may be. -/
import Derived.Test.YtgikaglmeeeplaaIm
namespace Go.Proofs.Ytgikaglmeeeplaa
open Go.RowKit Go.St
set_option linter.unusedVariables false
set_option linter.unusedSimpArgs false
set_option maxRecDepth 100000

theorem str_eq (a b : ByteArray) : (a.toList == b.toList) = decide (a = b) := by
  by_cases h : a = b
  · subst h; simp
  · rw [decide_eq_false h]
    simp only [beq_eq_false_iff_ne]
    exact fun e => h (toList_inj e)
theorem usr_yes {k : ByteArray} (h : usr k = true) : 1 ≤ k.size ∧ k.size ≤ 128 := by simpa [usr] using h

set_option maxHeartbeats 400000 in
theorem puser_any (k : ByteArray) (w : World) : Calls Try.prog 55 #[.string k] w fun e w' => e = .returned (.bool (usr k)) ∧ w' = w := by
  by_cases h1 : 1 ≤ k.size
  · have g1 : (1 : Int) ≤ (k.size : Int) := by omega
    by_cases h2 : k.size ≤ 128
    · have g2 : (k.size : Int) ≤ 128 := by omega
      have hu : usr k = true := by simp [usr, h1, h2]
      rw [hu]
      clear hu
      go_enter Try.func55, Try.ntmps55
      go_wp2
      go_ret
      exact ⟨rfl, rfl⟩
    · have g2 : ¬ (k.size : Int) ≤ 128 := by omega
      have hu : usr k = false := by simp [usr, h1, h2]
      rw [hu]
      clear hu
      go_enter Try.func55, Try.ntmps55
      go_wp2
      go_ret
      exact ⟨rfl, rfl⟩
  · have g1 : ¬ (1 : Int) ≤ (k.size : Int) := by omega
    have hu : usr k = false := by simp [usr, h1]
    rw [hu]
    clear hu
    go_enter Try.func55, Try.ntmps55
    go_wp2
    go_ret
    exact ⟨rfl, rfl⟩
set_option maxHeartbeats 400000 in
theorem ruser_any (k : ByteArray) (w : World) : Calls Try.prog 62 #[.string k] w fun e w' => e = .returned (.bool (usr k)) ∧ w' = w := by
  by_cases h1 : 1 ≤ k.size
  · have g1 : (1 : Int) ≤ (k.size : Int) := by omega
    by_cases h2 : k.size ≤ 128
    · have g2 : (k.size : Int) ≤ 128 := by omega
      have hu : usr k = true := by simp [usr, h1, h2]
      rw [hu]
      clear hu
      go_enter Try.func62, Try.ntmps62
      go_wp2
      go_ret
      exact ⟨rfl, rfl⟩
    · have g2 : ¬ (k.size : Int) ≤ 128 := by omega
      have hu : usr k = false := by simp [usr, h1, h2]
      rw [hu]
      clear hu
      go_enter Try.func62, Try.ntmps62
      go_wp2
      go_ret
      exact ⟨rfl, rfl⟩
  · have g1 : ¬ (1 : Int) ≤ (k.size : Int) := by omega
    have hu : usr k = false := by simp [usr, h1]
    rw [hu]
    clear hu
    go_enter Try.func62, Try.ntmps62
    go_wp2
    go_ret
    exact ⟨rfl, rfl⟩

set_option maxHeartbeats 400000 in
theorem pheld_any (k : ByteArray) (d : Bool) (w : World) : Calls Try.prog 56 #[.string k, .bool d] w fun e w' => e = .returned (.bool (hld k d)) ∧ w' = w := by
  by_cases h1 : k.size ≤ 2048
  · have g1 : (k.size : Int) ≤ 2048 := by omega
    cases d
    · have hu : hld k false = true := by simp [hld, h1]
      rw [hu]
      clear hu
      go_enter Try.func56, Try.ntmps56
      go_wp2
      go_ret
      exact ⟨rfl, rfl⟩
    · by_cases h2 : k.toList = []
      · have hu : hld k true = true := by simp [hld, h1, h2]
        have e1 : (k.toList == []) = true := by simp [h2]
        rw [hu]
        clear hu
        go_enter Try.func56, Try.ntmps56
        go_wp2
        go_ret
        exact ⟨rfl, rfl⟩
      · have hu : hld k true = false := by simp [hld, h1, h2]
        have e1 : (k.toList == []) = false := by simpa using h2
        rw [hu]
        clear hu
        go_enter Try.func56, Try.ntmps56
        go_wp2
        go_ret
        exact ⟨rfl, rfl⟩
  · have g1 : ¬ (k.size : Int) ≤ 2048 := by omega
    have hu : hld k d = false := by simp [hld, h1]
    rw [hu]
    clear hu
    go_enter Try.func56, Try.ntmps56
    go_wp2
    go_ret
    exact ⟨rfl, rfl⟩
set_option maxHeartbeats 400000 in
theorem rheld_any (k : ByteArray) (d : Bool) (w : World) : Calls Try.prog 63 #[.string k, .bool d] w fun e w' => e = .returned (.bool (hld k d)) ∧ w' = w := by
  by_cases h1 : k.size ≤ 2048
  · have g1 : (k.size : Int) ≤ 2048 := by omega
    cases d
    · have hu : hld k false = true := by simp [hld, h1]
      rw [hu]
      clear hu
      go_enter Try.func63, Try.ntmps63
      go_wp2
      go_ret
      exact ⟨rfl, rfl⟩
    · by_cases h2 : k.toList = []
      · have hu : hld k true = true := by simp [hld, h1, h2]
        have e1 : (k.toList == []) = true := by simp [h2]
        rw [hu]
        clear hu
        go_enter Try.func63, Try.ntmps63
        go_wp2
        go_ret
        exact ⟨rfl, rfl⟩
      · have hu : hld k true = false := by simp [hld, h1, h2]
        have e1 : (k.toList == []) = false := by simpa using h2
        rw [hu]
        clear hu
        go_enter Try.func63, Try.ntmps63
        go_wp2
        go_ret
        exact ⟨rfl, rfl⟩
  · have g1 : ¬ (k.size : Int) ≤ 2048 := by omega
    have hu : hld k d = false := by simp [hld, h1]
    rw [hu]
    clear hu
    go_enter Try.func63, Try.ntmps63
    go_wp2
    go_ret
    exact ⟨rfl, rfl⟩

set_option maxHeartbeats 1600000 in
theorem pcell_any (c : Cel) (w : World) : Calls Try.prog 32 #[c.v] w fun e w' => e = .returned (.int .i64 (chkC c)) ∧ Below w.heap.size w w' := by
  obtain ⟨k, ⟨a1, a2, a3⟩, v, d⟩ := c
  unfold Cel.v
  cases h1 : usr k
  · have hc : chkC ⟨k, ⟨a1, a2, a3⟩, v, d⟩ = 2 := by simp [chkC, okC, h1]
    have HC := Lib.hid hc
    clear hc
    go_enter Try.func32, Try.ntmps32
    go_wp2_with fail
    refine (puser_any k _).mono ?_
    rintro e w1 ⟨rfl, rfl⟩
    rw [h1]
    go_wp2_with fail
    go_ret
    exact ⟨ret_int HC.out.symm, (Below.refl _ _).alloc (Nat.le_refl _) _⟩
  cases h2 : hld v d
  · have hc : chkC ⟨k, ⟨a1, a2, a3⟩, v, d⟩ = 2 := by simp [chkC, okC, h1, h2]
    have HC := Lib.hid hc
    clear hc
    go_enter Try.func32, Try.ntmps32
    go_wp2_with fail
    refine (puser_any k _).mono ?_
    rintro e w1 ⟨rfl, rfl⟩
    rw [h1]
    go_wp2_with fail
    refine (pheld_any v d _).mono ?_
    rintro e w1 ⟨rfl, rfl⟩
    rw [h2]
    go_wp2_with fail
    go_ret
    exact ⟨ret_int HC.out.symm, (Below.refl _ _).alloc (Nat.le_refl _) _⟩
  have h3 : chkC ⟨k, ⟨a1, a2, a3⟩, v, d⟩ = chk ⟨a1, a2, a3⟩ := by simp [chkC, okC, h1, h2, chk]
  rw [h3]
  clear h3
  go_enter Try.func32, Try.ntmps32
  go_wp2_with fail
  refine (puser_any k _).mono ?_
  rintro e w1 ⟨rfl, rfl⟩
  rw [h1]
  go_wp2_with fail
  refine (pheld_any v d _).mono ?_
  rintro e w1 ⟨rfl, rfl⟩
  rw [h2]
  go_wp2_with fail
  refine (hcheck_any ⟨a1, a2, a3⟩ _).mono ?_
  rintro e w2 ⟨rfl, hb⟩
  obtain ⟨hcw2, hfw2⟩ := bcell hb
  have HBw2 : Hid (Below w.heap.size w w2) := Below.go (by go_grown) hb (by go_size)
  have hzw20 : w.heap.size < w2.heap.size := by have := hb.size; (try simp at this); omega
  have HEw2 := Lib.hid hb
  clear hb
  rcases (show chk ⟨a1, a2, a3⟩ = 0 ∨ chk ⟨a1, a2, a3⟩ = 2 by unfold chk; split <;> simp) with h4 | h4
  · have H4 := Lib.hid h4
    rw [h4]
    clear h4
    go_wp2_with fail
    go_ret
    exact ⟨ret_int H4.out.symm, HBw2.out⟩
  · have H4 := Lib.hid h4
    rw [h4]
    clear h4
    go_wp2_with fail
    go_ret
    exact ⟨ret_int H4.out.symm, HBw2.out⟩
set_option maxHeartbeats 1600000 in
theorem rcell_any (c : Cel) (w : World) : Calls Try.prog 48 #[c.v] w fun e w' => e = .returned (.int .i64 (chkC c)) ∧ Below w.heap.size w w' := by
  obtain ⟨k, ⟨a1, a2, a3⟩, v, d⟩ := c
  unfold Cel.v
  cases h1 : usr k
  · have hc : chkC ⟨k, ⟨a1, a2, a3⟩, v, d⟩ = 2 := by simp [chkC, okC, h1]
    have HC := Lib.hid hc
    clear hc
    go_enter Try.func48, Try.ntmps48
    go_wp2_with fail
    refine (ruser_any k _).mono ?_
    rintro e w1 ⟨rfl, rfl⟩
    rw [h1]
    go_wp2_with fail
    go_ret
    exact ⟨ret_int HC.out.symm, (Below.refl _ _).alloc (Nat.le_refl _) _⟩
  cases h2 : hld v d
  · have hc : chkC ⟨k, ⟨a1, a2, a3⟩, v, d⟩ = 2 := by simp [chkC, okC, h1, h2]
    have HC := Lib.hid hc
    clear hc
    go_enter Try.func48, Try.ntmps48
    go_wp2_with fail
    refine (ruser_any k _).mono ?_
    rintro e w1 ⟨rfl, rfl⟩
    rw [h1]
    go_wp2_with fail
    refine (rheld_any v d _).mono ?_
    rintro e w1 ⟨rfl, rfl⟩
    rw [h2]
    go_wp2_with fail
    go_ret
    exact ⟨ret_int HC.out.symm, (Below.refl _ _).alloc (Nat.le_refl _) _⟩
  have h3 : chkC ⟨k, ⟨a1, a2, a3⟩, v, d⟩ = chk ⟨a1, a2, a3⟩ := by simp [chkC, okC, h1, h2, chk]
  rw [h3]
  clear h3
  go_enter Try.func48, Try.ntmps48
  go_wp2_with fail
  refine (ruser_any k _).mono ?_
  rintro e w1 ⟨rfl, rfl⟩
  rw [h1]
  go_wp2_with fail
  refine (rheld_any v d _).mono ?_
  rintro e w1 ⟨rfl, rfl⟩
  rw [h2]
  go_wp2_with fail
  refine (rcheck_any ⟨a1, a2, a3⟩ _).mono ?_
  rintro e w2 ⟨rfl, hb⟩
  obtain ⟨hcw2, hfw2⟩ := bcell hb
  have HBw2 : Hid (Below w.heap.size w w2) := Below.go (by go_grown) hb (by go_size)
  have hzw20 : w.heap.size < w2.heap.size := by have := hb.size; (try simp at this); omega
  have HEw2 := Lib.hid hb
  clear hb
  rcases (show chk ⟨a1, a2, a3⟩ = 0 ∨ chk ⟨a1, a2, a3⟩ = 2 by unfold chk; split <;> simp) with h4 | h4
  · have H4 := Lib.hid h4
    rw [h4]
    clear h4
    go_wp2_with fail
    go_ret
    exact ⟨ret_int H4.out.symm, HBw2.out⟩
  · have H4 := Lib.hid h4
    rw [h4]
    clear h4
    go_wp2_with fail
    go_ret
    exact ⟨ret_int H4.out.symm, HBw2.out⟩
set_option maxHeartbeats 6400000 in
theorem pitt_any (c : Itt) (w : World) : Calls Try.prog 33 #[c.v] w fun e w' => e = .returned (.int .i64 (chkI c)) ∧ Below w.heap.size w w' := by
  obtain ⟨k, nd, nu, ⟨b1, b2, b3⟩, an, ⟨a1, a2, a3⟩, v, d⟩ := c
  unfold Itt.v
  simp only
  by_cases htb : tagBad nd nu
  · have hc : chkI ⟨k, nd, nu, ⟨b1, b2, b3⟩, an, ⟨a1, a2, a3⟩, v, d⟩ = 2 := by simp [chkI, okI, htb]
    have HC := Lib.hid hc
    have e2 : tagE nd nu = 2 := by unfold tagE; rw [if_pos htb]
    clear hc htb
    go_enter Try.func33, Try.ntmps33
    go_wp2_with fail
    refine (tag_any nd nu _).mono ?_
    rintro e w1 ⟨rfl, hb⟩
    obtain ⟨hcw1, hfw1⟩ := bcell hb
    have HBw1 : Hid (Below w.heap.size w w1) := Below.go (by go_grown) hb (by go_size)
    have hzw10 : w.heap.size < w1.heap.size := by have := hb.size; (try simp at this); omega
    have HEw1 := Lib.hid hb
    clear hb
    rw [e2]
    clear e2
    go_wp2_with fail
    go_ret
    exact ⟨ret_int HC.out.symm, HBw1.out⟩
  have e2 : tagE nd nu = 0 := by unfold tagE; rw [if_neg htb]
  have HT := Lib.hid htb
  clear htb
  generalize hq : tagV nd nu = q
  have HQ := Lib.hid hq
  cases h1 : usr k
  · have hc : chkI ⟨k, nd, nu, ⟨b1, b2, b3⟩, an, ⟨a1, a2, a3⟩, v, d⟩ = 2 := by simp [chkI, okI, h1]
    have HC := Lib.hid hc
    clear hc
    go_enter Try.func33, Try.ntmps33
    go_wp2_with fail
    refine (tag_any nd nu _).mono ?_
    rintro e w1 ⟨rfl, hb⟩
    obtain ⟨hcw1, hfw1⟩ := bcell hb
    have HBw1 : Hid (Below w.heap.size w w1) := Below.go (by go_grown) hb (by go_size)
    have hzw10 : w.heap.size < w1.heap.size := by have := hb.size; (try simp at this); omega
    have HEw1 := Lib.hid hb
    clear hb
    rw [e2, HQ.out]
    clear e2 hq
    go_wp2_with fail
    refine (puser_any k _).mono ?_
    rintro e w1 ⟨rfl, rfl⟩
    rw [h1]
    go_wp2_with fail
    go_ret
    exact ⟨ret_int HC.out.symm, HBw1.out⟩
  cases h2 : usr an
  · have hc : chkI ⟨k, nd, nu, ⟨b1, b2, b3⟩, an, ⟨a1, a2, a3⟩, v, d⟩ = 2 := by simp [chkI, okI, h2]
    have HC := Lib.hid hc
    clear hc
    go_enter Try.func33, Try.ntmps33
    go_wp2_with fail
    refine (tag_any nd nu _).mono ?_
    rintro e w1 ⟨rfl, hb⟩
    obtain ⟨hcw1, hfw1⟩ := bcell hb
    have HBw1 : Hid (Below w.heap.size w w1) := Below.go (by go_grown) hb (by go_size)
    have hzw10 : w.heap.size < w1.heap.size := by have := hb.size; (try simp at this); omega
    have HEw1 := Lib.hid hb
    clear hb
    rw [e2, HQ.out]
    clear e2 hq
    go_wp2_with fail
    refine (puser_any k _).mono ?_
    rintro e w1 ⟨rfl, rfl⟩
    rw [h1]
    go_wp2_with fail
    refine (puser_any an _).mono ?_
    rintro e w1 ⟨rfl, rfl⟩
    rw [h2]
    go_wp2_with fail
    go_ret
    exact ⟨ret_int HC.out.symm, HBw1.out⟩
  cases h3 : hld v d
  · have hc : chkI ⟨k, nd, nu, ⟨b1, b2, b3⟩, an, ⟨a1, a2, a3⟩, v, d⟩ = 2 := by simp [chkI, okI, h3]
    have HC := Lib.hid hc
    clear hc
    go_enter Try.func33, Try.ntmps33
    go_wp2_with fail
    refine (tag_any nd nu _).mono ?_
    rintro e w1 ⟨rfl, hb⟩
    obtain ⟨hcw1, hfw1⟩ := bcell hb
    have HBw1 : Hid (Below w.heap.size w w1) := Below.go (by go_grown) hb (by go_size)
    have hzw10 : w.heap.size < w1.heap.size := by have := hb.size; (try simp at this); omega
    have HEw1 := Lib.hid hb
    clear hb
    rw [e2, HQ.out]
    clear e2 hq
    go_wp2_with fail
    refine (puser_any k _).mono ?_
    rintro e w1 ⟨rfl, rfl⟩
    rw [h1]
    go_wp2_with fail
    refine (puser_any an _).mono ?_
    rintro e w1 ⟨rfl, rfl⟩
    rw [h2]
    go_wp2_with fail
    refine (pheld_any v d _).mono ?_
    rintro e w1 ⟨rfl, rfl⟩
    rw [h3]
    go_wp2_with fail
    go_ret
    exact ⟨ret_int HC.out.symm, HBw1.out⟩
  cases h4 : okS ⟨b1, b2, b3⟩
  · have hc : chkI ⟨k, nd, nu, ⟨b1, b2, b3⟩, an, ⟨a1, a2, a3⟩, v, d⟩ = 2 := by simp [chkI, okI, h4]
    have HC := Lib.hid hc
    have g4 := chk_no h4
    clear hc
    go_enter Try.func33, Try.ntmps33
    go_wp2_with fail
    refine (tag_any nd nu _).mono ?_
    rintro e w1 ⟨rfl, hb⟩
    obtain ⟨hcw1, hfw1⟩ := bcell hb
    have HBw1 : Hid (Below w.heap.size w w1) := Below.go (by go_grown) hb (by go_size)
    have hzw10 : w.heap.size < w1.heap.size := by have := hb.size; (try simp at this); omega
    have HEw1 := Lib.hid hb
    clear hb
    rw [e2, HQ.out]
    clear e2 hq
    go_wp2_with fail
    refine (puser_any k _).mono ?_
    rintro e w1 ⟨rfl, rfl⟩
    rw [h1]
    go_wp2_with fail
    refine (puser_any an _).mono ?_
    rintro e w1 ⟨rfl, rfl⟩
    rw [h2]
    go_wp2_with fail
    refine (pheld_any v d _).mono ?_
    rintro e w1 ⟨rfl, rfl⟩
    rw [h3]
    go_wp2_with fail
    refine (hcheck_any ⟨b1, b2, b3⟩ _).mono ?_
    rintro e w2 ⟨rfl, hb⟩
    obtain ⟨hcw2, hfw2⟩ := bcell hb
    have HBw2 : Hid (Below w.heap.size w w2) := Below.go (by have hpre := HBw1.out; have hps := hpre.size; go_grown) hb (by have hpre := HBw1.out; have hps := hpre.size; go_size)
    have hzw20 : w.heap.size < w2.heap.size := by have := hb.size; (try simp at this); omega
    have HEw2 := Lib.hid hb
    clear hb
    rw [g4]
    clear g4
    go_wp2_with fail
    go_ret
    exact ⟨ret_int HC.out.symm, HBw2.out⟩
  have g4 := chk_ok h4
  cases h5 : okS ⟨a1, a2, a3⟩
  · have hc : chkI ⟨k, nd, nu, ⟨b1, b2, b3⟩, an, ⟨a1, a2, a3⟩, v, d⟩ = 2 := by simp [chkI, okI, h5]
    have HC := Lib.hid hc
    have g5 := chk_no h5
    clear hc
    go_enter Try.func33, Try.ntmps33
    go_wp2_with fail
    refine (tag_any nd nu _).mono ?_
    rintro e w1 ⟨rfl, hb⟩
    obtain ⟨hcw1, hfw1⟩ := bcell hb
    have HBw1 : Hid (Below w.heap.size w w1) := Below.go (by go_grown) hb (by go_size)
    have hzw10 : w.heap.size < w1.heap.size := by have := hb.size; (try simp at this); omega
    have HEw1 := Lib.hid hb
    clear hb
    rw [e2, HQ.out]
    clear e2 hq
    go_wp2_with fail
    refine (puser_any k _).mono ?_
    rintro e w1 ⟨rfl, rfl⟩
    rw [h1]
    go_wp2_with fail
    refine (puser_any an _).mono ?_
    rintro e w1 ⟨rfl, rfl⟩
    rw [h2]
    go_wp2_with fail
    refine (pheld_any v d _).mono ?_
    rintro e w1 ⟨rfl, rfl⟩
    rw [h3]
    go_wp2_with fail
    refine (hcheck_any ⟨b1, b2, b3⟩ _).mono ?_
    rintro e w2 ⟨rfl, hb⟩
    obtain ⟨hcw2, hfw2⟩ := bcell hb
    have HBw2 : Hid (Below w.heap.size w w2) := Below.go (by have hpre := HBw1.out; have hps := hpre.size; go_grown) hb (by have hpre := HBw1.out; have hps := hpre.size; go_size)
    have hzw20 : w.heap.size < w2.heap.size := by have := hb.size; (try simp at this); omega
    have HEw2 := Lib.hid hb
    clear hb
    rw [g4]
    clear g4
    go_wp2_with fail
    refine (hcheck_any ⟨a1, a2, a3⟩ _).mono ?_
    rintro e w3 ⟨rfl, hb⟩
    obtain ⟨hcw3, hfw3⟩ := bcell hb
    have HBw3 : Hid (Below w.heap.size w w3) := Below.go (by have hpre := HBw2.out; have hps := hpre.size; go_grown) hb (by have hpre := HBw2.out; have hps := hpre.size; go_size)
    have hzw30 : w.heap.size < w3.heap.size := by have := hb.size; (try simp at this); omega
    have HEw3 := Lib.hid hb
    clear hb
    rw [g5]
    clear g5
    go_wp2_with fail
    go_ret
    exact ⟨ret_int HC.out.symm, HBw3.out⟩
  have g5 := chk_ok h5
  have hc : chkI ⟨k, nd, nu, ⟨b1, b2, b3⟩, an, ⟨a1, a2, a3⟩, v, d⟩ = if a3 = q then 0 else 2 := by
    by_cases hz : a3 = q
    · have hz2 : decide (a3 = tagV nd nu) = true := by rw [HQ.out]; simpa using hz
      rw [if_pos hz]
      simp [chkI, okI, h1, h2, h3, h4, h5, HT.out, hz2]
    · have hz2 : decide (a3 = tagV nd nu) = false := by rw [HQ.out]; simpa using hz
      rw [if_neg hz]
      simp [chkI, okI, h1, h2, h3, h4, h5, HT.out, hz2]
  have HC := Lib.hid hc
  clear hc
  by_cases hz : a3 = q
  · rw [if_pos hz] at HC
    have e9 : (a3 != q) = false := by simpa using hz
    clear hz
    go_enter Try.func33, Try.ntmps33
    go_wp2_with fail
    refine (tag_any nd nu _).mono ?_
    rintro e w1 ⟨rfl, hb⟩
    obtain ⟨hcw1, hfw1⟩ := bcell hb
    have HBw1 : Hid (Below w.heap.size w w1) := Below.go (by go_grown) hb (by go_size)
    have hzw10 : w.heap.size < w1.heap.size := by have := hb.size; (try simp at this); omega
    have HEw1 := Lib.hid hb
    clear hb
    rw [e2, HQ.out]
    clear e2 hq
    go_wp2_with fail
    refine (puser_any k _).mono ?_
    rintro e w1 ⟨rfl, rfl⟩
    rw [h1]
    go_wp2_with fail
    refine (puser_any an _).mono ?_
    rintro e w1 ⟨rfl, rfl⟩
    rw [h2]
    go_wp2_with fail
    refine (pheld_any v d _).mono ?_
    rintro e w1 ⟨rfl, rfl⟩
    rw [h3]
    go_wp2_with fail
    refine (hcheck_any ⟨b1, b2, b3⟩ _).mono ?_
    rintro e w2 ⟨rfl, hb⟩
    obtain ⟨hcw2, hfw2⟩ := bcell hb
    have HBw2 : Hid (Below w.heap.size w w2) := Below.go (by have hpre := HBw1.out; have hps := hpre.size; go_grown) hb (by have hpre := HBw1.out; have hps := hpre.size; go_size)
    have hzw20 : w.heap.size < w2.heap.size := by have := hb.size; (try simp at this); omega
    have HEw2 := Lib.hid hb
    clear hb
    rw [g4]
    clear g4
    go_wp2_with fail
    refine (hcheck_any ⟨a1, a2, a3⟩ _).mono ?_
    rintro e w3 ⟨rfl, hb⟩
    obtain ⟨hcw3, hfw3⟩ := bcell hb
    have HBw3 : Hid (Below w.heap.size w w3) := Below.go (by have hpre := HBw2.out; have hps := hpre.size; go_grown) hb (by have hpre := HBw2.out; have hps := hpre.size; go_size)
    have hzw30 : w.heap.size < w3.heap.size := by have := hb.size; (try simp at this); omega
    have HEw3 := Lib.hid hb
    clear hb
    rw [g5]
    clear g5
    go_wp2_with fail
    go_ret
    exact ⟨ret_int HC.out.symm, HBw3.out⟩
  · rw [if_neg hz] at HC
    have e9 : (a3 != q) = true := by simpa using hz
    clear hz
    go_enter Try.func33, Try.ntmps33
    go_wp2_with fail
    refine (tag_any nd nu _).mono ?_
    rintro e w1 ⟨rfl, hb⟩
    obtain ⟨hcw1, hfw1⟩ := bcell hb
    have HBw1 : Hid (Below w.heap.size w w1) := Below.go (by go_grown) hb (by go_size)
    have hzw10 : w.heap.size < w1.heap.size := by have := hb.size; (try simp at this); omega
    have HEw1 := Lib.hid hb
    clear hb
    rw [e2, HQ.out]
    clear e2 hq
    go_wp2_with fail
    refine (puser_any k _).mono ?_
    rintro e w1 ⟨rfl, rfl⟩
    rw [h1]
    go_wp2_with fail
    refine (puser_any an _).mono ?_
    rintro e w1 ⟨rfl, rfl⟩
    rw [h2]
    go_wp2_with fail
    refine (pheld_any v d _).mono ?_
    rintro e w1 ⟨rfl, rfl⟩
    rw [h3]
    go_wp2_with fail
    refine (hcheck_any ⟨b1, b2, b3⟩ _).mono ?_
    rintro e w2 ⟨rfl, hb⟩
    obtain ⟨hcw2, hfw2⟩ := bcell hb
    have HBw2 : Hid (Below w.heap.size w w2) := Below.go (by have hpre := HBw1.out; have hps := hpre.size; go_grown) hb (by have hpre := HBw1.out; have hps := hpre.size; go_size)
    have hzw20 : w.heap.size < w2.heap.size := by have := hb.size; (try simp at this); omega
    have HEw2 := Lib.hid hb
    clear hb
    rw [g4]
    clear g4
    go_wp2_with fail
    refine (hcheck_any ⟨a1, a2, a3⟩ _).mono ?_
    rintro e w3 ⟨rfl, hb⟩
    obtain ⟨hcw3, hfw3⟩ := bcell hb
    have HBw3 : Hid (Below w.heap.size w w3) := Below.go (by have hpre := HBw2.out; have hps := hpre.size; go_grown) hb (by have hpre := HBw2.out; have hps := hpre.size; go_size)
    have hzw30 : w.heap.size < w3.heap.size := by have := hb.size; (try simp at this); omega
    have HEw3 := Lib.hid hb
    clear hb
    rw [g5]
    clear g5
    go_wp2_with fail
    go_ret
    exact ⟨ret_int HC.out.symm, HBw3.out⟩
set_option maxHeartbeats 6400000 in
theorem ritt_any (c : Itt) (w : World) : Calls Try.prog 45 #[c.v] w fun e w' => e = .returned (.int .i64 (chkI c)) ∧ Below w.heap.size w w' := by
  obtain ⟨k, nd, nu, ⟨b1, b2, b3⟩, an, ⟨a1, a2, a3⟩, v, d⟩ := c
  unfold Itt.v
  simp only
  by_cases htb : tagBad nd nu
  · have hc : chkI ⟨k, nd, nu, ⟨b1, b2, b3⟩, an, ⟨a1, a2, a3⟩, v, d⟩ = 2 := by simp [chkI, okI, htb]
    have HC := Lib.hid hc
    have e2 : tagE nd nu = 2 := by unfold tagE; rw [if_pos htb]
    clear hc htb
    go_enter Try.func45, Try.ntmps45
    go_wp2_with fail
    refine (rtag_any nd nu _).mono ?_
    rintro e w1 ⟨rfl, hb⟩
    obtain ⟨hcw1, hfw1⟩ := bcell hb
    have HBw1 : Hid (Below w.heap.size w w1) := Below.go (by go_grown) hb (by go_size)
    have hzw10 : w.heap.size < w1.heap.size := by have := hb.size; (try simp at this); omega
    have HEw1 := Lib.hid hb
    clear hb
    rw [e2]
    clear e2
    go_wp2_with fail
    go_ret
    exact ⟨ret_int HC.out.symm, HBw1.out⟩
  have e2 : tagE nd nu = 0 := by unfold tagE; rw [if_neg htb]
  have HT := Lib.hid htb
  clear htb
  generalize hq : tagV nd nu = q
  have HQ := Lib.hid hq
  cases h1 : usr k
  · have hc : chkI ⟨k, nd, nu, ⟨b1, b2, b3⟩, an, ⟨a1, a2, a3⟩, v, d⟩ = 2 := by simp [chkI, okI, h1]
    have HC := Lib.hid hc
    clear hc
    go_enter Try.func45, Try.ntmps45
    go_wp2_with fail
    refine (rtag_any nd nu _).mono ?_
    rintro e w1 ⟨rfl, hb⟩
    obtain ⟨hcw1, hfw1⟩ := bcell hb
    have HBw1 : Hid (Below w.heap.size w w1) := Below.go (by go_grown) hb (by go_size)
    have hzw10 : w.heap.size < w1.heap.size := by have := hb.size; (try simp at this); omega
    have HEw1 := Lib.hid hb
    clear hb
    rw [e2, HQ.out]
    clear e2 hq
    go_wp2_with fail
    refine (ruser_any k _).mono ?_
    rintro e w1 ⟨rfl, rfl⟩
    rw [h1]
    go_wp2_with fail
    go_ret
    exact ⟨ret_int HC.out.symm, HBw1.out⟩
  cases h2 : usr an
  · have hc : chkI ⟨k, nd, nu, ⟨b1, b2, b3⟩, an, ⟨a1, a2, a3⟩, v, d⟩ = 2 := by simp [chkI, okI, h2]
    have HC := Lib.hid hc
    clear hc
    go_enter Try.func45, Try.ntmps45
    go_wp2_with fail
    refine (rtag_any nd nu _).mono ?_
    rintro e w1 ⟨rfl, hb⟩
    obtain ⟨hcw1, hfw1⟩ := bcell hb
    have HBw1 : Hid (Below w.heap.size w w1) := Below.go (by go_grown) hb (by go_size)
    have hzw10 : w.heap.size < w1.heap.size := by have := hb.size; (try simp at this); omega
    have HEw1 := Lib.hid hb
    clear hb
    rw [e2, HQ.out]
    clear e2 hq
    go_wp2_with fail
    refine (ruser_any k _).mono ?_
    rintro e w1 ⟨rfl, rfl⟩
    rw [h1]
    go_wp2_with fail
    refine (ruser_any an _).mono ?_
    rintro e w1 ⟨rfl, rfl⟩
    rw [h2]
    go_wp2_with fail
    go_ret
    exact ⟨ret_int HC.out.symm, HBw1.out⟩
  cases h3 : hld v d
  · have hc : chkI ⟨k, nd, nu, ⟨b1, b2, b3⟩, an, ⟨a1, a2, a3⟩, v, d⟩ = 2 := by simp [chkI, okI, h3]
    have HC := Lib.hid hc
    clear hc
    go_enter Try.func45, Try.ntmps45
    go_wp2_with fail
    refine (rtag_any nd nu _).mono ?_
    rintro e w1 ⟨rfl, hb⟩
    obtain ⟨hcw1, hfw1⟩ := bcell hb
    have HBw1 : Hid (Below w.heap.size w w1) := Below.go (by go_grown) hb (by go_size)
    have hzw10 : w.heap.size < w1.heap.size := by have := hb.size; (try simp at this); omega
    have HEw1 := Lib.hid hb
    clear hb
    rw [e2, HQ.out]
    clear e2 hq
    go_wp2_with fail
    refine (ruser_any k _).mono ?_
    rintro e w1 ⟨rfl, rfl⟩
    rw [h1]
    go_wp2_with fail
    refine (ruser_any an _).mono ?_
    rintro e w1 ⟨rfl, rfl⟩
    rw [h2]
    go_wp2_with fail
    refine (rheld_any v d _).mono ?_
    rintro e w1 ⟨rfl, rfl⟩
    rw [h3]
    go_wp2_with fail
    go_ret
    exact ⟨ret_int HC.out.symm, HBw1.out⟩
  cases h4 : okS ⟨b1, b2, b3⟩
  · have hc : chkI ⟨k, nd, nu, ⟨b1, b2, b3⟩, an, ⟨a1, a2, a3⟩, v, d⟩ = 2 := by simp [chkI, okI, h4]
    have HC := Lib.hid hc
    have g4 := chk_no h4
    clear hc
    go_enter Try.func45, Try.ntmps45
    go_wp2_with fail
    refine (rtag_any nd nu _).mono ?_
    rintro e w1 ⟨rfl, hb⟩
    obtain ⟨hcw1, hfw1⟩ := bcell hb
    have HBw1 : Hid (Below w.heap.size w w1) := Below.go (by go_grown) hb (by go_size)
    have hzw10 : w.heap.size < w1.heap.size := by have := hb.size; (try simp at this); omega
    have HEw1 := Lib.hid hb
    clear hb
    rw [e2, HQ.out]
    clear e2 hq
    go_wp2_with fail
    refine (ruser_any k _).mono ?_
    rintro e w1 ⟨rfl, rfl⟩
    rw [h1]
    go_wp2_with fail
    refine (ruser_any an _).mono ?_
    rintro e w1 ⟨rfl, rfl⟩
    rw [h2]
    go_wp2_with fail
    refine (rheld_any v d _).mono ?_
    rintro e w1 ⟨rfl, rfl⟩
    rw [h3]
    go_wp2_with fail
    refine (rcheck_any ⟨b1, b2, b3⟩ _).mono ?_
    rintro e w2 ⟨rfl, hb⟩
    obtain ⟨hcw2, hfw2⟩ := bcell hb
    have HBw2 : Hid (Below w.heap.size w w2) := Below.go (by have hpre := HBw1.out; have hps := hpre.size; go_grown) hb (by have hpre := HBw1.out; have hps := hpre.size; go_size)
    have hzw20 : w.heap.size < w2.heap.size := by have := hb.size; (try simp at this); omega
    have HEw2 := Lib.hid hb
    clear hb
    rw [g4]
    clear g4
    go_wp2_with fail
    go_ret
    exact ⟨ret_int HC.out.symm, HBw2.out⟩
  have g4 := chk_ok h4
  cases h5 : okS ⟨a1, a2, a3⟩
  · have hc : chkI ⟨k, nd, nu, ⟨b1, b2, b3⟩, an, ⟨a1, a2, a3⟩, v, d⟩ = 2 := by simp [chkI, okI, h5]
    have HC := Lib.hid hc
    have g5 := chk_no h5
    clear hc
    go_enter Try.func45, Try.ntmps45
    go_wp2_with fail
    refine (rtag_any nd nu _).mono ?_
    rintro e w1 ⟨rfl, hb⟩
    obtain ⟨hcw1, hfw1⟩ := bcell hb
    have HBw1 : Hid (Below w.heap.size w w1) := Below.go (by go_grown) hb (by go_size)
    have hzw10 : w.heap.size < w1.heap.size := by have := hb.size; (try simp at this); omega
    have HEw1 := Lib.hid hb
    clear hb
    rw [e2, HQ.out]
    clear e2 hq
    go_wp2_with fail
    refine (ruser_any k _).mono ?_
    rintro e w1 ⟨rfl, rfl⟩
    rw [h1]
    go_wp2_with fail
    refine (ruser_any an _).mono ?_
    rintro e w1 ⟨rfl, rfl⟩
    rw [h2]
    go_wp2_with fail
    refine (rheld_any v d _).mono ?_
    rintro e w1 ⟨rfl, rfl⟩
    rw [h3]
    go_wp2_with fail
    refine (rcheck_any ⟨b1, b2, b3⟩ _).mono ?_
    rintro e w2 ⟨rfl, hb⟩
    obtain ⟨hcw2, hfw2⟩ := bcell hb
    have HBw2 : Hid (Below w.heap.size w w2) := Below.go (by have hpre := HBw1.out; have hps := hpre.size; go_grown) hb (by have hpre := HBw1.out; have hps := hpre.size; go_size)
    have hzw20 : w.heap.size < w2.heap.size := by have := hb.size; (try simp at this); omega
    have HEw2 := Lib.hid hb
    clear hb
    rw [g4]
    clear g4
    go_wp2_with fail
    refine (rcheck_any ⟨a1, a2, a3⟩ _).mono ?_
    rintro e w3 ⟨rfl, hb⟩
    obtain ⟨hcw3, hfw3⟩ := bcell hb
    have HBw3 : Hid (Below w.heap.size w w3) := Below.go (by have hpre := HBw2.out; have hps := hpre.size; go_grown) hb (by have hpre := HBw2.out; have hps := hpre.size; go_size)
    have hzw30 : w.heap.size < w3.heap.size := by have := hb.size; (try simp at this); omega
    have HEw3 := Lib.hid hb
    clear hb
    rw [g5]
    clear g5
    go_wp2_with fail
    go_ret
    exact ⟨ret_int HC.out.symm, HBw3.out⟩
  have g5 := chk_ok h5
  have hc : chkI ⟨k, nd, nu, ⟨b1, b2, b3⟩, an, ⟨a1, a2, a3⟩, v, d⟩ = if a3 = q then 0 else 2 := by
    by_cases hz : a3 = q
    · have hz2 : decide (a3 = tagV nd nu) = true := by rw [HQ.out]; simpa using hz
      rw [if_pos hz]
      simp [chkI, okI, h1, h2, h3, h4, h5, HT.out, hz2]
    · have hz2 : decide (a3 = tagV nd nu) = false := by rw [HQ.out]; simpa using hz
      rw [if_neg hz]
      simp [chkI, okI, h1, h2, h3, h4, h5, HT.out, hz2]
  have HC := Lib.hid hc
  clear hc
  by_cases hz : a3 = q
  · rw [if_pos hz] at HC
    have e9 : (a3 != q) = false := by simpa using hz
    clear hz
    go_enter Try.func45, Try.ntmps45
    go_wp2_with fail
    refine (rtag_any nd nu _).mono ?_
    rintro e w1 ⟨rfl, hb⟩
    obtain ⟨hcw1, hfw1⟩ := bcell hb
    have HBw1 : Hid (Below w.heap.size w w1) := Below.go (by go_grown) hb (by go_size)
    have hzw10 : w.heap.size < w1.heap.size := by have := hb.size; (try simp at this); omega
    have HEw1 := Lib.hid hb
    clear hb
    rw [e2, HQ.out]
    clear e2 hq
    go_wp2_with fail
    refine (ruser_any k _).mono ?_
    rintro e w1 ⟨rfl, rfl⟩
    rw [h1]
    go_wp2_with fail
    refine (ruser_any an _).mono ?_
    rintro e w1 ⟨rfl, rfl⟩
    rw [h2]
    go_wp2_with fail
    refine (rheld_any v d _).mono ?_
    rintro e w1 ⟨rfl, rfl⟩
    rw [h3]
    go_wp2_with fail
    refine (rcheck_any ⟨b1, b2, b3⟩ _).mono ?_
    rintro e w2 ⟨rfl, hb⟩
    obtain ⟨hcw2, hfw2⟩ := bcell hb
    have HBw2 : Hid (Below w.heap.size w w2) := Below.go (by have hpre := HBw1.out; have hps := hpre.size; go_grown) hb (by have hpre := HBw1.out; have hps := hpre.size; go_size)
    have hzw20 : w.heap.size < w2.heap.size := by have := hb.size; (try simp at this); omega
    have HEw2 := Lib.hid hb
    clear hb
    rw [g4]
    clear g4
    go_wp2_with fail
    refine (rcheck_any ⟨a1, a2, a3⟩ _).mono ?_
    rintro e w3 ⟨rfl, hb⟩
    obtain ⟨hcw3, hfw3⟩ := bcell hb
    have HBw3 : Hid (Below w.heap.size w w3) := Below.go (by have hpre := HBw2.out; have hps := hpre.size; go_grown) hb (by have hpre := HBw2.out; have hps := hpre.size; go_size)
    have hzw30 : w.heap.size < w3.heap.size := by have := hb.size; (try simp at this); omega
    have HEw3 := Lib.hid hb
    clear hb
    rw [g5]
    clear g5
    go_wp2_with fail
    go_ret
    exact ⟨ret_int HC.out.symm, HBw3.out⟩
  · rw [if_neg hz] at HC
    have e9 : (a3 != q) = true := by simpa using hz
    clear hz
    go_enter Try.func45, Try.ntmps45
    go_wp2_with fail
    refine (rtag_any nd nu _).mono ?_
    rintro e w1 ⟨rfl, hb⟩
    obtain ⟨hcw1, hfw1⟩ := bcell hb
    have HBw1 : Hid (Below w.heap.size w w1) := Below.go (by go_grown) hb (by go_size)
    have hzw10 : w.heap.size < w1.heap.size := by have := hb.size; (try simp at this); omega
    have HEw1 := Lib.hid hb
    clear hb
    rw [e2, HQ.out]
    clear e2 hq
    go_wp2_with fail
    refine (ruser_any k _).mono ?_
    rintro e w1 ⟨rfl, rfl⟩
    rw [h1]
    go_wp2_with fail
    refine (ruser_any an _).mono ?_
    rintro e w1 ⟨rfl, rfl⟩
    rw [h2]
    go_wp2_with fail
    refine (rheld_any v d _).mono ?_
    rintro e w1 ⟨rfl, rfl⟩
    rw [h3]
    go_wp2_with fail
    refine (rcheck_any ⟨b1, b2, b3⟩ _).mono ?_
    rintro e w2 ⟨rfl, hb⟩
    obtain ⟨hcw2, hfw2⟩ := bcell hb
    have HBw2 : Hid (Below w.heap.size w w2) := Below.go (by have hpre := HBw1.out; have hps := hpre.size; go_grown) hb (by have hpre := HBw1.out; have hps := hpre.size; go_size)
    have hzw20 : w.heap.size < w2.heap.size := by have := hb.size; (try simp at this); omega
    have HEw2 := Lib.hid hb
    clear hb
    rw [g4]
    clear g4
    go_wp2_with fail
    refine (rcheck_any ⟨a1, a2, a3⟩ _).mono ?_
    rintro e w3 ⟨rfl, hb⟩
    obtain ⟨hcw3, hfw3⟩ := bcell hb
    have HBw3 : Hid (Below w.heap.size w w3) := Below.go (by have hpre := HBw2.out; have hps := hpre.size; go_grown) hb (by have hpre := HBw2.out; have hps := hpre.size; go_size)
    have hzw30 : w.heap.size < w3.heap.size := by have := hb.size; (try simp at this); omega
    have HEw3 := Lib.hid hb
    clear hb
    rw [g5]
    clear g5
    go_wp2_with fail
    go_ret
    exact ⟨ret_int HC.out.symm, HBw3.out⟩
end Go.Proofs.Ytgikaglmeeeplaa
