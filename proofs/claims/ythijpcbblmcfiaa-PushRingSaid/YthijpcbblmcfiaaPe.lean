/- Walks: stale coordinators, verbs. -/
import Derived.Test.YthijpcbblmcfiaaPc
import Derived.Test.YthijpcbblmcfiaaPd
namespace Go.Proofs.Ythijpcbblmcfiaa
open Go.RowKit Go.St
set_option linter.unusedVariables false
set_option linter.unusedSimpArgs false
set_option maxRecDepth 100000

abbrev stv (s : Stp) : Value := .agg #[.int .i64 s.wall, .int .i32 s.logic, .int .i32 s.tag]
def stE (r : Rec) (some : Bool) (g : Stp) (now ex : Int) : Int := if some = true ∧ chkR r ≠ 0 then chkR r else if okS g = false then 2 else if 0 ≤ now ∧ now ≤ 1099511627776 ∧ 0 ≤ ex ∧ ex ≤ 1099511627776 then 0 else 2
def stB (r : Rec) (some : Bool) (g : Stp) (now ex : Int) : Bool := decide (stE r some g now ex = 0) && decide (ex < now - (if some then r.beat else g.wall))
theorem chkR_beat {r : Rec} (h : chkR r = 0) : 0 ≤ r.beat ∧ r.beat ≤ 1099511627776 := by
  unfold chkR at h
  split at h
  · cases h
  · split at h
    · rename_i h2
      unfold okR at h2
      simp at h2
      exact h2.1.1.2
    · cases h
def vbE (r : Rec) (some : Bool) (m g : Stp) (now ex : Int) : Int := if stE r some g now ex ≠ 0 then stE r some g now ex else chk m
def vbS (r : Rec) (some : Bool) : Int := if some then r.st else 1
def vbW (st : Int) (sb reads ls : Bool) : Int := if st = 3 then 5 else if st = 4 then 6 else if st = 2 then (if sb then 4 else 1) else if sb then 3 else if reads then 2 else if ls then 3 else 1
def vbV (r : Rec) (some reads : Bool) (m g : Stp) (now ex : Int) : Int := if vbE r some m g now ex ≠ 0 then 0 else vbW (vbS r some) (stB r some g now ex) reads (less m g)

set_option maxHeartbeats 800000 in
theorem order_any (a b : Stp) (w : World) : Calls Try.prog 38 #[stv a, stv b] w fun e w' => e = .returned (.bool (less a b)) ∧ Below w.heap.size w w' := by
  have hc := fun W => hcompare_any a b W
  have e : decide (cmpS a b < 0) = less a b := by
    have := cmp_neg a b
    cases h : less a b
    · rw [h] at this; exact decide_eq_false (fun h2 => by simp at this; omega)
    · rw [h] at this; exact decide_eq_true (this.2 rfl)
  rw [← e]
  clear e
  have HC := Lib.hid hc; clear hc
  obtain ⟨aw, al, ag⟩ := a
  obtain ⟨bw, bl, bg⟩ := b
  generalize cmpS ⟨aw, al, ag⟩ ⟨bw, bl, bg⟩ = z at *
  go_enter Try.func38, Try.ntmps38
  go_wp2_with fail
  refine (HC.out _).mono ?_
  rintro e w1 ⟨rfl, hb⟩
  obtain ⟨hcw1, hfw1⟩ := bcell hb
  have HBw1 : Hid (Below w.heap.size w w1) := Below.go (by go_grown) hb (by go_size)
  have hzw10 : w.heap.size < w1.heap.size := by have := hb.size; (try simp at this); omega
  have HEw1 := Lib.hid hb
  clear hb
  go_wp2
  go_ret
  exact ⟨rfl, HBw1.out⟩
set_option maxHeartbeats 800000 in
theorem rorder_any (a b : Stp) (w : World) : Calls Try.prog 39 #[stv a, stv b] w fun e w' => e = .returned (.bool (less a b)) ∧ Below w.heap.size w w' := by
  have hc := fun W => rless_any a b W
  have HC := Lib.hid hc; clear hc
  obtain ⟨aw, al, ag⟩ := a
  obtain ⟨bw, bl, bg⟩ := b
  generalize less ⟨aw, al, ag⟩ ⟨bw, bl, bg⟩ = z at *
  go_enter Try.func39, Try.ntmps39
  go_wp2_with fail
  refine (HC.out _).mono ?_
  rintro e w1 ⟨rfl, hb⟩
  obtain ⟨hcw1, hfw1⟩ := bcell hb
  have HBw1 : Hid (Below w.heap.size w w1) := Below.go (by go_grown) hb (by go_size)
  have hzw10 : w.heap.size < w1.heap.size := by have := hb.size; (try simp at this); omega
  have HEw1 := Lib.hid hb
  clear hb
  go_wp2
  go_ret
  exact ⟨rfl, HBw1.out⟩

set_option maxHeartbeats 3200000 in
theorem stale_any (r : Rec) (hl : r.l.length = r.n) (B : Nat) (some : Bool) (g : Stp) (now ex : Int) (w : World) (hr : Rd w B r.A (sv r.l)) (hB : B ≤ w.heap.size) :
    Calls Try.prog 35 #[r.v, .bool some, stv g, .int .i64 now, .int .i64 ex] w fun e w' => e = .returned (.tuple #[.bool (stB r some g now ex), .int .i64 (stE r some g now ex)]) ∧ Below w.heap.size w w' := by
  have hck := fun W (h : Rd W B r.A (sv r.l)) h2 => reccheck_any r hl B W h h2
  have hbt := fun h => chkR_beat (r := r) h
  have hE : stE r some g now ex = if some = true ∧ chkR r ≠ 0 then chkR r else if okS g = false then 2 else if 0 ≤ now ∧ now ≤ 1099511627776 ∧ 0 ≤ ex ∧ ex ≤ 1099511627776 then 0 else 2 := rfl
  have hBv : stB r some g now ex = (decide (stE r some g now ex = 0) && decide (ex < now - (if some then r.beat else g.wall))) := rfl
  rw [hBv]
  generalize stE r some g now ex = se at *
  generalize chkR r = ck at *
  have hg := fun W => hcheck_any g W
  unfold chk at hg
  have hgw : okS g = true → 0 ≤ g.wall ∧ g.wall ≤ 1099511627776 := fun h => by have := (okS_iff g).1 h; omega
  have HGW := Lib.hid hgw; clear hgw
  generalize okS g = og at *
  obtain ⟨nd, nu, st, ⟨aw, al, ag⟩, A, n, c, l, beat, ⟨pw, pl, pg⟩⟩ := r
  obtain ⟨gw, gl, gg⟩ := g
  unfold Rec.v at *
  simp only at hr hck hbt hg hl ⊢
  have HCK := Lib.hid hck; have HG := Lib.hid hg
  have HR0 : Hid (Rd (w.alloc (.cells #[.int .i32 nd, .int .i32 nu, .int .u8 st, .int .i64 aw, .int .i32 al, .int .i32 ag, .slice A n c, .int .i64 beat, .int .i64 pw, .int .i32 pl, .int .i32 pg] 57)) B A (sv l)) := hr.alloc hB _
  clear hck hg hr hBv hl
  cases some
  · simp only [Bool.false_eq_true, false_and, if_false] at hE ⊢
    cases og
    · simp only [if_true] at hE
      subst hE
      go_enter Try.func35, Try.ntmps35
      go_wp2_with fail
      refine (HG.out _).mono ?_
      rintro e w2 ⟨rfl, hb⟩
      obtain ⟨hcw2, hfw2⟩ := bcell hb
      have HBw2 : Hid (Below w.heap.size w w2) := Below.go (by go_grown) hb (by go_size)
      have hzw20 : w.heap.size < w2.heap.size := by have := hb.size; (try simp at this); omega
      have hzw21 : w.heap.size + 1 < w2.heap.size := by have := hb.size; (try simp at this); omega
      have HEw2 := Lib.hid hb
      clear hb
      simp only [Bool.false_eq_true, if_false]
      go_wp2
      all_goals
        first
          | (go_ret2; refine ⟨?_, HBw2.out⟩; simp; done)
          | (exfalso; have hx := (by assumption : (!decide (ex ≤ 1099511627776)) = false); simp at hx; omega)
    · simp only [Bool.true_eq_false, if_false] at hE
      by_cases q0 : now < 0
      case pos =>
        rw [if_neg (by omega)] at hE
        subst hE
        go_enter Try.func35, Try.ntmps35
        go_wp2_with fail
        refine (HG.out _).mono ?_
        rintro e w2 ⟨rfl, hb⟩
        obtain ⟨hcw2, hfw2⟩ := bcell hb
        have HBw2 : Hid (Below w.heap.size w w2) := Below.go (by go_grown) hb (by go_size)
        have hzw20 : w.heap.size < w2.heap.size := by have := hb.size; (try simp at this); omega
        have hzw21 : w.heap.size + 1 < w2.heap.size := by have := hb.size; (try simp at this); omega
        have HEw2 := Lib.hid hb
        clear hb
        simp only [if_true]
        go_wp2
        all_goals
          first
            | (go_ret2; refine ⟨?_, HBw2.out⟩; simp; done)
            | (exfalso; have hx := (by assumption : (!decide (ex ≤ 1099511627776)) = false); simp at hx; omega)
      by_cases q1 : 1099511627776 < now
      case pos =>
        rw [if_neg (by omega)] at hE
        subst hE
        go_enter Try.func35, Try.ntmps35
        go_wp2_with fail
        refine (HG.out _).mono ?_
        rintro e w2 ⟨rfl, hb⟩
        obtain ⟨hcw2, hfw2⟩ := bcell hb
        have HBw2 : Hid (Below w.heap.size w w2) := Below.go (by go_grown) hb (by go_size)
        have hzw20 : w.heap.size < w2.heap.size := by have := hb.size; (try simp at this); omega
        have hzw21 : w.heap.size + 1 < w2.heap.size := by have := hb.size; (try simp at this); omega
        have HEw2 := Lib.hid hb
        clear hb
        simp only [if_true]
        go_wp2
        all_goals
          first
            | (go_ret2; refine ⟨?_, HBw2.out⟩; simp; done)
            | (exfalso; have hx := (by assumption : (!decide (ex ≤ 1099511627776)) = false); simp at hx; omega)
      by_cases q2 : ex < 0
      case pos =>
        rw [if_neg (by omega)] at hE
        subst hE
        go_enter Try.func35, Try.ntmps35
        go_wp2_with fail
        refine (HG.out _).mono ?_
        rintro e w2 ⟨rfl, hb⟩
        obtain ⟨hcw2, hfw2⟩ := bcell hb
        have HBw2 : Hid (Below w.heap.size w w2) := Below.go (by go_grown) hb (by go_size)
        have hzw20 : w.heap.size < w2.heap.size := by have := hb.size; (try simp at this); omega
        have hzw21 : w.heap.size + 1 < w2.heap.size := by have := hb.size; (try simp at this); omega
        have HEw2 := Lib.hid hb
        clear hb
        simp only [if_true]
        go_wp2
        all_goals
          first
            | (go_ret2; refine ⟨?_, HBw2.out⟩; simp; done)
            | (exfalso; have hx := (by assumption : (!decide (ex ≤ 1099511627776)) = false); simp at hx; omega)
      by_cases q3 : 1099511627776 < ex
      case pos =>
        rw [if_neg (by omega)] at hE
        subst hE
        go_enter Try.func35, Try.ntmps35
        go_wp2_with fail
        refine (HG.out _).mono ?_
        rintro e w2 ⟨rfl, hb⟩
        obtain ⟨hcw2, hfw2⟩ := bcell hb
        have HBw2 : Hid (Below w.heap.size w w2) := Below.go (by go_grown) hb (by go_size)
        have hzw20 : w.heap.size < w2.heap.size := by have := hb.size; (try simp at this); omega
        have hzw21 : w.heap.size + 1 < w2.heap.size := by have := hb.size; (try simp at this); omega
        have HEw2 := Lib.hid hb
        clear hb
        simp only [if_true]
        go_wp2
        all_goals
          first
            | (go_ret2; refine ⟨?_, HBw2.out⟩; simp; done)
            | (exfalso; have hx := (by assumption : (!decide (ex ≤ 1099511627776)) = false); simp at hx; omega)
      have qq : 0 ≤ now ∧ now ≤ 1099511627776 ∧ 0 ≤ ex ∧ ex ≤ 1099511627776 := by omega
      rw [if_pos qq] at hE
      subst hE
      have hgw : 0 ≤ gw ∧ gw ≤ 1099511627776 := HGW.out rfl
      go_enter Try.func35, Try.ntmps35
      go_wp2_with fail
      refine (HG.out _).mono ?_
      rintro e w2 ⟨rfl, hb⟩
      obtain ⟨hcw2, hfw2⟩ := bcell hb
      have HBw2 : Hid (Below w.heap.size w w2) := Below.go (by go_grown) hb (by go_size)
      have hzw20 : w.heap.size < w2.heap.size := by have := hb.size; (try simp at this); omega
      have hzw21 : w.heap.size + 1 < w2.heap.size := by have := hb.size; (try simp at this); omega
      have HEw2 := Lib.hid hb
      clear hb
      simp only [if_true]
      go_wp2
      all_goals
        first
          | (go_ret2; refine ⟨?_, HBw2.out⟩; simp; done)
          | (exfalso; have hx := (by assumption : (!decide (ex ≤ 1099511627776)) = false); simp at hx; omega)
  · simp only [true_and, if_true] at hE ⊢
    by_cases hck : ck = 0
    case neg =>
      rw [if_pos hck] at hE
      subst hE
      have hne : (se == 0) = false := by simpa using hck
      have hne2 : (se != 0) = true := by rw [bne, hne]; rfl
      have hd : decide (se = 0) = false := decide_eq_false hck
      rw [hd, Bool.false_and]
      clear hbt
      go_enter Try.func35, Try.ntmps35
      go_wp2_with fail
      refine (HCK.out _ ((HR0.out.alloc (by simp; omega) _)) (by simp; omega)).mono ?_
      rintro e w1 ⟨rfl, hb⟩
      obtain ⟨hcw1, hfw1⟩ := bcell hb
      have HBw1 : Hid (Below w.heap.size w w1) := Below.go (by go_grown) hb (by go_size)
      have hzw10 : w.heap.size < w1.heap.size := by have := hb.size; (try simp at this); omega
      have hzw11 : w.heap.size + 1 < w1.heap.size := by have := hb.size; (try simp at this); omega
      clear hb
      go_wp2
      all_goals
        first
          | (go_ret2; refine ⟨?_, HBw1.out⟩; simp; done)
          | (exfalso; have hx := (by assumption : (!decide (ex ≤ 1099511627776)) = false); simp at hx; omega)
    rw [if_neg (fun h => h hck)] at hE
    subst hck
    have hbt := hbt rfl
    cases og
    · simp only [if_true] at hE
      subst hE
      go_enter Try.func35, Try.ntmps35
      go_wp2_with fail
      refine (HCK.out _ ((HR0.out.alloc (by simp; omega) _)) (by simp; omega)).mono ?_
      rintro e w1 ⟨rfl, hb⟩
      obtain ⟨hcw1, hfw1⟩ := bcell hb
      have HBw1 : Hid (Below w.heap.size w w1) := Below.go (by go_grown) hb (by go_size)
      have hzw10 : w.heap.size < w1.heap.size := by have := hb.size; (try simp at this); omega
      have hzw11 : w.heap.size + 1 < w1.heap.size := by have := hb.size; (try simp at this); omega
      clear hb
      go_wp2_with fail
      refine (HG.out _).mono ?_
      rintro e w2 ⟨rfl, hb⟩
      obtain ⟨hcw2, hfw2⟩ := bcell hb
      have HBw2 : Hid (Below w.heap.size w w2) := Below.go (by have hpre := HBw1.out; have hps := hpre.size; go_grown) hb (by have hpre := HBw1.out; have hps := hpre.size; go_size)
      have hzw20 : w.heap.size < w2.heap.size := by have := hb.size; (try simp at this); omega
      have hzw21 : w.heap.size + 1 < w2.heap.size := by have := hb.size; (try simp at this); omega
      have HEw2 := Lib.hid hb
      clear hb
      simp only [Bool.false_eq_true, if_false]
      go_wp2
      all_goals
        first
          | (go_ret2; refine ⟨?_, HBw2.out⟩; simp; done)
          | (exfalso; have hx := (by assumption : (!decide (ex ≤ 1099511627776)) = false); simp at hx; omega)
    · simp only [Bool.true_eq_false, if_false] at hE
      by_cases q0 : now < 0
      case pos =>
        rw [if_neg (by omega)] at hE
        subst hE
        go_enter Try.func35, Try.ntmps35
        go_wp2_with fail
        refine (HCK.out _ ((HR0.out.alloc (by simp; omega) _)) (by simp; omega)).mono ?_
        rintro e w1 ⟨rfl, hb⟩
        obtain ⟨hcw1, hfw1⟩ := bcell hb
        have HBw1 : Hid (Below w.heap.size w w1) := Below.go (by go_grown) hb (by go_size)
        have hzw10 : w.heap.size < w1.heap.size := by have := hb.size; (try simp at this); omega
        have hzw11 : w.heap.size + 1 < w1.heap.size := by have := hb.size; (try simp at this); omega
        clear hb
        go_wp2_with fail
        refine (HG.out _).mono ?_
        rintro e w2 ⟨rfl, hb⟩
        obtain ⟨hcw2, hfw2⟩ := bcell hb
        have HBw2 : Hid (Below w.heap.size w w2) := Below.go (by have hpre := HBw1.out; have hps := hpre.size; go_grown) hb (by have hpre := HBw1.out; have hps := hpre.size; go_size)
        have hzw20 : w.heap.size < w2.heap.size := by have := hb.size; (try simp at this); omega
        have hzw21 : w.heap.size + 1 < w2.heap.size := by have := hb.size; (try simp at this); omega
        have HEw2 := Lib.hid hb
        clear hb
        simp only [if_true]
        go_wp2
        all_goals
          first
            | (go_ret2; refine ⟨?_, HBw2.out⟩; simp; done)
            | (exfalso; have hx := (by assumption : (!decide (ex ≤ 1099511627776)) = false); simp at hx; omega)
      by_cases q1 : 1099511627776 < now
      case pos =>
        rw [if_neg (by omega)] at hE
        subst hE
        go_enter Try.func35, Try.ntmps35
        go_wp2_with fail
        refine (HCK.out _ ((HR0.out.alloc (by simp; omega) _)) (by simp; omega)).mono ?_
        rintro e w1 ⟨rfl, hb⟩
        obtain ⟨hcw1, hfw1⟩ := bcell hb
        have HBw1 : Hid (Below w.heap.size w w1) := Below.go (by go_grown) hb (by go_size)
        have hzw10 : w.heap.size < w1.heap.size := by have := hb.size; (try simp at this); omega
        have hzw11 : w.heap.size + 1 < w1.heap.size := by have := hb.size; (try simp at this); omega
        clear hb
        go_wp2_with fail
        refine (HG.out _).mono ?_
        rintro e w2 ⟨rfl, hb⟩
        obtain ⟨hcw2, hfw2⟩ := bcell hb
        have HBw2 : Hid (Below w.heap.size w w2) := Below.go (by have hpre := HBw1.out; have hps := hpre.size; go_grown) hb (by have hpre := HBw1.out; have hps := hpre.size; go_size)
        have hzw20 : w.heap.size < w2.heap.size := by have := hb.size; (try simp at this); omega
        have hzw21 : w.heap.size + 1 < w2.heap.size := by have := hb.size; (try simp at this); omega
        have HEw2 := Lib.hid hb
        clear hb
        simp only [if_true]
        go_wp2
        all_goals
          first
            | (go_ret2; refine ⟨?_, HBw2.out⟩; simp; done)
            | (exfalso; have hx := (by assumption : (!decide (ex ≤ 1099511627776)) = false); simp at hx; omega)
      by_cases q2 : ex < 0
      case pos =>
        rw [if_neg (by omega)] at hE
        subst hE
        go_enter Try.func35, Try.ntmps35
        go_wp2_with fail
        refine (HCK.out _ ((HR0.out.alloc (by simp; omega) _)) (by simp; omega)).mono ?_
        rintro e w1 ⟨rfl, hb⟩
        obtain ⟨hcw1, hfw1⟩ := bcell hb
        have HBw1 : Hid (Below w.heap.size w w1) := Below.go (by go_grown) hb (by go_size)
        have hzw10 : w.heap.size < w1.heap.size := by have := hb.size; (try simp at this); omega
        have hzw11 : w.heap.size + 1 < w1.heap.size := by have := hb.size; (try simp at this); omega
        clear hb
        go_wp2_with fail
        refine (HG.out _).mono ?_
        rintro e w2 ⟨rfl, hb⟩
        obtain ⟨hcw2, hfw2⟩ := bcell hb
        have HBw2 : Hid (Below w.heap.size w w2) := Below.go (by have hpre := HBw1.out; have hps := hpre.size; go_grown) hb (by have hpre := HBw1.out; have hps := hpre.size; go_size)
        have hzw20 : w.heap.size < w2.heap.size := by have := hb.size; (try simp at this); omega
        have hzw21 : w.heap.size + 1 < w2.heap.size := by have := hb.size; (try simp at this); omega
        have HEw2 := Lib.hid hb
        clear hb
        simp only [if_true]
        go_wp2
        all_goals
          first
            | (go_ret2; refine ⟨?_, HBw2.out⟩; simp; done)
            | (exfalso; have hx := (by assumption : (!decide (ex ≤ 1099511627776)) = false); simp at hx; omega)
      by_cases q3 : 1099511627776 < ex
      case pos =>
        rw [if_neg (by omega)] at hE
        subst hE
        go_enter Try.func35, Try.ntmps35
        go_wp2_with fail
        refine (HCK.out _ ((HR0.out.alloc (by simp; omega) _)) (by simp; omega)).mono ?_
        rintro e w1 ⟨rfl, hb⟩
        obtain ⟨hcw1, hfw1⟩ := bcell hb
        have HBw1 : Hid (Below w.heap.size w w1) := Below.go (by go_grown) hb (by go_size)
        have hzw10 : w.heap.size < w1.heap.size := by have := hb.size; (try simp at this); omega
        have hzw11 : w.heap.size + 1 < w1.heap.size := by have := hb.size; (try simp at this); omega
        clear hb
        go_wp2_with fail
        refine (HG.out _).mono ?_
        rintro e w2 ⟨rfl, hb⟩
        obtain ⟨hcw2, hfw2⟩ := bcell hb
        have HBw2 : Hid (Below w.heap.size w w2) := Below.go (by have hpre := HBw1.out; have hps := hpre.size; go_grown) hb (by have hpre := HBw1.out; have hps := hpre.size; go_size)
        have hzw20 : w.heap.size < w2.heap.size := by have := hb.size; (try simp at this); omega
        have hzw21 : w.heap.size + 1 < w2.heap.size := by have := hb.size; (try simp at this); omega
        have HEw2 := Lib.hid hb
        clear hb
        simp only [if_true]
        go_wp2
        all_goals
          first
            | (go_ret2; refine ⟨?_, HBw2.out⟩; simp; done)
            | (exfalso; have hx := (by assumption : (!decide (ex ≤ 1099511627776)) = false); simp at hx; omega)
      have qq : 0 ≤ now ∧ now ≤ 1099511627776 ∧ 0 ≤ ex ∧ ex ≤ 1099511627776 := by omega
      rw [if_pos qq] at hE
      subst hE
      go_enter Try.func35, Try.ntmps35
      go_wp2_with fail
      refine (HCK.out _ ((HR0.out.alloc (by simp; omega) _)) (by simp; omega)).mono ?_
      rintro e w1 ⟨rfl, hb⟩
      obtain ⟨hcw1, hfw1⟩ := bcell hb
      have HBw1 : Hid (Below w.heap.size w w1) := Below.go (by go_grown) hb (by go_size)
      have hzw10 : w.heap.size < w1.heap.size := by have := hb.size; (try simp at this); omega
      have hzw11 : w.heap.size + 1 < w1.heap.size := by have := hb.size; (try simp at this); omega
      clear hb
      go_wp2_with fail
      refine (HG.out _).mono ?_
      rintro e w2 ⟨rfl, hb⟩
      obtain ⟨hcw2, hfw2⟩ := bcell hb
      have HBw2 : Hid (Below w.heap.size w w2) := Below.go (by have hpre := HBw1.out; have hps := hpre.size; go_grown) hb (by have hpre := HBw1.out; have hps := hpre.size; go_size)
      have hzw20 : w.heap.size < w2.heap.size := by have := hb.size; (try simp at this); omega
      have hzw21 : w.heap.size + 1 < w2.heap.size := by have := hb.size; (try simp at this); omega
      have HEw2 := Lib.hid hb
      clear hb
      simp only [if_true]
      go_wp2
      all_goals
        first
          | (go_ret2; refine ⟨?_, HBw2.out⟩; simp; done)
          | (exfalso; have hx := (by assumption : (!decide (ex ≤ 1099511627776)) = false); simp at hx; omega)

set_option maxHeartbeats 3200000 in
theorem rstale_any (r : Rec) (hl : r.l.length = r.n) (B : Nat) (some : Bool) (g : Stp) (now ex : Int) (w : World) (hr : Rd w B r.A (sv r.l)) (hB : B ≤ w.heap.size) :
    Calls Try.prog 36 #[r.v, .bool some, stv g, .int .i64 now, .int .i64 ex] w fun e w' => e = .returned (.tuple #[.bool (stB r some g now ex), .int .i64 (stE r some g now ex)]) ∧ Below w.heap.size w w' := by
  have hck := fun W (h : Rd W B r.A (sv r.l)) h2 => rreccheck_any r hl B W h h2
  have hbt := fun h => chkR_beat (r := r) h
  have hE : stE r some g now ex = if some = true ∧ chkR r ≠ 0 then chkR r else if okS g = false then 2 else if 0 ≤ now ∧ now ≤ 1099511627776 ∧ 0 ≤ ex ∧ ex ≤ 1099511627776 then 0 else 2 := rfl
  have hBv : stB r some g now ex = (decide (stE r some g now ex = 0) && decide (ex < now - (if some then r.beat else g.wall))) := rfl
  rw [hBv]
  generalize stE r some g now ex = se at *
  generalize chkR r = ck at *
  have hg := fun W => rcheck_any g W
  unfold chk at hg
  have hgw : okS g = true → 0 ≤ g.wall ∧ g.wall ≤ 1099511627776 := fun h => by have := (okS_iff g).1 h; omega
  have HGW := Lib.hid hgw; clear hgw
  generalize okS g = og at *
  obtain ⟨nd, nu, st, ⟨aw, al, ag⟩, A, n, c, l, beat, ⟨pw, pl, pg⟩⟩ := r
  obtain ⟨gw, gl, gg⟩ := g
  unfold Rec.v at *
  simp only at hr hck hbt hg hl ⊢
  have HCK := Lib.hid hck; have HG := Lib.hid hg
  have HR0 : Hid (Rd (w.alloc (.cells #[.int .i32 nd, .int .i32 nu, .int .u8 st, .int .i64 aw, .int .i32 al, .int .i32 ag, .slice A n c, .int .i64 beat, .int .i64 pw, .int .i32 pl, .int .i32 pg] 57)) B A (sv l)) := hr.alloc hB _
  clear hck hg hr hBv hl
  cases some
  · simp only [Bool.false_eq_true, false_and, if_false] at hE ⊢
    cases og
    · simp only [if_true] at hE
      subst hE
      go_enter Try.func36, Try.ntmps36
      go_wp2_with fail
      refine (HG.out _).mono ?_
      rintro e w2 ⟨rfl, hb⟩
      obtain ⟨hcw2, hfw2⟩ := bcell hb
      have HBw2 : Hid (Below w.heap.size w w2) := Below.go (by go_grown) hb (by go_size)
      have hzw20 : w.heap.size < w2.heap.size := by have := hb.size; (try simp at this); omega
      have hzw21 : w.heap.size + 1 < w2.heap.size := by have := hb.size; (try simp at this); omega
      have HEw2 := Lib.hid hb
      clear hb
      simp only [Bool.false_eq_true, if_false]
      go_wp2
      all_goals
        first
          | (go_ret2; refine ⟨?_, HBw2.out⟩; simp; done)
          | (exfalso; have hx := (by assumption : (!decide (ex ≤ 1099511627776)) = false); simp at hx; omega)
    · simp only [Bool.true_eq_false, if_false] at hE
      by_cases q0 : now < 0
      case pos =>
        rw [if_neg (by omega)] at hE
        subst hE
        go_enter Try.func36, Try.ntmps36
        go_wp2_with fail
        refine (HG.out _).mono ?_
        rintro e w2 ⟨rfl, hb⟩
        obtain ⟨hcw2, hfw2⟩ := bcell hb
        have HBw2 : Hid (Below w.heap.size w w2) := Below.go (by go_grown) hb (by go_size)
        have hzw20 : w.heap.size < w2.heap.size := by have := hb.size; (try simp at this); omega
        have hzw21 : w.heap.size + 1 < w2.heap.size := by have := hb.size; (try simp at this); omega
        have HEw2 := Lib.hid hb
        clear hb
        simp only [if_true]
        go_wp2
        all_goals
          first
            | (go_ret2; refine ⟨?_, HBw2.out⟩; simp; done)
            | (exfalso; have hx := (by assumption : (!decide (ex ≤ 1099511627776)) = false); simp at hx; omega)
      by_cases q1 : 1099511627776 < now
      case pos =>
        rw [if_neg (by omega)] at hE
        subst hE
        go_enter Try.func36, Try.ntmps36
        go_wp2_with fail
        refine (HG.out _).mono ?_
        rintro e w2 ⟨rfl, hb⟩
        obtain ⟨hcw2, hfw2⟩ := bcell hb
        have HBw2 : Hid (Below w.heap.size w w2) := Below.go (by go_grown) hb (by go_size)
        have hzw20 : w.heap.size < w2.heap.size := by have := hb.size; (try simp at this); omega
        have hzw21 : w.heap.size + 1 < w2.heap.size := by have := hb.size; (try simp at this); omega
        have HEw2 := Lib.hid hb
        clear hb
        simp only [if_true]
        go_wp2
        all_goals
          first
            | (go_ret2; refine ⟨?_, HBw2.out⟩; simp; done)
            | (exfalso; have hx := (by assumption : (!decide (ex ≤ 1099511627776)) = false); simp at hx; omega)
      by_cases q2 : ex < 0
      case pos =>
        rw [if_neg (by omega)] at hE
        subst hE
        go_enter Try.func36, Try.ntmps36
        go_wp2_with fail
        refine (HG.out _).mono ?_
        rintro e w2 ⟨rfl, hb⟩
        obtain ⟨hcw2, hfw2⟩ := bcell hb
        have HBw2 : Hid (Below w.heap.size w w2) := Below.go (by go_grown) hb (by go_size)
        have hzw20 : w.heap.size < w2.heap.size := by have := hb.size; (try simp at this); omega
        have hzw21 : w.heap.size + 1 < w2.heap.size := by have := hb.size; (try simp at this); omega
        have HEw2 := Lib.hid hb
        clear hb
        simp only [if_true]
        go_wp2
        all_goals
          first
            | (go_ret2; refine ⟨?_, HBw2.out⟩; simp; done)
            | (exfalso; have hx := (by assumption : (!decide (ex ≤ 1099511627776)) = false); simp at hx; omega)
      by_cases q3 : 1099511627776 < ex
      case pos =>
        rw [if_neg (by omega)] at hE
        subst hE
        go_enter Try.func36, Try.ntmps36
        go_wp2_with fail
        refine (HG.out _).mono ?_
        rintro e w2 ⟨rfl, hb⟩
        obtain ⟨hcw2, hfw2⟩ := bcell hb
        have HBw2 : Hid (Below w.heap.size w w2) := Below.go (by go_grown) hb (by go_size)
        have hzw20 : w.heap.size < w2.heap.size := by have := hb.size; (try simp at this); omega
        have hzw21 : w.heap.size + 1 < w2.heap.size := by have := hb.size; (try simp at this); omega
        have HEw2 := Lib.hid hb
        clear hb
        simp only [if_true]
        go_wp2
        all_goals
          first
            | (go_ret2; refine ⟨?_, HBw2.out⟩; simp; done)
            | (exfalso; have hx := (by assumption : (!decide (ex ≤ 1099511627776)) = false); simp at hx; omega)
      have qq : 0 ≤ now ∧ now ≤ 1099511627776 ∧ 0 ≤ ex ∧ ex ≤ 1099511627776 := by omega
      rw [if_pos qq] at hE
      subst hE
      have hgw : 0 ≤ gw ∧ gw ≤ 1099511627776 := HGW.out rfl
      go_enter Try.func36, Try.ntmps36
      go_wp2_with fail
      refine (HG.out _).mono ?_
      rintro e w2 ⟨rfl, hb⟩
      obtain ⟨hcw2, hfw2⟩ := bcell hb
      have HBw2 : Hid (Below w.heap.size w w2) := Below.go (by go_grown) hb (by go_size)
      have hzw20 : w.heap.size < w2.heap.size := by have := hb.size; (try simp at this); omega
      have hzw21 : w.heap.size + 1 < w2.heap.size := by have := hb.size; (try simp at this); omega
      have HEw2 := Lib.hid hb
      clear hb
      simp only [if_true]
      go_wp2
      all_goals
        first
          | (go_ret2; refine ⟨?_, HBw2.out⟩; simp; done)
          | (exfalso; have hx := (by assumption : (!decide (ex ≤ 1099511627776)) = false); simp at hx; omega)
  · simp only [true_and, if_true] at hE ⊢
    by_cases hck : ck = 0
    case neg =>
      rw [if_pos hck] at hE
      subst hE
      have hne : (se == 0) = false := by simpa using hck
      have hne2 : (se != 0) = true := by rw [bne, hne]; rfl
      have hd : decide (se = 0) = false := decide_eq_false hck
      rw [hd, Bool.false_and]
      clear hbt
      go_enter Try.func36, Try.ntmps36
      go_wp2_with fail
      refine (HCK.out _ ((HR0.out.alloc (by simp; omega) _)) (by simp; omega)).mono ?_
      rintro e w1 ⟨rfl, hb⟩
      obtain ⟨hcw1, hfw1⟩ := bcell hb
      have HBw1 : Hid (Below w.heap.size w w1) := Below.go (by go_grown) hb (by go_size)
      have hzw10 : w.heap.size < w1.heap.size := by have := hb.size; (try simp at this); omega
      have hzw11 : w.heap.size + 1 < w1.heap.size := by have := hb.size; (try simp at this); omega
      clear hb
      go_wp2
      all_goals
        first
          | (go_ret2; refine ⟨?_, HBw1.out⟩; simp; done)
          | (exfalso; have hx := (by assumption : (!decide (ex ≤ 1099511627776)) = false); simp at hx; omega)
    rw [if_neg (fun h => h hck)] at hE
    subst hck
    have hbt := hbt rfl
    cases og
    · simp only [if_true] at hE
      subst hE
      go_enter Try.func36, Try.ntmps36
      go_wp2_with fail
      refine (HCK.out _ ((HR0.out.alloc (by simp; omega) _)) (by simp; omega)).mono ?_
      rintro e w1 ⟨rfl, hb⟩
      obtain ⟨hcw1, hfw1⟩ := bcell hb
      have HBw1 : Hid (Below w.heap.size w w1) := Below.go (by go_grown) hb (by go_size)
      have hzw10 : w.heap.size < w1.heap.size := by have := hb.size; (try simp at this); omega
      have hzw11 : w.heap.size + 1 < w1.heap.size := by have := hb.size; (try simp at this); omega
      clear hb
      go_wp2_with fail
      refine (HG.out _).mono ?_
      rintro e w2 ⟨rfl, hb⟩
      obtain ⟨hcw2, hfw2⟩ := bcell hb
      have HBw2 : Hid (Below w.heap.size w w2) := Below.go (by have hpre := HBw1.out; have hps := hpre.size; go_grown) hb (by have hpre := HBw1.out; have hps := hpre.size; go_size)
      have hzw20 : w.heap.size < w2.heap.size := by have := hb.size; (try simp at this); omega
      have hzw21 : w.heap.size + 1 < w2.heap.size := by have := hb.size; (try simp at this); omega
      have HEw2 := Lib.hid hb
      clear hb
      simp only [Bool.false_eq_true, if_false]
      go_wp2
      all_goals
        first
          | (go_ret2; refine ⟨?_, HBw2.out⟩; simp; done)
          | (exfalso; have hx := (by assumption : (!decide (ex ≤ 1099511627776)) = false); simp at hx; omega)
    · simp only [Bool.true_eq_false, if_false] at hE
      by_cases q0 : now < 0
      case pos =>
        rw [if_neg (by omega)] at hE
        subst hE
        go_enter Try.func36, Try.ntmps36
        go_wp2_with fail
        refine (HCK.out _ ((HR0.out.alloc (by simp; omega) _)) (by simp; omega)).mono ?_
        rintro e w1 ⟨rfl, hb⟩
        obtain ⟨hcw1, hfw1⟩ := bcell hb
        have HBw1 : Hid (Below w.heap.size w w1) := Below.go (by go_grown) hb (by go_size)
        have hzw10 : w.heap.size < w1.heap.size := by have := hb.size; (try simp at this); omega
        have hzw11 : w.heap.size + 1 < w1.heap.size := by have := hb.size; (try simp at this); omega
        clear hb
        go_wp2_with fail
        refine (HG.out _).mono ?_
        rintro e w2 ⟨rfl, hb⟩
        obtain ⟨hcw2, hfw2⟩ := bcell hb
        have HBw2 : Hid (Below w.heap.size w w2) := Below.go (by have hpre := HBw1.out; have hps := hpre.size; go_grown) hb (by have hpre := HBw1.out; have hps := hpre.size; go_size)
        have hzw20 : w.heap.size < w2.heap.size := by have := hb.size; (try simp at this); omega
        have hzw21 : w.heap.size + 1 < w2.heap.size := by have := hb.size; (try simp at this); omega
        have HEw2 := Lib.hid hb
        clear hb
        simp only [if_true]
        go_wp2
        all_goals
          first
            | (go_ret2; refine ⟨?_, HBw2.out⟩; simp; done)
            | (exfalso; have hx := (by assumption : (!decide (ex ≤ 1099511627776)) = false); simp at hx; omega)
      by_cases q1 : 1099511627776 < now
      case pos =>
        rw [if_neg (by omega)] at hE
        subst hE
        go_enter Try.func36, Try.ntmps36
        go_wp2_with fail
        refine (HCK.out _ ((HR0.out.alloc (by simp; omega) _)) (by simp; omega)).mono ?_
        rintro e w1 ⟨rfl, hb⟩
        obtain ⟨hcw1, hfw1⟩ := bcell hb
        have HBw1 : Hid (Below w.heap.size w w1) := Below.go (by go_grown) hb (by go_size)
        have hzw10 : w.heap.size < w1.heap.size := by have := hb.size; (try simp at this); omega
        have hzw11 : w.heap.size + 1 < w1.heap.size := by have := hb.size; (try simp at this); omega
        clear hb
        go_wp2_with fail
        refine (HG.out _).mono ?_
        rintro e w2 ⟨rfl, hb⟩
        obtain ⟨hcw2, hfw2⟩ := bcell hb
        have HBw2 : Hid (Below w.heap.size w w2) := Below.go (by have hpre := HBw1.out; have hps := hpre.size; go_grown) hb (by have hpre := HBw1.out; have hps := hpre.size; go_size)
        have hzw20 : w.heap.size < w2.heap.size := by have := hb.size; (try simp at this); omega
        have hzw21 : w.heap.size + 1 < w2.heap.size := by have := hb.size; (try simp at this); omega
        have HEw2 := Lib.hid hb
        clear hb
        simp only [if_true]
        go_wp2
        all_goals
          first
            | (go_ret2; refine ⟨?_, HBw2.out⟩; simp; done)
            | (exfalso; have hx := (by assumption : (!decide (ex ≤ 1099511627776)) = false); simp at hx; omega)
      by_cases q2 : ex < 0
      case pos =>
        rw [if_neg (by omega)] at hE
        subst hE
        go_enter Try.func36, Try.ntmps36
        go_wp2_with fail
        refine (HCK.out _ ((HR0.out.alloc (by simp; omega) _)) (by simp; omega)).mono ?_
        rintro e w1 ⟨rfl, hb⟩
        obtain ⟨hcw1, hfw1⟩ := bcell hb
        have HBw1 : Hid (Below w.heap.size w w1) := Below.go (by go_grown) hb (by go_size)
        have hzw10 : w.heap.size < w1.heap.size := by have := hb.size; (try simp at this); omega
        have hzw11 : w.heap.size + 1 < w1.heap.size := by have := hb.size; (try simp at this); omega
        clear hb
        go_wp2_with fail
        refine (HG.out _).mono ?_
        rintro e w2 ⟨rfl, hb⟩
        obtain ⟨hcw2, hfw2⟩ := bcell hb
        have HBw2 : Hid (Below w.heap.size w w2) := Below.go (by have hpre := HBw1.out; have hps := hpre.size; go_grown) hb (by have hpre := HBw1.out; have hps := hpre.size; go_size)
        have hzw20 : w.heap.size < w2.heap.size := by have := hb.size; (try simp at this); omega
        have hzw21 : w.heap.size + 1 < w2.heap.size := by have := hb.size; (try simp at this); omega
        have HEw2 := Lib.hid hb
        clear hb
        simp only [if_true]
        go_wp2
        all_goals
          first
            | (go_ret2; refine ⟨?_, HBw2.out⟩; simp; done)
            | (exfalso; have hx := (by assumption : (!decide (ex ≤ 1099511627776)) = false); simp at hx; omega)
      by_cases q3 : 1099511627776 < ex
      case pos =>
        rw [if_neg (by omega)] at hE
        subst hE
        go_enter Try.func36, Try.ntmps36
        go_wp2_with fail
        refine (HCK.out _ ((HR0.out.alloc (by simp; omega) _)) (by simp; omega)).mono ?_
        rintro e w1 ⟨rfl, hb⟩
        obtain ⟨hcw1, hfw1⟩ := bcell hb
        have HBw1 : Hid (Below w.heap.size w w1) := Below.go (by go_grown) hb (by go_size)
        have hzw10 : w.heap.size < w1.heap.size := by have := hb.size; (try simp at this); omega
        have hzw11 : w.heap.size + 1 < w1.heap.size := by have := hb.size; (try simp at this); omega
        clear hb
        go_wp2_with fail
        refine (HG.out _).mono ?_
        rintro e w2 ⟨rfl, hb⟩
        obtain ⟨hcw2, hfw2⟩ := bcell hb
        have HBw2 : Hid (Below w.heap.size w w2) := Below.go (by have hpre := HBw1.out; have hps := hpre.size; go_grown) hb (by have hpre := HBw1.out; have hps := hpre.size; go_size)
        have hzw20 : w.heap.size < w2.heap.size := by have := hb.size; (try simp at this); omega
        have hzw21 : w.heap.size + 1 < w2.heap.size := by have := hb.size; (try simp at this); omega
        have HEw2 := Lib.hid hb
        clear hb
        simp only [if_true]
        go_wp2
        all_goals
          first
            | (go_ret2; refine ⟨?_, HBw2.out⟩; simp; done)
            | (exfalso; have hx := (by assumption : (!decide (ex ≤ 1099511627776)) = false); simp at hx; omega)
      have qq : 0 ≤ now ∧ now ≤ 1099511627776 ∧ 0 ≤ ex ∧ ex ≤ 1099511627776 := by omega
      rw [if_pos qq] at hE
      subst hE
      go_enter Try.func36, Try.ntmps36
      go_wp2_with fail
      refine (HCK.out _ ((HR0.out.alloc (by simp; omega) _)) (by simp; omega)).mono ?_
      rintro e w1 ⟨rfl, hb⟩
      obtain ⟨hcw1, hfw1⟩ := bcell hb
      have HBw1 : Hid (Below w.heap.size w w1) := Below.go (by go_grown) hb (by go_size)
      have hzw10 : w.heap.size < w1.heap.size := by have := hb.size; (try simp at this); omega
      have hzw11 : w.heap.size + 1 < w1.heap.size := by have := hb.size; (try simp at this); omega
      clear hb
      go_wp2_with fail
      refine (HG.out _).mono ?_
      rintro e w2 ⟨rfl, hb⟩
      obtain ⟨hcw2, hfw2⟩ := bcell hb
      have HBw2 : Hid (Below w.heap.size w w2) := Below.go (by have hpre := HBw1.out; have hps := hpre.size; go_grown) hb (by have hpre := HBw1.out; have hps := hpre.size; go_size)
      have hzw20 : w.heap.size < w2.heap.size := by have := hb.size; (try simp at this); omega
      have hzw21 : w.heap.size + 1 < w2.heap.size := by have := hb.size; (try simp at this); omega
      have HEw2 := Lib.hid hb
      clear hb
      simp only [if_true]
      go_wp2
      all_goals
        first
          | (go_ret2; refine ⟨?_, HBw2.out⟩; simp; done)
          | (exfalso; have hx := (by assumption : (!decide (ex ≤ 1099511627776)) = false); simp at hx; omega)
end Go.Proofs.Ythijpcbblmcfiaa
