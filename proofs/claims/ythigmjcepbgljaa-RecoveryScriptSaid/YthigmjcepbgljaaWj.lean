/- Walks: verdicts. -/
import Derived.Test.YthigmjcepbgljaaWa
namespace Go.Proofs.Ythigmjcepbgljaa
open Go.RowKit Go.St
set_option linter.unusedVariables false
set_option linter.unusedSimpArgs false
set_option maxRecDepth 100000

def vdE (r : Rec) (some : Bool) (th : List Bool) : Int := if some = false then 0 else if chkR r ≠ 0 then chkR r else if r.st = 2 ∧ th.length ≠ r.n then 2 else 0
def vdV (r : Rec) (some : Bool) (th : List Bool) : Int := if some = false then 1 else if chkR r ≠ 0 then 0 else if r.st = 3 then 2 else if r.st = 4 then 3 else if r.st = 1 then 1 else if th.length ≠ r.n then 0 else if th.any (blIs false) then 1 else 2
theorem vd_cases (r : Rec) (some : Bool) (th : List Bool) : (some = false ∧ vdV r some th = 1 ∧ vdE r some th = 0) ∨ (some = true ∧ chkR r ≠ 0 ∧ vdV r some th = 0 ∧ vdE r some th = chkR r) ∨ (some = true ∧ chkR r = 0 ∧ r.st = 3 ∧ vdV r some th = 2 ∧ vdE r some th = 0) ∨ (some = true ∧ chkR r = 0 ∧ r.st = 4 ∧ vdV r some th = 3 ∧ vdE r some th = 0) ∨ (some = true ∧ chkR r = 0 ∧ r.st = 1 ∧ vdV r some th = 1 ∧ vdE r some th = 0) ∨
    (some = true ∧ chkR r = 0 ∧ r.st = 2 ∧ th.length ≠ r.n ∧ vdV r some th = 0 ∧ vdE r some th = 2) ∨ (some = true ∧ chkR r = 0 ∧ r.st = 2 ∧ th.length = r.n ∧ th.any (blIs false) = true ∧ vdV r some th = 1 ∧ vdE r some th = 0) ∨ (some = true ∧ chkR r = 0 ∧ r.st = 2 ∧ th.length = r.n ∧ th.any (blIs false) = false ∧ vdV r some th = 2 ∧ vdE r some th = 0) := by
  have hb := chkR_st' (r := r)
  unfold vdV vdE
  generalize chkR r = ve at *
  cases some
  · simp
  · by_cases h0 : ve = 0
    · subst h0
      rcases (hb rfl).1 with h | h | h | h
      · simp [h]
      · by_cases h1 : th.length = r.n
        · cases hx : th.any (blIs false) <;> simp [h, h1]
        · simp [h, h1]
      · simp [h]
      · simp [h]
    · simp [h0]
theorem verdict_any (r : Rec) (hl : fit r) (B : Nat) (some : Bool) (At : Option Addr) (nt ct : Nat) (th : List Bool) (ht : th.length = nt) (hnt : nt ≤ 140737488355328) (w : World) (hr : Rd w B r.A (sv r.l)) (hrt : Rd w B At (lv th)) (hB : B ≤ w.heap.size) :
    Calls Try.prog 19 #[r.v, .bool some, .slice At nt ct] w fun e w' => e = .returned (.tuple #[.int .i64 (vdV r some th), .int .i64 (vdE r some th)]) ∧ Below w.heap.size w w' := by
  have hc := vd_cases r some th
  have h1 := fun W (h : Below w.heap.size w W) => reccheck_any r hl B W (hr.below (h.mono hB)) (Nat.le_trans hB h.size)
  have HT := Lib.hid (fun W (h : Below w.heap.size w W) => hrt.below (h.mono hB))
  have HTN := Lib.hid ht
  generalize vdV r some th = V at *
  generalize vdE r some th = E at *
  generalize chkR r = ve at *
  rw [ht] at hc
  clear hr hrt hl ht
  obtain ⟨nd, nu, st, ⟨aw, al, ag⟩, A, n, c, l, beat, ⟨pw, pl, pg⟩⟩ := r
  unfold Rec.v at *
  simp only at h1 hc ⊢
  have H1 := Lib.hid h1; clear h1
  rcases hc with ⟨rfl, rfl, rfl⟩ | ⟨rfl, hv, rfl, rfl⟩ | ⟨rfl, rfl, rfl, rfl, rfl⟩ | ⟨rfl, rfl, rfl, rfl, rfl⟩ | ⟨rfl, rfl, rfl, rfl, rfl⟩ | ⟨rfl, rfl, rfl, hn, rfl, rfl⟩ | ⟨rfl, rfl, rfl, hn, ha, rfl, rfl⟩ | ⟨rfl, rfl, rfl, hn, ha, rfl, rfl⟩
  · go_enter Try.func19, Try.ntmps19
    go_wp2
    go_ret2
    exact ⟨rfl, by go_grown⟩
  · have hne : (E == 0) = false := by simpa using hv
    have hne2 : (E != 0) = true := by rw [bne, hne]; rfl
    clear hv
    go_enter Try.func19, Try.ntmps19
    go_wp2_with fail
    refine (H1.out _ (by go_grown)).mono ?_
    rintro e w1 ⟨rfl, hb⟩
    obtain ⟨hcw1, hfw1⟩ := bcell hb
    have HBw1 : Hid (Below w.heap.size w w1) := Below.go (by go_grown) hb (by go_size)
    have hzw10 : w.heap.size < w1.heap.size := by have := hb.size; (try simp at this); omega
    have HEw1 := Lib.hid hb
    clear hb
    go_wp2
    go_ret2
    exact ⟨rfl, HBw1.out⟩
  · go_enter Try.func19, Try.ntmps19
    go_wp2_with fail
    refine (H1.out _ (by go_grown)).mono ?_
    rintro e w1 ⟨rfl, hb⟩
    obtain ⟨hcw1, hfw1⟩ := bcell hb
    have HBw1 : Hid (Below w.heap.size w w1) := Below.go (by go_grown) hb (by go_size)
    have hzw10 : w.heap.size < w1.heap.size := by have := hb.size; (try simp at this); omega
    have HEw1 := Lib.hid hb
    clear hb
    go_wp2
    go_ret2
    exact ⟨rfl, HBw1.out⟩
  · go_enter Try.func19, Try.ntmps19
    go_wp2_with fail
    refine (H1.out _ (by go_grown)).mono ?_
    rintro e w1 ⟨rfl, hb⟩
    obtain ⟨hcw1, hfw1⟩ := bcell hb
    have HBw1 : Hid (Below w.heap.size w w1) := Below.go (by go_grown) hb (by go_size)
    have hzw10 : w.heap.size < w1.heap.size := by have := hb.size; (try simp at this); omega
    have HEw1 := Lib.hid hb
    clear hb
    go_wp2
    go_ret2
    exact ⟨rfl, HBw1.out⟩
  · go_enter Try.func19, Try.ntmps19
    go_wp2_with fail
    refine (H1.out _ (by go_grown)).mono ?_
    rintro e w1 ⟨rfl, hb⟩
    obtain ⟨hcw1, hfw1⟩ := bcell hb
    have HBw1 : Hid (Below w.heap.size w w1) := Below.go (by go_grown) hb (by go_size)
    have hzw10 : w.heap.size < w1.heap.size := by have := hb.size; (try simp at this); omega
    have HEw1 := Lib.hid hb
    clear hb
    go_wp2
    go_ret2
    exact ⟨rfl, HBw1.out⟩
  · have e0 : ((nt : Int) == (n : Int)) = false := by rw [beq_eq_false_iff_ne]; omega
    have e1 : ((nt : Int) != (n : Int)) = true := by rw [bne, e0]; rfl
    clear hn
    go_enter Try.func19, Try.ntmps19
    go_wp2_with fail
    refine (H1.out _ (by go_grown)).mono ?_
    rintro e w1 ⟨rfl, hb⟩
    obtain ⟨hcw1, hfw1⟩ := bcell hb
    have HBw1 : Hid (Below w.heap.size w w1) := Below.go (by go_grown) hb (by go_size)
    have hzw10 : w.heap.size < w1.heap.size := by have := hb.size; (try simp at this); omega
    have HEw1 := Lib.hid hb
    clear hb
    go_wp2
    go_ret2
    exact ⟨rfl, HBw1.out⟩
  · subst hn
    have HK := Lib.hid (fun W (h : Below w.heap.size w W) => bcontains_any At nt ct B th HTN.out (by omega) false W (HT.out W h))
    rw [ha] at HK
    clear ha
    go_enter Try.func19, Try.ntmps19
    go_wp2_with fail
    refine (H1.out _ (by go_grown)).mono ?_
    rintro e w1 ⟨rfl, hb⟩
    obtain ⟨hcw1, hfw1⟩ := bcell hb
    have HBw1 : Hid (Below w.heap.size w w1) := Below.go (by go_grown) hb (by go_size)
    have hzw10 : w.heap.size < w1.heap.size := by have := hb.size; (try simp at this); omega
    have HEw1 := Lib.hid hb
    clear hb
    go_wp2_with fail
    refine (HK.out _ HBw1.out).mono ?_
    rintro e w' ⟨rfl, rfl⟩
    go_wp2
    go_ret2
    exact ⟨rfl, HBw1.out⟩
  · subst hn
    have HK := Lib.hid (fun W (h : Below w.heap.size w W) => bcontains_any At nt ct B th HTN.out (by omega) false W (HT.out W h))
    rw [ha] at HK
    clear ha
    go_enter Try.func19, Try.ntmps19
    go_wp2_with fail
    refine (H1.out _ (by go_grown)).mono ?_
    rintro e w1 ⟨rfl, hb⟩
    obtain ⟨hcw1, hfw1⟩ := bcell hb
    have HBw1 : Hid (Below w.heap.size w w1) := Below.go (by go_grown) hb (by go_size)
    have hzw10 : w.heap.size < w1.heap.size := by have := hb.size; (try simp at this); omega
    have HEw1 := Lib.hid hb
    clear hb
    go_wp2_with fail
    refine (HK.out _ HBw1.out).mono ?_
    rintro e w' ⟨rfl, rfl⟩
    go_wp2
    go_ret2
    exact ⟨rfl, HBw1.out⟩
set_option maxHeartbeats 800000 in
theorem rverdict_any (r : Rec) (hl : fit r) (B : Nat) (some : Bool) (At : Option Addr) (nt ct : Nat) (th : List Bool) (ht : th.length = nt) (hnt : nt ≤ 140737488355328) (w : World) (hr : Rd w B r.A (sv r.l)) (hrt : Rd w B At (lv th)) (hB : B ≤ w.heap.size) :
    Calls Try.prog 20 #[r.v, .bool some, .slice At nt ct] w fun e w' => e = .returned (.tuple #[.int .i64 (vdV r some th), .int .i64 (vdE r some th)]) ∧ Below w.heap.size w w' := by
  have hc := vd_cases r some th
  have h1 := fun W (h : Below w.heap.size w W) => rreccheck_any r hl B W (hr.below (h.mono hB)) (Nat.le_trans hB h.size)
  have HT := Lib.hid (fun W (h : Below w.heap.size w W) => hrt.below (h.mono hB))
  have HTN := Lib.hid ht
  generalize vdV r some th = V at *
  generalize vdE r some th = E at *
  generalize chkR r = ve at *
  rw [ht] at hc
  clear hr hrt hl ht
  obtain ⟨nd, nu, st, ⟨aw, al, ag⟩, A, n, c, l, beat, ⟨pw, pl, pg⟩⟩ := r
  unfold Rec.v at *
  simp only at h1 hc ⊢
  have H1 := Lib.hid h1; clear h1
  rcases hc with ⟨rfl, rfl, rfl⟩ | ⟨rfl, hv, rfl, rfl⟩ | ⟨rfl, rfl, rfl, rfl, rfl⟩ | ⟨rfl, rfl, rfl, rfl, rfl⟩ | ⟨rfl, rfl, rfl, rfl, rfl⟩ | ⟨rfl, rfl, rfl, hn, rfl, rfl⟩ | ⟨rfl, rfl, rfl, hn, ha, rfl, rfl⟩ | ⟨rfl, rfl, rfl, hn, ha, rfl, rfl⟩
  · go_enter Try.func20, Try.ntmps20
    go_wp2
    go_ret2
    exact ⟨rfl, by go_grown⟩
  · have hne : (E == 0) = false := by simpa using hv
    have hne2 : (E != 0) = true := by rw [bne, hne]; rfl
    clear hv
    go_enter Try.func20, Try.ntmps20
    go_wp2_with fail
    refine (H1.out _ (by go_grown)).mono ?_
    rintro e w1 ⟨rfl, hb⟩
    obtain ⟨hcw1, hfw1⟩ := bcell hb
    have HBw1 : Hid (Below w.heap.size w w1) := Below.go (by go_grown) hb (by go_size)
    have hzw10 : w.heap.size < w1.heap.size := by have := hb.size; (try simp at this); omega
    have HEw1 := Lib.hid hb
    clear hb
    go_wp2
    go_ret2
    exact ⟨rfl, HBw1.out⟩
  · go_enter Try.func20, Try.ntmps20
    go_wp2_with fail
    refine (H1.out _ (by go_grown)).mono ?_
    rintro e w1 ⟨rfl, hb⟩
    obtain ⟨hcw1, hfw1⟩ := bcell hb
    have HBw1 : Hid (Below w.heap.size w w1) := Below.go (by go_grown) hb (by go_size)
    have hzw10 : w.heap.size < w1.heap.size := by have := hb.size; (try simp at this); omega
    have HEw1 := Lib.hid hb
    clear hb
    go_wp2
    go_ret2
    exact ⟨rfl, HBw1.out⟩
  · go_enter Try.func20, Try.ntmps20
    go_wp2_with fail
    refine (H1.out _ (by go_grown)).mono ?_
    rintro e w1 ⟨rfl, hb⟩
    obtain ⟨hcw1, hfw1⟩ := bcell hb
    have HBw1 : Hid (Below w.heap.size w w1) := Below.go (by go_grown) hb (by go_size)
    have hzw10 : w.heap.size < w1.heap.size := by have := hb.size; (try simp at this); omega
    have HEw1 := Lib.hid hb
    clear hb
    go_wp2
    go_ret2
    exact ⟨rfl, HBw1.out⟩
  · go_enter Try.func20, Try.ntmps20
    go_wp2_with fail
    refine (H1.out _ (by go_grown)).mono ?_
    rintro e w1 ⟨rfl, hb⟩
    obtain ⟨hcw1, hfw1⟩ := bcell hb
    have HBw1 : Hid (Below w.heap.size w w1) := Below.go (by go_grown) hb (by go_size)
    have hzw10 : w.heap.size < w1.heap.size := by have := hb.size; (try simp at this); omega
    have HEw1 := Lib.hid hb
    clear hb
    go_wp2
    go_ret2
    exact ⟨rfl, HBw1.out⟩
  · have e0 : ((nt : Int) == (n : Int)) = false := by rw [beq_eq_false_iff_ne]; omega
    have e1 : ((nt : Int) != (n : Int)) = true := by rw [bne, e0]; rfl
    clear hn
    go_enter Try.func20, Try.ntmps20
    go_wp2_with fail
    refine (H1.out _ (by go_grown)).mono ?_
    rintro e w1 ⟨rfl, hb⟩
    obtain ⟨hcw1, hfw1⟩ := bcell hb
    have HBw1 : Hid (Below w.heap.size w w1) := Below.go (by go_grown) hb (by go_size)
    have hzw10 : w.heap.size < w1.heap.size := by have := hb.size; (try simp at this); omega
    have HEw1 := Lib.hid hb
    clear hb
    go_wp2
    go_ret2
    exact ⟨rfl, HBw1.out⟩
  · subst hn
    have HA := Lib.hid ha
    clear ha
    go_enter Try.func20, Try.ntmps20
    go_wp2_with fail
    refine (H1.out _ (by go_grown)).mono ?_
    rintro e w1 ⟨rfl, hb⟩
    obtain ⟨hcw1, hfw1⟩ := bcell hb
    have HBw1 : Hid (Below w.heap.size w w1) := Below.go (by go_grown) hb (by go_size)
    have hzw10 : w.heap.size < w1.heap.size := by have := hb.size; (try simp at this); omega
    have HEw1 := Lib.hid hb
    clear hb
    go_wp2
    go_loop [9] (fun i => ∃ k : Nat, k ≤ nt ∧ i = .int .i64 k ∧ Hid ((th.take k).any (blIs false) = false)) (fun i => nt - (intOf i).toNat)
    case atStart => exact ⟨0, Nat.zero_le _, rfl, by unfold Hid; simp⟩
    case round =>
      obtain ⟨k, hk, rfl, hU⟩ := hrel
      by_cases hlt : k < nt
      · have k1 : k < th.length := by rw [HTN.out]; exact hlt
        obtain ⟨b, off, rfl, hb, hcell⟩ := (HT.out _ HBw1.out).at_ (lv_get th k k1)
        cases he : blIs false th[k]
        · have H2 := Lib.hid (any_step k1 hU.out he)
          have e1 : th[k] = true := by cases h : th[k] <;> rw [h] at he <;> first | rfl | cases he
          rw [e1] at hcell
          clear he e1
          go_wp2
          exact ⟨⟨k + 1, by omega, by go_num, H2⟩, by simp [intOf]; omega⟩
        · have e1 : th[k] = false := by cases h : th[k] <;> rw [h] at he <;> first | rfl | cases he
          have HY : Hid (th.any (blIs false) = true) := Lib.hid (List.any_eq_true.2 ⟨th[k], List.getElem_mem k1, he⟩)
          rw [e1] at hcell
          clear he e1
          (go_wp2; go_ret2; exact ⟨rfl, HBw1.out⟩)
      · obtain rfl : k = nt := by omega
        have h2 := hU.out
        rw [List.take_of_length_le (by rw [HTN.out]; omega)] at h2
        have H2 := Lib.hid h2
        clear h2
        (have := H2.out; rw [HA.out] at this; cases this)
  · subst hn
    have HA := Lib.hid ha
    clear ha
    go_enter Try.func20, Try.ntmps20
    go_wp2_with fail
    refine (H1.out _ (by go_grown)).mono ?_
    rintro e w1 ⟨rfl, hb⟩
    obtain ⟨hcw1, hfw1⟩ := bcell hb
    have HBw1 : Hid (Below w.heap.size w w1) := Below.go (by go_grown) hb (by go_size)
    have hzw10 : w.heap.size < w1.heap.size := by have := hb.size; (try simp at this); omega
    have HEw1 := Lib.hid hb
    clear hb
    go_wp2
    go_loop [9] (fun i => ∃ k : Nat, k ≤ nt ∧ i = .int .i64 k ∧ Hid ((th.take k).any (blIs false) = false)) (fun i => nt - (intOf i).toNat)
    case atStart => exact ⟨0, Nat.zero_le _, rfl, by unfold Hid; simp⟩
    case round =>
      obtain ⟨k, hk, rfl, hU⟩ := hrel
      by_cases hlt : k < nt
      · have k1 : k < th.length := by rw [HTN.out]; exact hlt
        obtain ⟨b, off, rfl, hb, hcell⟩ := (HT.out _ HBw1.out).at_ (lv_get th k k1)
        cases he : blIs false th[k]
        · have H2 := Lib.hid (any_step k1 hU.out he)
          have e1 : th[k] = true := by cases h : th[k] <;> rw [h] at he <;> first | rfl | cases he
          rw [e1] at hcell
          clear he e1
          go_wp2
          exact ⟨⟨k + 1, by omega, by go_num, H2⟩, by simp [intOf]; omega⟩
        · have e1 : th[k] = false := by cases h : th[k] <;> rw [h] at he <;> first | rfl | cases he
          have HY : Hid (th.any (blIs false) = true) := Lib.hid (List.any_eq_true.2 ⟨th[k], List.getElem_mem k1, he⟩)
          rw [e1] at hcell
          clear he e1
          (have := HY.out; rw [HA.out] at this; cases this)
      · obtain rfl : k = nt := by omega
        have h2 := hU.out
        rw [List.take_of_length_le (by rw [HTN.out]; omega)] at h2
        have H2 := Lib.hid h2
        clear h2
        (go_wp2; go_ret2; exact ⟨rfl, HBw1.out⟩)
end Go.Proofs.Ythigmjcepbgljaa
