/- Walks: verbs. -/
import Derived.Test.YthijpcbblmcfiaaPe
namespace Go.Proofs.Ythijpcbblmcfiaa
open Go.RowKit Go.St
set_option linter.unusedVariables false
set_option linter.unusedSimpArgs false
set_option maxRecDepth 100000


set_option maxHeartbeats 3200000 in
theorem verb_any (r : Rec) (hl : r.l.length = r.n) (B : Nat) (some reads : Bool) (m g : Stp) (now ex : Int) (w : World) (hr : Rd w B r.A (sv r.l)) (hB : B ≤ w.heap.size) :
    Calls Try.prog 34 #[r.v, .bool some, .bool reads, stv m, stv g, .int .i64 now, .int .i64 ex] w fun e w' => e = .returned (.tuple #[.int .i64 (vbV r some reads m g now ex), .int .i64 (vbE r some m g now ex)]) ∧ Below w.heap.size w w' := by
  have hst := fun W (h : Rd W B r.A (sv r.l)) h2 => stale_any r hl B some g now ex W h h2
  have hE : vbE r some m g now ex = if stE r some g now ex ≠ 0 then stE r some g now ex else chk m := rfl
  have hV : vbV r some reads m g now ex = if vbE r some m g now ex ≠ 0 then 0 else vbW (vbS r some) (stB r some g now ex) reads (less m g) := rfl
  have ho := fun W => order_any m g W
  generalize vbV r some reads m g now ex = v at *
  generalize vbE r some m g now ex = e at *
  generalize stE r some g now ex = se at *
  generalize stB r some g now ex = sb at *
  generalize less m g = ls at *
  have hm := fun W => hcheck_any m W
  have hm2 : chk m = 0 ∨ chk m = 2 := by unfold chk; split; exact .inl rfl; exact .inr rfl
  generalize chk m = cm at *
  obtain ⟨nd, nu, st, ⟨aw, al, ag⟩, A, n, c, l, beat, ⟨pw, pl, pg⟩⟩ := r
  obtain ⟨gw, gl, gg⟩ := g
  obtain ⟨mw, ml, mg⟩ := m
  unfold Rec.v stv at *
  unfold vbS at hV
  simp only at hr hst hm ho hl hV ⊢
  have HST := Lib.hid hst; have HM := Lib.hid hm; have HO := Lib.hid ho
  have HR0 : Hid (Rd (w.alloc (.cells #[.int .i32 nd, .int .i32 nu, .int .u8 st, .int .i64 aw, .int .i32 al, .int .i32 ag, .slice A n c, .int .i64 beat, .int .i64 pw, .int .i32 pl, .int .i32 pg] 57)) B A (sv l)) := hr.alloc hB _
  clear hst hm ho hr hl
  by_cases hse : se = 0
  case neg =>
    rw [if_pos hse] at hE
    subst hE
    rw [if_pos hse] at hV
    subst hV
    have hne : (e == 0) = false := by simpa using hse
    have hne2 : (e != 0) = true := by rw [bne, hne]; rfl
    go_enter Try.func34, Try.ntmps34
    go_wp2_with fail
    refine (HST.out _ ((HR0.out.alloc (by simp; omega) _).alloc (by simp; omega) _) (by simp; omega)).mono ?_
    rintro e w1 ⟨rfl, hb⟩
    obtain ⟨hcw1, hfw1⟩ := bcell hb
    have HBw1 : Hid (Below w.heap.size w w1) := Below.go (by go_grown) hb (by go_size)
    have hzw10 : w.heap.size < w1.heap.size := by have := hb.size; (try simp at this); omega
    have hzw11 : w.heap.size + 1 < w1.heap.size := by have := hb.size; (try simp at this); omega
    have hzw12 : w.heap.size + 1 + 1 < w1.heap.size := by have := hb.size; (try simp at this); omega
    clear hb
    go_wp2
    go_ret2
    exact ⟨rfl, HBw1.out⟩
  rw [if_neg (fun h => h hse)] at hE
  subst hse hE
  rcases hm2 with hm2 | hm2
  case inr =>
    subst hm2
    rw [if_pos (by decide)] at hV
    subst hV
    go_enter Try.func34, Try.ntmps34
    go_wp2_with fail
    refine (HST.out _ ((HR0.out.alloc (by simp; omega) _).alloc (by simp; omega) _) (by simp; omega)).mono ?_
    rintro e w1 ⟨rfl, hb⟩
    obtain ⟨hcw1, hfw1⟩ := bcell hb
    have HBw1 : Hid (Below w.heap.size w w1) := Below.go (by go_grown) hb (by go_size)
    have hzw10 : w.heap.size < w1.heap.size := by have := hb.size; (try simp at this); omega
    have hzw11 : w.heap.size + 1 < w1.heap.size := by have := hb.size; (try simp at this); omega
    have hzw12 : w.heap.size + 1 + 1 < w1.heap.size := by have := hb.size; (try simp at this); omega
    clear hb
    go_wp2_with fail
    refine (HM.out _).mono ?_
    rintro e w2 ⟨rfl, hb⟩
    obtain ⟨hcw2, hfw2⟩ := bcell hb
    have HBw2 : Hid (Below w.heap.size w w2) := Below.go (by have hpre := HBw1.out; have hps := hpre.size; go_grown) hb (by have hpre := HBw1.out; have hps := hpre.size; go_size)
    have hzw20 : w.heap.size < w2.heap.size := by have := hb.size; (try simp at this); omega
    have hzw21 : w.heap.size + 1 < w2.heap.size := by have := hb.size; (try simp at this); omega
    have hzw22 : w.heap.size + 1 + 1 < w2.heap.size := by have := hb.size; (try simp at this); omega
    have HEw2 := Lib.hid hb
    clear hb
    go_wp2
    go_ret2
    exact ⟨rfl, HBw2.out⟩
  subst hm2
  rw [if_neg (by decide)] at hV
  have hsts : st = 3 ∨ st = 4 ∨ st = 2 ∨ (st ≠ 3 ∧ st ≠ 4 ∧ st ≠ 2) := by omega
  unfold vbW at hV
  cases some
  · simp only [Bool.false_eq_true, if_false] at hV
    rw [if_neg (by decide), if_neg (by decide), if_neg (by decide)] at hV
    cases sb
    · cases reads
      · cases ls
        · simp at hV
          subst hV
          go_enter Try.func34, Try.ntmps34
          go_wp2_with fail
          refine (HST.out _ ((HR0.out.alloc (by simp; omega) _).alloc (by simp; omega) _) (by simp; omega)).mono ?_
          rintro e w1 ⟨rfl, hb⟩
          obtain ⟨hcw1, hfw1⟩ := bcell hb
          have HBw1 : Hid (Below w.heap.size w w1) := Below.go (by go_grown) hb (by go_size)
          have hzw10 : w.heap.size < w1.heap.size := by have := hb.size; (try simp at this); omega
          have hzw11 : w.heap.size + 1 < w1.heap.size := by have := hb.size; (try simp at this); omega
          have hzw12 : w.heap.size + 1 + 1 < w1.heap.size := by have := hb.size; (try simp at this); omega
          clear hb
          go_wp2_with fail
          refine (HM.out _).mono ?_
          rintro e w2 ⟨rfl, hb⟩
          obtain ⟨hcw2, hfw2⟩ := bcell hb
          have HBw2 : Hid (Below w.heap.size w w2) := Below.go (by have hpre := HBw1.out; have hps := hpre.size; go_grown) hb (by have hpre := HBw1.out; have hps := hpre.size; go_size)
          have hzw20 : w.heap.size < w2.heap.size := by have := hb.size; (try simp at this); omega
          have hzw21 : w.heap.size + 1 < w2.heap.size := by have := hb.size; (try simp at this); omega
          have hzw22 : w.heap.size + 1 + 1 < w2.heap.size := by have := hb.size; (try simp at this); omega
          have HEw2 := Lib.hid hb
          clear hb
          go_wp2_with fail
          refine (HO.out _).mono ?_
          rintro e w3 ⟨rfl, hb⟩
          obtain ⟨hcw3, hfw3⟩ := bcell hb
          have HBw3 : Hid (Below w.heap.size w w3) := Below.go (by have hpre := HBw2.out; have hps := hpre.size; go_grown) hb (by have hpre := HBw2.out; have hps := hpre.size; go_size)
          have HEw3 := Lib.hid hb
          clear hb
          go_wp2
          go_ret2
          exact ⟨rfl, HBw3.out⟩
        · simp at hV
          subst hV
          go_enter Try.func34, Try.ntmps34
          go_wp2_with fail
          refine (HST.out _ ((HR0.out.alloc (by simp; omega) _).alloc (by simp; omega) _) (by simp; omega)).mono ?_
          rintro e w1 ⟨rfl, hb⟩
          obtain ⟨hcw1, hfw1⟩ := bcell hb
          have HBw1 : Hid (Below w.heap.size w w1) := Below.go (by go_grown) hb (by go_size)
          have hzw10 : w.heap.size < w1.heap.size := by have := hb.size; (try simp at this); omega
          have hzw11 : w.heap.size + 1 < w1.heap.size := by have := hb.size; (try simp at this); omega
          have hzw12 : w.heap.size + 1 + 1 < w1.heap.size := by have := hb.size; (try simp at this); omega
          clear hb
          go_wp2_with fail
          refine (HM.out _).mono ?_
          rintro e w2 ⟨rfl, hb⟩
          obtain ⟨hcw2, hfw2⟩ := bcell hb
          have HBw2 : Hid (Below w.heap.size w w2) := Below.go (by have hpre := HBw1.out; have hps := hpre.size; go_grown) hb (by have hpre := HBw1.out; have hps := hpre.size; go_size)
          have hzw20 : w.heap.size < w2.heap.size := by have := hb.size; (try simp at this); omega
          have hzw21 : w.heap.size + 1 < w2.heap.size := by have := hb.size; (try simp at this); omega
          have hzw22 : w.heap.size + 1 + 1 < w2.heap.size := by have := hb.size; (try simp at this); omega
          have HEw2 := Lib.hid hb
          clear hb
          go_wp2_with fail
          refine (HO.out _).mono ?_
          rintro e w3 ⟨rfl, hb⟩
          obtain ⟨hcw3, hfw3⟩ := bcell hb
          have HBw3 : Hid (Below w.heap.size w w3) := Below.go (by have hpre := HBw2.out; have hps := hpre.size; go_grown) hb (by have hpre := HBw2.out; have hps := hpre.size; go_size)
          have HEw3 := Lib.hid hb
          clear hb
          go_wp2
          go_ret2
          exact ⟨rfl, HBw3.out⟩
      · simp at hV
        subst hV
        go_enter Try.func34, Try.ntmps34
        go_wp2_with fail
        refine (HST.out _ ((HR0.out.alloc (by simp; omega) _).alloc (by simp; omega) _) (by simp; omega)).mono ?_
        rintro e w1 ⟨rfl, hb⟩
        obtain ⟨hcw1, hfw1⟩ := bcell hb
        have HBw1 : Hid (Below w.heap.size w w1) := Below.go (by go_grown) hb (by go_size)
        have hzw10 : w.heap.size < w1.heap.size := by have := hb.size; (try simp at this); omega
        have hzw11 : w.heap.size + 1 < w1.heap.size := by have := hb.size; (try simp at this); omega
        have hzw12 : w.heap.size + 1 + 1 < w1.heap.size := by have := hb.size; (try simp at this); omega
        clear hb
        go_wp2_with fail
        refine (HM.out _).mono ?_
        rintro e w2 ⟨rfl, hb⟩
        obtain ⟨hcw2, hfw2⟩ := bcell hb
        have HBw2 : Hid (Below w.heap.size w w2) := Below.go (by have hpre := HBw1.out; have hps := hpre.size; go_grown) hb (by have hpre := HBw1.out; have hps := hpre.size; go_size)
        have hzw20 : w.heap.size < w2.heap.size := by have := hb.size; (try simp at this); omega
        have hzw21 : w.heap.size + 1 < w2.heap.size := by have := hb.size; (try simp at this); omega
        have hzw22 : w.heap.size + 1 + 1 < w2.heap.size := by have := hb.size; (try simp at this); omega
        have HEw2 := Lib.hid hb
        clear hb
        go_wp2
        go_ret2
        exact ⟨rfl, HBw2.out⟩
    · simp at hV
      subst hV
      go_enter Try.func34, Try.ntmps34
      go_wp2_with fail
      refine (HST.out _ ((HR0.out.alloc (by simp; omega) _).alloc (by simp; omega) _) (by simp; omega)).mono ?_
      rintro e w1 ⟨rfl, hb⟩
      obtain ⟨hcw1, hfw1⟩ := bcell hb
      have HBw1 : Hid (Below w.heap.size w w1) := Below.go (by go_grown) hb (by go_size)
      have hzw10 : w.heap.size < w1.heap.size := by have := hb.size; (try simp at this); omega
      have hzw11 : w.heap.size + 1 < w1.heap.size := by have := hb.size; (try simp at this); omega
      have hzw12 : w.heap.size + 1 + 1 < w1.heap.size := by have := hb.size; (try simp at this); omega
      clear hb
      go_wp2_with fail
      refine (HM.out _).mono ?_
      rintro e w2 ⟨rfl, hb⟩
      obtain ⟨hcw2, hfw2⟩ := bcell hb
      have HBw2 : Hid (Below w.heap.size w w2) := Below.go (by have hpre := HBw1.out; have hps := hpre.size; go_grown) hb (by have hpre := HBw1.out; have hps := hpre.size; go_size)
      have hzw20 : w.heap.size < w2.heap.size := by have := hb.size; (try simp at this); omega
      have hzw21 : w.heap.size + 1 < w2.heap.size := by have := hb.size; (try simp at this); omega
      have hzw22 : w.heap.size + 1 + 1 < w2.heap.size := by have := hb.size; (try simp at this); omega
      have HEw2 := Lib.hid hb
      clear hb
      go_wp2
      go_ret2
      exact ⟨rfl, HBw2.out⟩
  · simp only [if_true] at hV
    rcases hsts with rfl | rfl | rfl | ⟨h3, h4, h2⟩
    · simp at hV
      subst hV
      go_enter Try.func34, Try.ntmps34
      go_wp2_with fail
      refine (HST.out _ ((HR0.out.alloc (by simp; omega) _).alloc (by simp; omega) _) (by simp; omega)).mono ?_
      rintro e w1 ⟨rfl, hb⟩
      obtain ⟨hcw1, hfw1⟩ := bcell hb
      have HBw1 : Hid (Below w.heap.size w w1) := Below.go (by go_grown) hb (by go_size)
      have hzw10 : w.heap.size < w1.heap.size := by have := hb.size; (try simp at this); omega
      have hzw11 : w.heap.size + 1 < w1.heap.size := by have := hb.size; (try simp at this); omega
      have hzw12 : w.heap.size + 1 + 1 < w1.heap.size := by have := hb.size; (try simp at this); omega
      clear hb
      go_wp2_with fail
      refine (HM.out _).mono ?_
      rintro e w2 ⟨rfl, hb⟩
      obtain ⟨hcw2, hfw2⟩ := bcell hb
      have HBw2 : Hid (Below w.heap.size w w2) := Below.go (by have hpre := HBw1.out; have hps := hpre.size; go_grown) hb (by have hpre := HBw1.out; have hps := hpre.size; go_size)
      have hzw20 : w.heap.size < w2.heap.size := by have := hb.size; (try simp at this); omega
      have hzw21 : w.heap.size + 1 < w2.heap.size := by have := hb.size; (try simp at this); omega
      have hzw22 : w.heap.size + 1 + 1 < w2.heap.size := by have := hb.size; (try simp at this); omega
      have HEw2 := Lib.hid hb
      clear hb
      go_wp2
      go_ret2
      exact ⟨rfl, HBw2.out⟩
    · simp at hV
      subst hV
      go_enter Try.func34, Try.ntmps34
      go_wp2_with fail
      refine (HST.out _ ((HR0.out.alloc (by simp; omega) _).alloc (by simp; omega) _) (by simp; omega)).mono ?_
      rintro e w1 ⟨rfl, hb⟩
      obtain ⟨hcw1, hfw1⟩ := bcell hb
      have HBw1 : Hid (Below w.heap.size w w1) := Below.go (by go_grown) hb (by go_size)
      have hzw10 : w.heap.size < w1.heap.size := by have := hb.size; (try simp at this); omega
      have hzw11 : w.heap.size + 1 < w1.heap.size := by have := hb.size; (try simp at this); omega
      have hzw12 : w.heap.size + 1 + 1 < w1.heap.size := by have := hb.size; (try simp at this); omega
      clear hb
      go_wp2_with fail
      refine (HM.out _).mono ?_
      rintro e w2 ⟨rfl, hb⟩
      obtain ⟨hcw2, hfw2⟩ := bcell hb
      have HBw2 : Hid (Below w.heap.size w w2) := Below.go (by have hpre := HBw1.out; have hps := hpre.size; go_grown) hb (by have hpre := HBw1.out; have hps := hpre.size; go_size)
      have hzw20 : w.heap.size < w2.heap.size := by have := hb.size; (try simp at this); omega
      have hzw21 : w.heap.size + 1 < w2.heap.size := by have := hb.size; (try simp at this); omega
      have hzw22 : w.heap.size + 1 + 1 < w2.heap.size := by have := hb.size; (try simp at this); omega
      have HEw2 := Lib.hid hb
      clear hb
      go_wp2
      go_ret2
      exact ⟨rfl, HBw2.out⟩
    · cases sb
      · simp at hV
        subst hV
        go_enter Try.func34, Try.ntmps34
        go_wp2_with fail
        refine (HST.out _ ((HR0.out.alloc (by simp; omega) _).alloc (by simp; omega) _) (by simp; omega)).mono ?_
        rintro e w1 ⟨rfl, hb⟩
        obtain ⟨hcw1, hfw1⟩ := bcell hb
        have HBw1 : Hid (Below w.heap.size w w1) := Below.go (by go_grown) hb (by go_size)
        have hzw10 : w.heap.size < w1.heap.size := by have := hb.size; (try simp at this); omega
        have hzw11 : w.heap.size + 1 < w1.heap.size := by have := hb.size; (try simp at this); omega
        have hzw12 : w.heap.size + 1 + 1 < w1.heap.size := by have := hb.size; (try simp at this); omega
        clear hb
        go_wp2_with fail
        refine (HM.out _).mono ?_
        rintro e w2 ⟨rfl, hb⟩
        obtain ⟨hcw2, hfw2⟩ := bcell hb
        have HBw2 : Hid (Below w.heap.size w w2) := Below.go (by have hpre := HBw1.out; have hps := hpre.size; go_grown) hb (by have hpre := HBw1.out; have hps := hpre.size; go_size)
        have hzw20 : w.heap.size < w2.heap.size := by have := hb.size; (try simp at this); omega
        have hzw21 : w.heap.size + 1 < w2.heap.size := by have := hb.size; (try simp at this); omega
        have hzw22 : w.heap.size + 1 + 1 < w2.heap.size := by have := hb.size; (try simp at this); omega
        have HEw2 := Lib.hid hb
        clear hb
        go_wp2
        go_ret2
        exact ⟨rfl, HBw2.out⟩
      · simp at hV
        subst hV
        go_enter Try.func34, Try.ntmps34
        go_wp2_with fail
        refine (HST.out _ ((HR0.out.alloc (by simp; omega) _).alloc (by simp; omega) _) (by simp; omega)).mono ?_
        rintro e w1 ⟨rfl, hb⟩
        obtain ⟨hcw1, hfw1⟩ := bcell hb
        have HBw1 : Hid (Below w.heap.size w w1) := Below.go (by go_grown) hb (by go_size)
        have hzw10 : w.heap.size < w1.heap.size := by have := hb.size; (try simp at this); omega
        have hzw11 : w.heap.size + 1 < w1.heap.size := by have := hb.size; (try simp at this); omega
        have hzw12 : w.heap.size + 1 + 1 < w1.heap.size := by have := hb.size; (try simp at this); omega
        clear hb
        go_wp2_with fail
        refine (HM.out _).mono ?_
        rintro e w2 ⟨rfl, hb⟩
        obtain ⟨hcw2, hfw2⟩ := bcell hb
        have HBw2 : Hid (Below w.heap.size w w2) := Below.go (by have hpre := HBw1.out; have hps := hpre.size; go_grown) hb (by have hpre := HBw1.out; have hps := hpre.size; go_size)
        have hzw20 : w.heap.size < w2.heap.size := by have := hb.size; (try simp at this); omega
        have hzw21 : w.heap.size + 1 < w2.heap.size := by have := hb.size; (try simp at this); omega
        have hzw22 : w.heap.size + 1 + 1 < w2.heap.size := by have := hb.size; (try simp at this); omega
        have HEw2 := Lib.hid hb
        clear hb
        go_wp2
        go_ret2
        exact ⟨rfl, HBw2.out⟩
    · rw [if_neg h3, if_neg h4, if_neg h2] at hV
      have z3 : (st == 3) = false := by simpa using h3
      have z4 : (st == 4) = false := by simpa using h4
      have z2 : (st == 2) = false := by simpa using h2
      cases sb
      · cases reads
        · cases ls
          · simp at hV
            subst hV
            go_enter Try.func34, Try.ntmps34
            go_wp2_with fail
            refine (HST.out _ ((HR0.out.alloc (by simp; omega) _).alloc (by simp; omega) _) (by simp; omega)).mono ?_
            rintro e w1 ⟨rfl, hb⟩
            obtain ⟨hcw1, hfw1⟩ := bcell hb
            have HBw1 : Hid (Below w.heap.size w w1) := Below.go (by go_grown) hb (by go_size)
            have hzw10 : w.heap.size < w1.heap.size := by have := hb.size; (try simp at this); omega
            have hzw11 : w.heap.size + 1 < w1.heap.size := by have := hb.size; (try simp at this); omega
            have hzw12 : w.heap.size + 1 + 1 < w1.heap.size := by have := hb.size; (try simp at this); omega
            clear hb
            go_wp2_with fail
            refine (HM.out _).mono ?_
            rintro e w2 ⟨rfl, hb⟩
            obtain ⟨hcw2, hfw2⟩ := bcell hb
            have HBw2 : Hid (Below w.heap.size w w2) := Below.go (by have hpre := HBw1.out; have hps := hpre.size; go_grown) hb (by have hpre := HBw1.out; have hps := hpre.size; go_size)
            have hzw20 : w.heap.size < w2.heap.size := by have := hb.size; (try simp at this); omega
            have hzw21 : w.heap.size + 1 < w2.heap.size := by have := hb.size; (try simp at this); omega
            have hzw22 : w.heap.size + 1 + 1 < w2.heap.size := by have := hb.size; (try simp at this); omega
            have HEw2 := Lib.hid hb
            clear hb
            go_wp2_with fail
            refine (HO.out _).mono ?_
            rintro e w3 ⟨rfl, hb⟩
            obtain ⟨hcw3, hfw3⟩ := bcell hb
            have HBw3 : Hid (Below w.heap.size w w3) := Below.go (by have hpre := HBw2.out; have hps := hpre.size; go_grown) hb (by have hpre := HBw2.out; have hps := hpre.size; go_size)
            have HEw3 := Lib.hid hb
            clear hb
            go_wp2
            go_ret2
            exact ⟨rfl, HBw3.out⟩
          · simp at hV
            subst hV
            go_enter Try.func34, Try.ntmps34
            go_wp2_with fail
            refine (HST.out _ ((HR0.out.alloc (by simp; omega) _).alloc (by simp; omega) _) (by simp; omega)).mono ?_
            rintro e w1 ⟨rfl, hb⟩
            obtain ⟨hcw1, hfw1⟩ := bcell hb
            have HBw1 : Hid (Below w.heap.size w w1) := Below.go (by go_grown) hb (by go_size)
            have hzw10 : w.heap.size < w1.heap.size := by have := hb.size; (try simp at this); omega
            have hzw11 : w.heap.size + 1 < w1.heap.size := by have := hb.size; (try simp at this); omega
            have hzw12 : w.heap.size + 1 + 1 < w1.heap.size := by have := hb.size; (try simp at this); omega
            clear hb
            go_wp2_with fail
            refine (HM.out _).mono ?_
            rintro e w2 ⟨rfl, hb⟩
            obtain ⟨hcw2, hfw2⟩ := bcell hb
            have HBw2 : Hid (Below w.heap.size w w2) := Below.go (by have hpre := HBw1.out; have hps := hpre.size; go_grown) hb (by have hpre := HBw1.out; have hps := hpre.size; go_size)
            have hzw20 : w.heap.size < w2.heap.size := by have := hb.size; (try simp at this); omega
            have hzw21 : w.heap.size + 1 < w2.heap.size := by have := hb.size; (try simp at this); omega
            have hzw22 : w.heap.size + 1 + 1 < w2.heap.size := by have := hb.size; (try simp at this); omega
            have HEw2 := Lib.hid hb
            clear hb
            go_wp2_with fail
            refine (HO.out _).mono ?_
            rintro e w3 ⟨rfl, hb⟩
            obtain ⟨hcw3, hfw3⟩ := bcell hb
            have HBw3 : Hid (Below w.heap.size w w3) := Below.go (by have hpre := HBw2.out; have hps := hpre.size; go_grown) hb (by have hpre := HBw2.out; have hps := hpre.size; go_size)
            have HEw3 := Lib.hid hb
            clear hb
            go_wp2
            go_ret2
            exact ⟨rfl, HBw3.out⟩
        · simp at hV
          subst hV
          go_enter Try.func34, Try.ntmps34
          go_wp2_with fail
          refine (HST.out _ ((HR0.out.alloc (by simp; omega) _).alloc (by simp; omega) _) (by simp; omega)).mono ?_
          rintro e w1 ⟨rfl, hb⟩
          obtain ⟨hcw1, hfw1⟩ := bcell hb
          have HBw1 : Hid (Below w.heap.size w w1) := Below.go (by go_grown) hb (by go_size)
          have hzw10 : w.heap.size < w1.heap.size := by have := hb.size; (try simp at this); omega
          have hzw11 : w.heap.size + 1 < w1.heap.size := by have := hb.size; (try simp at this); omega
          have hzw12 : w.heap.size + 1 + 1 < w1.heap.size := by have := hb.size; (try simp at this); omega
          clear hb
          go_wp2_with fail
          refine (HM.out _).mono ?_
          rintro e w2 ⟨rfl, hb⟩
          obtain ⟨hcw2, hfw2⟩ := bcell hb
          have HBw2 : Hid (Below w.heap.size w w2) := Below.go (by have hpre := HBw1.out; have hps := hpre.size; go_grown) hb (by have hpre := HBw1.out; have hps := hpre.size; go_size)
          have hzw20 : w.heap.size < w2.heap.size := by have := hb.size; (try simp at this); omega
          have hzw21 : w.heap.size + 1 < w2.heap.size := by have := hb.size; (try simp at this); omega
          have hzw22 : w.heap.size + 1 + 1 < w2.heap.size := by have := hb.size; (try simp at this); omega
          have HEw2 := Lib.hid hb
          clear hb
          go_wp2
          go_ret2
          exact ⟨rfl, HBw2.out⟩
      · simp at hV
        subst hV
        go_enter Try.func34, Try.ntmps34
        go_wp2_with fail
        refine (HST.out _ ((HR0.out.alloc (by simp; omega) _).alloc (by simp; omega) _) (by simp; omega)).mono ?_
        rintro e w1 ⟨rfl, hb⟩
        obtain ⟨hcw1, hfw1⟩ := bcell hb
        have HBw1 : Hid (Below w.heap.size w w1) := Below.go (by go_grown) hb (by go_size)
        have hzw10 : w.heap.size < w1.heap.size := by have := hb.size; (try simp at this); omega
        have hzw11 : w.heap.size + 1 < w1.heap.size := by have := hb.size; (try simp at this); omega
        have hzw12 : w.heap.size + 1 + 1 < w1.heap.size := by have := hb.size; (try simp at this); omega
        clear hb
        go_wp2_with fail
        refine (HM.out _).mono ?_
        rintro e w2 ⟨rfl, hb⟩
        obtain ⟨hcw2, hfw2⟩ := bcell hb
        have HBw2 : Hid (Below w.heap.size w w2) := Below.go (by have hpre := HBw1.out; have hps := hpre.size; go_grown) hb (by have hpre := HBw1.out; have hps := hpre.size; go_size)
        have hzw20 : w.heap.size < w2.heap.size := by have := hb.size; (try simp at this); omega
        have hzw21 : w.heap.size + 1 < w2.heap.size := by have := hb.size; (try simp at this); omega
        have hzw22 : w.heap.size + 1 + 1 < w2.heap.size := by have := hb.size; (try simp at this); omega
        have HEw2 := Lib.hid hb
        clear hb
        go_wp2
        go_ret2
        exact ⟨rfl, HBw2.out⟩

set_option maxHeartbeats 3200000 in
theorem rverb_any (r : Rec) (hl : r.l.length = r.n) (B : Nat) (some reads : Bool) (m g : Stp) (now ex : Int) (w : World) (hr : Rd w B r.A (sv r.l)) (hB : B ≤ w.heap.size) :
    Calls Try.prog 37 #[r.v, .bool some, .bool reads, stv m, stv g, .int .i64 now, .int .i64 ex] w fun e w' => e = .returned (.tuple #[.int .i64 (vbV r some reads m g now ex), .int .i64 (vbE r some m g now ex)]) ∧ Below w.heap.size w w' := by
  have hst := fun W (h : Rd W B r.A (sv r.l)) h2 => rstale_any r hl B some g now ex W h h2
  have hE : vbE r some m g now ex = if stE r some g now ex ≠ 0 then stE r some g now ex else chk m := rfl
  have hV : vbV r some reads m g now ex = if vbE r some m g now ex ≠ 0 then 0 else vbW (vbS r some) (stB r some g now ex) reads (less m g) := rfl
  have ho := fun W => rorder_any m g W
  generalize vbV r some reads m g now ex = v at *
  generalize vbE r some m g now ex = e at *
  generalize stE r some g now ex = se at *
  generalize stB r some g now ex = sb at *
  generalize less m g = ls at *
  have hm := fun W => rcheck_any m W
  have hm2 : chk m = 0 ∨ chk m = 2 := by unfold chk; split; exact .inl rfl; exact .inr rfl
  generalize chk m = cm at *
  obtain ⟨nd, nu, st, ⟨aw, al, ag⟩, A, n, c, l, beat, ⟨pw, pl, pg⟩⟩ := r
  obtain ⟨gw, gl, gg⟩ := g
  obtain ⟨mw, ml, mg⟩ := m
  unfold Rec.v stv at *
  unfold vbS at hV
  simp only at hr hst hm ho hl hV ⊢
  have HST := Lib.hid hst; have HM := Lib.hid hm; have HO := Lib.hid ho
  have HR0 : Hid (Rd (w.alloc (.cells #[.int .i32 nd, .int .i32 nu, .int .u8 st, .int .i64 aw, .int .i32 al, .int .i32 ag, .slice A n c, .int .i64 beat, .int .i64 pw, .int .i32 pl, .int .i32 pg] 57)) B A (sv l)) := hr.alloc hB _
  clear hst hm ho hr hl
  by_cases hse : se = 0
  case neg =>
    rw [if_pos hse] at hE
    subst hE
    rw [if_pos hse] at hV
    subst hV
    have hne : (e == 0) = false := by simpa using hse
    have hne2 : (e != 0) = true := by rw [bne, hne]; rfl
    go_enter Try.func37, Try.ntmps37
    go_wp2_with fail
    refine (HST.out _ ((HR0.out.alloc (by simp; omega) _).alloc (by simp; omega) _) (by simp; omega)).mono ?_
    rintro e w1 ⟨rfl, hb⟩
    obtain ⟨hcw1, hfw1⟩ := bcell hb
    have HBw1 : Hid (Below w.heap.size w w1) := Below.go (by go_grown) hb (by go_size)
    have hzw10 : w.heap.size < w1.heap.size := by have := hb.size; (try simp at this); omega
    have hzw11 : w.heap.size + 1 < w1.heap.size := by have := hb.size; (try simp at this); omega
    have hzw12 : w.heap.size + 1 + 1 < w1.heap.size := by have := hb.size; (try simp at this); omega
    clear hb
    go_wp2
    go_ret2
    exact ⟨rfl, HBw1.out⟩
  rw [if_neg (fun h => h hse)] at hE
  subst hse hE
  rcases hm2 with hm2 | hm2
  case inr =>
    subst hm2
    rw [if_pos (by decide)] at hV
    subst hV
    go_enter Try.func37, Try.ntmps37
    go_wp2_with fail
    refine (HST.out _ ((HR0.out.alloc (by simp; omega) _).alloc (by simp; omega) _) (by simp; omega)).mono ?_
    rintro e w1 ⟨rfl, hb⟩
    obtain ⟨hcw1, hfw1⟩ := bcell hb
    have HBw1 : Hid (Below w.heap.size w w1) := Below.go (by go_grown) hb (by go_size)
    have hzw10 : w.heap.size < w1.heap.size := by have := hb.size; (try simp at this); omega
    have hzw11 : w.heap.size + 1 < w1.heap.size := by have := hb.size; (try simp at this); omega
    have hzw12 : w.heap.size + 1 + 1 < w1.heap.size := by have := hb.size; (try simp at this); omega
    clear hb
    go_wp2_with fail
    refine (HM.out _).mono ?_
    rintro e w2 ⟨rfl, hb⟩
    obtain ⟨hcw2, hfw2⟩ := bcell hb
    have HBw2 : Hid (Below w.heap.size w w2) := Below.go (by have hpre := HBw1.out; have hps := hpre.size; go_grown) hb (by have hpre := HBw1.out; have hps := hpre.size; go_size)
    have hzw20 : w.heap.size < w2.heap.size := by have := hb.size; (try simp at this); omega
    have hzw21 : w.heap.size + 1 < w2.heap.size := by have := hb.size; (try simp at this); omega
    have hzw22 : w.heap.size + 1 + 1 < w2.heap.size := by have := hb.size; (try simp at this); omega
    have HEw2 := Lib.hid hb
    clear hb
    go_wp2
    go_ret2
    exact ⟨rfl, HBw2.out⟩
  subst hm2
  rw [if_neg (by decide)] at hV
  have hsts : st = 3 ∨ st = 4 ∨ st = 2 ∨ (st ≠ 3 ∧ st ≠ 4 ∧ st ≠ 2) := by omega
  unfold vbW at hV
  cases some
  · simp only [Bool.false_eq_true, if_false] at hV
    rw [if_neg (by decide), if_neg (by decide), if_neg (by decide)] at hV
    cases sb
    · cases reads
      · cases ls
        · simp at hV
          subst hV
          go_enter Try.func37, Try.ntmps37
          go_wp2_with fail
          refine (HST.out _ ((HR0.out.alloc (by simp; omega) _).alloc (by simp; omega) _) (by simp; omega)).mono ?_
          rintro e w1 ⟨rfl, hb⟩
          obtain ⟨hcw1, hfw1⟩ := bcell hb
          have HBw1 : Hid (Below w.heap.size w w1) := Below.go (by go_grown) hb (by go_size)
          have hzw10 : w.heap.size < w1.heap.size := by have := hb.size; (try simp at this); omega
          have hzw11 : w.heap.size + 1 < w1.heap.size := by have := hb.size; (try simp at this); omega
          have hzw12 : w.heap.size + 1 + 1 < w1.heap.size := by have := hb.size; (try simp at this); omega
          clear hb
          go_wp2_with fail
          refine (HM.out _).mono ?_
          rintro e w2 ⟨rfl, hb⟩
          obtain ⟨hcw2, hfw2⟩ := bcell hb
          have HBw2 : Hid (Below w.heap.size w w2) := Below.go (by have hpre := HBw1.out; have hps := hpre.size; go_grown) hb (by have hpre := HBw1.out; have hps := hpre.size; go_size)
          have hzw20 : w.heap.size < w2.heap.size := by have := hb.size; (try simp at this); omega
          have hzw21 : w.heap.size + 1 < w2.heap.size := by have := hb.size; (try simp at this); omega
          have hzw22 : w.heap.size + 1 + 1 < w2.heap.size := by have := hb.size; (try simp at this); omega
          have HEw2 := Lib.hid hb
          clear hb
          go_wp2_with fail
          refine (HO.out _).mono ?_
          rintro e w3 ⟨rfl, hb⟩
          obtain ⟨hcw3, hfw3⟩ := bcell hb
          have HBw3 : Hid (Below w.heap.size w w3) := Below.go (by have hpre := HBw2.out; have hps := hpre.size; go_grown) hb (by have hpre := HBw2.out; have hps := hpre.size; go_size)
          have HEw3 := Lib.hid hb
          clear hb
          go_wp2
          go_ret2
          exact ⟨rfl, HBw3.out⟩
        · simp at hV
          subst hV
          go_enter Try.func37, Try.ntmps37
          go_wp2_with fail
          refine (HST.out _ ((HR0.out.alloc (by simp; omega) _).alloc (by simp; omega) _) (by simp; omega)).mono ?_
          rintro e w1 ⟨rfl, hb⟩
          obtain ⟨hcw1, hfw1⟩ := bcell hb
          have HBw1 : Hid (Below w.heap.size w w1) := Below.go (by go_grown) hb (by go_size)
          have hzw10 : w.heap.size < w1.heap.size := by have := hb.size; (try simp at this); omega
          have hzw11 : w.heap.size + 1 < w1.heap.size := by have := hb.size; (try simp at this); omega
          have hzw12 : w.heap.size + 1 + 1 < w1.heap.size := by have := hb.size; (try simp at this); omega
          clear hb
          go_wp2_with fail
          refine (HM.out _).mono ?_
          rintro e w2 ⟨rfl, hb⟩
          obtain ⟨hcw2, hfw2⟩ := bcell hb
          have HBw2 : Hid (Below w.heap.size w w2) := Below.go (by have hpre := HBw1.out; have hps := hpre.size; go_grown) hb (by have hpre := HBw1.out; have hps := hpre.size; go_size)
          have hzw20 : w.heap.size < w2.heap.size := by have := hb.size; (try simp at this); omega
          have hzw21 : w.heap.size + 1 < w2.heap.size := by have := hb.size; (try simp at this); omega
          have hzw22 : w.heap.size + 1 + 1 < w2.heap.size := by have := hb.size; (try simp at this); omega
          have HEw2 := Lib.hid hb
          clear hb
          go_wp2_with fail
          refine (HO.out _).mono ?_
          rintro e w3 ⟨rfl, hb⟩
          obtain ⟨hcw3, hfw3⟩ := bcell hb
          have HBw3 : Hid (Below w.heap.size w w3) := Below.go (by have hpre := HBw2.out; have hps := hpre.size; go_grown) hb (by have hpre := HBw2.out; have hps := hpre.size; go_size)
          have HEw3 := Lib.hid hb
          clear hb
          go_wp2
          go_ret2
          exact ⟨rfl, HBw3.out⟩
      · simp at hV
        subst hV
        go_enter Try.func37, Try.ntmps37
        go_wp2_with fail
        refine (HST.out _ ((HR0.out.alloc (by simp; omega) _).alloc (by simp; omega) _) (by simp; omega)).mono ?_
        rintro e w1 ⟨rfl, hb⟩
        obtain ⟨hcw1, hfw1⟩ := bcell hb
        have HBw1 : Hid (Below w.heap.size w w1) := Below.go (by go_grown) hb (by go_size)
        have hzw10 : w.heap.size < w1.heap.size := by have := hb.size; (try simp at this); omega
        have hzw11 : w.heap.size + 1 < w1.heap.size := by have := hb.size; (try simp at this); omega
        have hzw12 : w.heap.size + 1 + 1 < w1.heap.size := by have := hb.size; (try simp at this); omega
        clear hb
        go_wp2_with fail
        refine (HM.out _).mono ?_
        rintro e w2 ⟨rfl, hb⟩
        obtain ⟨hcw2, hfw2⟩ := bcell hb
        have HBw2 : Hid (Below w.heap.size w w2) := Below.go (by have hpre := HBw1.out; have hps := hpre.size; go_grown) hb (by have hpre := HBw1.out; have hps := hpre.size; go_size)
        have hzw20 : w.heap.size < w2.heap.size := by have := hb.size; (try simp at this); omega
        have hzw21 : w.heap.size + 1 < w2.heap.size := by have := hb.size; (try simp at this); omega
        have hzw22 : w.heap.size + 1 + 1 < w2.heap.size := by have := hb.size; (try simp at this); omega
        have HEw2 := Lib.hid hb
        clear hb
        go_wp2
        go_ret2
        exact ⟨rfl, HBw2.out⟩
    · simp at hV
      subst hV
      go_enter Try.func37, Try.ntmps37
      go_wp2_with fail
      refine (HST.out _ ((HR0.out.alloc (by simp; omega) _).alloc (by simp; omega) _) (by simp; omega)).mono ?_
      rintro e w1 ⟨rfl, hb⟩
      obtain ⟨hcw1, hfw1⟩ := bcell hb
      have HBw1 : Hid (Below w.heap.size w w1) := Below.go (by go_grown) hb (by go_size)
      have hzw10 : w.heap.size < w1.heap.size := by have := hb.size; (try simp at this); omega
      have hzw11 : w.heap.size + 1 < w1.heap.size := by have := hb.size; (try simp at this); omega
      have hzw12 : w.heap.size + 1 + 1 < w1.heap.size := by have := hb.size; (try simp at this); omega
      clear hb
      go_wp2_with fail
      refine (HM.out _).mono ?_
      rintro e w2 ⟨rfl, hb⟩
      obtain ⟨hcw2, hfw2⟩ := bcell hb
      have HBw2 : Hid (Below w.heap.size w w2) := Below.go (by have hpre := HBw1.out; have hps := hpre.size; go_grown) hb (by have hpre := HBw1.out; have hps := hpre.size; go_size)
      have hzw20 : w.heap.size < w2.heap.size := by have := hb.size; (try simp at this); omega
      have hzw21 : w.heap.size + 1 < w2.heap.size := by have := hb.size; (try simp at this); omega
      have hzw22 : w.heap.size + 1 + 1 < w2.heap.size := by have := hb.size; (try simp at this); omega
      have HEw2 := Lib.hid hb
      clear hb
      go_wp2
      go_ret2
      exact ⟨rfl, HBw2.out⟩
  · simp only [if_true] at hV
    rcases hsts with rfl | rfl | rfl | ⟨h3, h4, h2⟩
    · simp at hV
      subst hV
      go_enter Try.func37, Try.ntmps37
      go_wp2_with fail
      refine (HST.out _ ((HR0.out.alloc (by simp; omega) _).alloc (by simp; omega) _) (by simp; omega)).mono ?_
      rintro e w1 ⟨rfl, hb⟩
      obtain ⟨hcw1, hfw1⟩ := bcell hb
      have HBw1 : Hid (Below w.heap.size w w1) := Below.go (by go_grown) hb (by go_size)
      have hzw10 : w.heap.size < w1.heap.size := by have := hb.size; (try simp at this); omega
      have hzw11 : w.heap.size + 1 < w1.heap.size := by have := hb.size; (try simp at this); omega
      have hzw12 : w.heap.size + 1 + 1 < w1.heap.size := by have := hb.size; (try simp at this); omega
      clear hb
      go_wp2_with fail
      refine (HM.out _).mono ?_
      rintro e w2 ⟨rfl, hb⟩
      obtain ⟨hcw2, hfw2⟩ := bcell hb
      have HBw2 : Hid (Below w.heap.size w w2) := Below.go (by have hpre := HBw1.out; have hps := hpre.size; go_grown) hb (by have hpre := HBw1.out; have hps := hpre.size; go_size)
      have hzw20 : w.heap.size < w2.heap.size := by have := hb.size; (try simp at this); omega
      have hzw21 : w.heap.size + 1 < w2.heap.size := by have := hb.size; (try simp at this); omega
      have hzw22 : w.heap.size + 1 + 1 < w2.heap.size := by have := hb.size; (try simp at this); omega
      have HEw2 := Lib.hid hb
      clear hb
      go_wp2
      go_ret2
      exact ⟨rfl, HBw2.out⟩
    · simp at hV
      subst hV
      go_enter Try.func37, Try.ntmps37
      go_wp2_with fail
      refine (HST.out _ ((HR0.out.alloc (by simp; omega) _).alloc (by simp; omega) _) (by simp; omega)).mono ?_
      rintro e w1 ⟨rfl, hb⟩
      obtain ⟨hcw1, hfw1⟩ := bcell hb
      have HBw1 : Hid (Below w.heap.size w w1) := Below.go (by go_grown) hb (by go_size)
      have hzw10 : w.heap.size < w1.heap.size := by have := hb.size; (try simp at this); omega
      have hzw11 : w.heap.size + 1 < w1.heap.size := by have := hb.size; (try simp at this); omega
      have hzw12 : w.heap.size + 1 + 1 < w1.heap.size := by have := hb.size; (try simp at this); omega
      clear hb
      go_wp2_with fail
      refine (HM.out _).mono ?_
      rintro e w2 ⟨rfl, hb⟩
      obtain ⟨hcw2, hfw2⟩ := bcell hb
      have HBw2 : Hid (Below w.heap.size w w2) := Below.go (by have hpre := HBw1.out; have hps := hpre.size; go_grown) hb (by have hpre := HBw1.out; have hps := hpre.size; go_size)
      have hzw20 : w.heap.size < w2.heap.size := by have := hb.size; (try simp at this); omega
      have hzw21 : w.heap.size + 1 < w2.heap.size := by have := hb.size; (try simp at this); omega
      have hzw22 : w.heap.size + 1 + 1 < w2.heap.size := by have := hb.size; (try simp at this); omega
      have HEw2 := Lib.hid hb
      clear hb
      go_wp2
      go_ret2
      exact ⟨rfl, HBw2.out⟩
    · cases sb
      · simp at hV
        subst hV
        go_enter Try.func37, Try.ntmps37
        go_wp2_with fail
        refine (HST.out _ ((HR0.out.alloc (by simp; omega) _).alloc (by simp; omega) _) (by simp; omega)).mono ?_
        rintro e w1 ⟨rfl, hb⟩
        obtain ⟨hcw1, hfw1⟩ := bcell hb
        have HBw1 : Hid (Below w.heap.size w w1) := Below.go (by go_grown) hb (by go_size)
        have hzw10 : w.heap.size < w1.heap.size := by have := hb.size; (try simp at this); omega
        have hzw11 : w.heap.size + 1 < w1.heap.size := by have := hb.size; (try simp at this); omega
        have hzw12 : w.heap.size + 1 + 1 < w1.heap.size := by have := hb.size; (try simp at this); omega
        clear hb
        go_wp2_with fail
        refine (HM.out _).mono ?_
        rintro e w2 ⟨rfl, hb⟩
        obtain ⟨hcw2, hfw2⟩ := bcell hb
        have HBw2 : Hid (Below w.heap.size w w2) := Below.go (by have hpre := HBw1.out; have hps := hpre.size; go_grown) hb (by have hpre := HBw1.out; have hps := hpre.size; go_size)
        have hzw20 : w.heap.size < w2.heap.size := by have := hb.size; (try simp at this); omega
        have hzw21 : w.heap.size + 1 < w2.heap.size := by have := hb.size; (try simp at this); omega
        have hzw22 : w.heap.size + 1 + 1 < w2.heap.size := by have := hb.size; (try simp at this); omega
        have HEw2 := Lib.hid hb
        clear hb
        go_wp2
        go_ret2
        exact ⟨rfl, HBw2.out⟩
      · simp at hV
        subst hV
        go_enter Try.func37, Try.ntmps37
        go_wp2_with fail
        refine (HST.out _ ((HR0.out.alloc (by simp; omega) _).alloc (by simp; omega) _) (by simp; omega)).mono ?_
        rintro e w1 ⟨rfl, hb⟩
        obtain ⟨hcw1, hfw1⟩ := bcell hb
        have HBw1 : Hid (Below w.heap.size w w1) := Below.go (by go_grown) hb (by go_size)
        have hzw10 : w.heap.size < w1.heap.size := by have := hb.size; (try simp at this); omega
        have hzw11 : w.heap.size + 1 < w1.heap.size := by have := hb.size; (try simp at this); omega
        have hzw12 : w.heap.size + 1 + 1 < w1.heap.size := by have := hb.size; (try simp at this); omega
        clear hb
        go_wp2_with fail
        refine (HM.out _).mono ?_
        rintro e w2 ⟨rfl, hb⟩
        obtain ⟨hcw2, hfw2⟩ := bcell hb
        have HBw2 : Hid (Below w.heap.size w w2) := Below.go (by have hpre := HBw1.out; have hps := hpre.size; go_grown) hb (by have hpre := HBw1.out; have hps := hpre.size; go_size)
        have hzw20 : w.heap.size < w2.heap.size := by have := hb.size; (try simp at this); omega
        have hzw21 : w.heap.size + 1 < w2.heap.size := by have := hb.size; (try simp at this); omega
        have hzw22 : w.heap.size + 1 + 1 < w2.heap.size := by have := hb.size; (try simp at this); omega
        have HEw2 := Lib.hid hb
        clear hb
        go_wp2
        go_ret2
        exact ⟨rfl, HBw2.out⟩
    · rw [if_neg h3, if_neg h4, if_neg h2] at hV
      have z3 : (st == 3) = false := by simpa using h3
      have z4 : (st == 4) = false := by simpa using h4
      have z2 : (st == 2) = false := by simpa using h2
      cases sb
      · cases reads
        · cases ls
          · simp at hV
            subst hV
            go_enter Try.func37, Try.ntmps37
            go_wp2_with fail
            refine (HST.out _ ((HR0.out.alloc (by simp; omega) _).alloc (by simp; omega) _) (by simp; omega)).mono ?_
            rintro e w1 ⟨rfl, hb⟩
            obtain ⟨hcw1, hfw1⟩ := bcell hb
            have HBw1 : Hid (Below w.heap.size w w1) := Below.go (by go_grown) hb (by go_size)
            have hzw10 : w.heap.size < w1.heap.size := by have := hb.size; (try simp at this); omega
            have hzw11 : w.heap.size + 1 < w1.heap.size := by have := hb.size; (try simp at this); omega
            have hzw12 : w.heap.size + 1 + 1 < w1.heap.size := by have := hb.size; (try simp at this); omega
            clear hb
            go_wp2_with fail
            refine (HM.out _).mono ?_
            rintro e w2 ⟨rfl, hb⟩
            obtain ⟨hcw2, hfw2⟩ := bcell hb
            have HBw2 : Hid (Below w.heap.size w w2) := Below.go (by have hpre := HBw1.out; have hps := hpre.size; go_grown) hb (by have hpre := HBw1.out; have hps := hpre.size; go_size)
            have hzw20 : w.heap.size < w2.heap.size := by have := hb.size; (try simp at this); omega
            have hzw21 : w.heap.size + 1 < w2.heap.size := by have := hb.size; (try simp at this); omega
            have hzw22 : w.heap.size + 1 + 1 < w2.heap.size := by have := hb.size; (try simp at this); omega
            have HEw2 := Lib.hid hb
            clear hb
            go_wp2_with fail
            refine (HO.out _).mono ?_
            rintro e w3 ⟨rfl, hb⟩
            obtain ⟨hcw3, hfw3⟩ := bcell hb
            have HBw3 : Hid (Below w.heap.size w w3) := Below.go (by have hpre := HBw2.out; have hps := hpre.size; go_grown) hb (by have hpre := HBw2.out; have hps := hpre.size; go_size)
            have HEw3 := Lib.hid hb
            clear hb
            go_wp2
            go_ret2
            exact ⟨rfl, HBw3.out⟩
          · simp at hV
            subst hV
            go_enter Try.func37, Try.ntmps37
            go_wp2_with fail
            refine (HST.out _ ((HR0.out.alloc (by simp; omega) _).alloc (by simp; omega) _) (by simp; omega)).mono ?_
            rintro e w1 ⟨rfl, hb⟩
            obtain ⟨hcw1, hfw1⟩ := bcell hb
            have HBw1 : Hid (Below w.heap.size w w1) := Below.go (by go_grown) hb (by go_size)
            have hzw10 : w.heap.size < w1.heap.size := by have := hb.size; (try simp at this); omega
            have hzw11 : w.heap.size + 1 < w1.heap.size := by have := hb.size; (try simp at this); omega
            have hzw12 : w.heap.size + 1 + 1 < w1.heap.size := by have := hb.size; (try simp at this); omega
            clear hb
            go_wp2_with fail
            refine (HM.out _).mono ?_
            rintro e w2 ⟨rfl, hb⟩
            obtain ⟨hcw2, hfw2⟩ := bcell hb
            have HBw2 : Hid (Below w.heap.size w w2) := Below.go (by have hpre := HBw1.out; have hps := hpre.size; go_grown) hb (by have hpre := HBw1.out; have hps := hpre.size; go_size)
            have hzw20 : w.heap.size < w2.heap.size := by have := hb.size; (try simp at this); omega
            have hzw21 : w.heap.size + 1 < w2.heap.size := by have := hb.size; (try simp at this); omega
            have hzw22 : w.heap.size + 1 + 1 < w2.heap.size := by have := hb.size; (try simp at this); omega
            have HEw2 := Lib.hid hb
            clear hb
            go_wp2_with fail
            refine (HO.out _).mono ?_
            rintro e w3 ⟨rfl, hb⟩
            obtain ⟨hcw3, hfw3⟩ := bcell hb
            have HBw3 : Hid (Below w.heap.size w w3) := Below.go (by have hpre := HBw2.out; have hps := hpre.size; go_grown) hb (by have hpre := HBw2.out; have hps := hpre.size; go_size)
            have HEw3 := Lib.hid hb
            clear hb
            go_wp2
            go_ret2
            exact ⟨rfl, HBw3.out⟩
        · simp at hV
          subst hV
          go_enter Try.func37, Try.ntmps37
          go_wp2_with fail
          refine (HST.out _ ((HR0.out.alloc (by simp; omega) _).alloc (by simp; omega) _) (by simp; omega)).mono ?_
          rintro e w1 ⟨rfl, hb⟩
          obtain ⟨hcw1, hfw1⟩ := bcell hb
          have HBw1 : Hid (Below w.heap.size w w1) := Below.go (by go_grown) hb (by go_size)
          have hzw10 : w.heap.size < w1.heap.size := by have := hb.size; (try simp at this); omega
          have hzw11 : w.heap.size + 1 < w1.heap.size := by have := hb.size; (try simp at this); omega
          have hzw12 : w.heap.size + 1 + 1 < w1.heap.size := by have := hb.size; (try simp at this); omega
          clear hb
          go_wp2_with fail
          refine (HM.out _).mono ?_
          rintro e w2 ⟨rfl, hb⟩
          obtain ⟨hcw2, hfw2⟩ := bcell hb
          have HBw2 : Hid (Below w.heap.size w w2) := Below.go (by have hpre := HBw1.out; have hps := hpre.size; go_grown) hb (by have hpre := HBw1.out; have hps := hpre.size; go_size)
          have hzw20 : w.heap.size < w2.heap.size := by have := hb.size; (try simp at this); omega
          have hzw21 : w.heap.size + 1 < w2.heap.size := by have := hb.size; (try simp at this); omega
          have hzw22 : w.heap.size + 1 + 1 < w2.heap.size := by have := hb.size; (try simp at this); omega
          have HEw2 := Lib.hid hb
          clear hb
          go_wp2
          go_ret2
          exact ⟨rfl, HBw2.out⟩
      · simp at hV
        subst hV
        go_enter Try.func37, Try.ntmps37
        go_wp2_with fail
        refine (HST.out _ ((HR0.out.alloc (by simp; omega) _).alloc (by simp; omega) _) (by simp; omega)).mono ?_
        rintro e w1 ⟨rfl, hb⟩
        obtain ⟨hcw1, hfw1⟩ := bcell hb
        have HBw1 : Hid (Below w.heap.size w w1) := Below.go (by go_grown) hb (by go_size)
        have hzw10 : w.heap.size < w1.heap.size := by have := hb.size; (try simp at this); omega
        have hzw11 : w.heap.size + 1 < w1.heap.size := by have := hb.size; (try simp at this); omega
        have hzw12 : w.heap.size + 1 + 1 < w1.heap.size := by have := hb.size; (try simp at this); omega
        clear hb
        go_wp2_with fail
        refine (HM.out _).mono ?_
        rintro e w2 ⟨rfl, hb⟩
        obtain ⟨hcw2, hfw2⟩ := bcell hb
        have HBw2 : Hid (Below w.heap.size w w2) := Below.go (by have hpre := HBw1.out; have hps := hpre.size; go_grown) hb (by have hpre := HBw1.out; have hps := hpre.size; go_size)
        have hzw20 : w.heap.size < w2.heap.size := by have := hb.size; (try simp at this); omega
        have hzw21 : w.heap.size + 1 < w2.heap.size := by have := hb.size; (try simp at this); omega
        have hzw22 : w.heap.size + 1 + 1 < w2.heap.size := by have := hb.size; (try simp at this); omega
        have HEw2 := Lib.hid hb
        clear hb
        go_wp2
        go_ret2
        exact ⟨rfl, HBw2.out⟩
end Go.Proofs.Ythijpcbblmcfiaa
