/- The walk: what a verb asks for may be done. -/
import Derived.Test.YthijpcbblmcfiaaPm
namespace Go.Proofs.Ythijpcbblmcfiaa
open Go.RowKit Go.St
set_option linter.unusedVariables false
set_option linter.unusedSimpArgs false
set_option maxRecDepth 100000

theorem vbE_ok {r : Rec} {m g : Stp} {now ex : Int} (h : vbE r true m g now ex = 0) : chkR r = 0 ∧ chk m = 0 := by
  unfold vbE at h
  by_cases h1 : stE r true g now ex = 0
  · rw [if_neg (fun k => k h1)] at h
    refine ⟨?_, h⟩
    unfold stE at h1
    by_cases h2 : chkR r = 0
    · exact h2
    · rw [if_pos ⟨rfl, h2⟩] at h1; exact absurd h1 h2
  · rw [if_pos h1] at h; exact absurd h h1
theorem chkR_st {r : Rec} (h : chkR r = 0) : (r.st = 1 ∨ r.st = 2 ∨ r.st = 3 ∨ r.st = 4) ∧ r.n ≤ 24 := by
  unfold chkR at h
  by_cases h1 : 24 < r.n
  · rw [if_pos h1] at h; cases h
  · rw [if_neg h1] at h
    refine ⟨?_, by omega⟩
    by_cases h2 : okR r = true
    · unfold okR at h2
      simp at h2
      have h3 := h2.2
      by_cases a1 : r.st = 1 ∨ r.st = 4
      · rcases a1 with a | a <;> simp [a]
      · by_cases a2 : r.st = 2 ∨ r.st = 3
        · rcases a2 with a | a <;> simp [a]
        · rw [if_neg a1] at h3; exact absurd h3.1 a2
    · rw [if_neg h2] at h; cases h
theorem less_max (a b : Stp) : less (maxS a b) b = false := by
  unfold maxS
  cases h : less a b
  · simp [h]
  · simp [less_irrefl]

set_option maxHeartbeats 6400000 in
theorem pushDoes_walk (w : World) (r : Rec) (hl : r.l.length = r.n) (hr : Rd w w.heap.size r.A (sv r.l)) (reads : Bool) (m g : Stp) (now ex : Int) :
    Calls Try.prog 12 #[r.v, .bool reads, stv m, stv g, .int .i64 now, .int .i64 ex] w fun e w' => e = .returned (.bool true) ∧ Below w.heap.size w w' := by
  have h1 := fun W (h : Below w.heap.size w W) => verb_any r hl w.heap.size true reads m g now ex W (hr.below h) h.size
  have hV : vbV r true reads m g now ex = if vbE r true m g now ex ≠ 0 then 0 else vbW (vbS r true) (stB r true g now ex) reads (less m g) := rfl
  have hok := fun h => vbE_ok (r := r) (m := m) (g := g) (now := now) (ex := ex) h
  generalize vbE r true m g now ex = ve at *
  generalize vbV r true reads m g now ex = v at *
  generalize stB r true g now ex = sb at *
  by_cases he : ve = 0
  case neg =>
    rw [if_pos he] at hV
    subst hV
    have hne : (ve == 0) = false := by simpa using he
    have hne2 : (ve != 0) = true := by rw [bne, hne]; rfl
    have H1 := Lib.hid h1
    obtain ⟨nd, nu, st, ⟨aw, al, ag⟩, A, n, c, l, beat, ⟨pw, pl, pg⟩⟩ := r
    obtain ⟨gw, gl, gg⟩ := g
    obtain ⟨mw, ml, mg⟩ := m
    unfold Rec.v stv at *
    simp only at H1 ⊢
    clear h1 hok hr hl he
    go_enter Try.func12, Try.ntmps12
    go_wp2_with fail
    refine (lives27_any _).mono ?_
    rintro e w1 ⟨rfl, hb⟩
    obtain ⟨hcw1, hfw1⟩ := bcell hb
    have HBw1 : Hid (Below w.heap.size w w1) := Below.go (by go_grown) hb (by go_size)
    have hzw10 : w.heap.size < w1.heap.size := by have := hb.size; (try simp at this); omega
    have hzw11 : w.heap.size + 1 < w1.heap.size := by have := hb.size; (try simp at this); omega
    have hzw12 : w.heap.size + 1 + 1 < w1.heap.size := by have := hb.size; (try simp at this); omega
    have HEw1 := Lib.hid hb
    clear hb
    go_wp2_with fail
    refine (H1.out _ HBw1.out).mono ?_
    rintro e w2 ⟨rfl, hb⟩
    obtain ⟨hcw2, hfw2⟩ := bcell hb
    have HBw2 : Hid (Below w.heap.size w w2) := Below.go (by have hpre := HBw1.out; have hps := hpre.size; go_grown) hb (by have hpre := HBw1.out; have hps := hpre.size; go_size)
    have hzw20 : w.heap.size < w2.heap.size := by have := hb.size; (try simp at this); omega
    have hzw21 : w.heap.size + 1 < w2.heap.size := by have := hb.size; (try simp at this); omega
    have hzw22 : w.heap.size + 1 + 1 < w2.heap.size := by have := hb.size; (try simp at this); omega
    have HEw2 := Lib.hid hb
    clear hb
    go_wp2
    go_ret
    exact ⟨rfl, HBw2.out⟩
  subst he
  rw [if_neg (by decide)] at hV
  obtain ⟨hc, hm⟩ := hok rfl
  obtain ⟨hst, hn24⟩ := chkR_st hc
  have H1 := Lib.hid h1
  have HK := Lib.hid (fun (h3 : r.st ≠ 3) (h2 : r.st ≠ 2) W (h : Below w.heap.size w W) => kill_ok r hl w.heap.size hc h3 h2 W (hr.below h) h.size)
  have HP := Lib.hid (fun (h3 : r.st ≠ 3) (h4 : r.st ≠ 4) (h2 : r.st ≠ 2) W (h : Below w.heap.size w W) => push_ok r m hl (by omega) w.heap.size hc hm h3 h4 h2 W (hr.below h) h.size)
  have HS := Lib.hid (fun (h2 : r.st = 2) W (h : Below w.heap.size w W) => settle_true r hl (by omega) w.heap.size hc h2 W (hr.below h) h.size)
  have HT := Lib.hid (fun (h2 : r.st = 2) W (h : Below w.heap.size w W) => settle_false r hl (by omega) w.heap.size hc h2 W (hr.below h) h.size)
  have HL := Lib.hid (fun W => by
    have := rless_any (maxS r.pu m) m W
    rw [less_max] at this
    exact this)
  unfold vbS vbW at hV
  simp only [if_true] at hV
  generalize less m g = ls at *
  clear h1 hok hr hl hc hm hn24
  obtain ⟨nd, nu, st, ⟨aw, al, ag⟩, A, n, c, l, beat, ⟨pw, pl, pg⟩⟩ := r
  obtain ⟨gw, gl, gg⟩ := g
  obtain ⟨mw, ml, mg⟩ := m
  simp only at hst hV HK HP HS HT HL
  generalize maxS ⟨pw, pl, pg⟩ ⟨mw, ml, mg⟩ = x at *
  obtain ⟨xw, xl, xg⟩ := x
  unfold Rec.v overR stv at *
  simp only at H1 HK HP HS HT HL ⊢
  rcases hst with rfl | rfl | rfl | rfl
  · cases sb
    · cases reads
      · cases ls
        · simp at hV
          subst hV
          clear HK HP HS HT HL
          go_enter Try.func12, Try.ntmps12
          go_wp2_with fail
          refine (lives27_any _).mono ?_
          rintro e w1 ⟨rfl, hb⟩
          obtain ⟨hcw1, hfw1⟩ := bcell hb
          have HBw1 : Hid (Below w.heap.size w w1) := Below.go (by go_grown) hb (by go_size)
          have hzw10 : w.heap.size < w1.heap.size := by have := hb.size; (try simp at this); omega
          have hzw11 : w.heap.size + 1 < w1.heap.size := by have := hb.size; (try simp at this); omega
          have hzw12 : w.heap.size + 1 + 1 < w1.heap.size := by have := hb.size; (try simp at this); omega
          have HEw1 := Lib.hid hb
          clear hb
          go_wp2_with fail
          refine (H1.out _ HBw1.out).mono ?_
          rintro e w2 ⟨rfl, hb⟩
          obtain ⟨hcw2, hfw2⟩ := bcell hb
          have HBw2 : Hid (Below w.heap.size w w2) := Below.go (by have hpre := HBw1.out; have hps := hpre.size; go_grown) hb (by have hpre := HBw1.out; have hps := hpre.size; go_size)
          have hzw20 : w.heap.size < w2.heap.size := by have := hb.size; (try simp at this); omega
          have hzw21 : w.heap.size + 1 < w2.heap.size := by have := hb.size; (try simp at this); omega
          have hzw22 : w.heap.size + 1 + 1 < w2.heap.size := by have := hb.size; (try simp at this); omega
          have HEw2 := Lib.hid hb
          clear hb
          go_wp2
          go_ret
          first
            | exact ⟨rfl, HBw2.out⟩
            | (have hb := HBw2.out; have hbs := hb.size; exact ⟨rfl, by go_grown⟩)
        · simp at hV
          subst hV
          have H3 := Lib.hid (HK.out (by decide) (by decide))
          clear HK HP HS HT HL
          go_enter Try.func12, Try.ntmps12
          go_wp2_with fail
          refine (lives27_any _).mono ?_
          rintro e w1 ⟨rfl, hb⟩
          obtain ⟨hcw1, hfw1⟩ := bcell hb
          have HBw1 : Hid (Below w.heap.size w w1) := Below.go (by go_grown) hb (by go_size)
          have hzw10 : w.heap.size < w1.heap.size := by have := hb.size; (try simp at this); omega
          have hzw11 : w.heap.size + 1 < w1.heap.size := by have := hb.size; (try simp at this); omega
          have hzw12 : w.heap.size + 1 + 1 < w1.heap.size := by have := hb.size; (try simp at this); omega
          have HEw1 := Lib.hid hb
          clear hb
          go_wp2_with fail
          refine (H1.out _ HBw1.out).mono ?_
          rintro e w2 ⟨rfl, hb⟩
          obtain ⟨hcw2, hfw2⟩ := bcell hb
          have HBw2 : Hid (Below w.heap.size w w2) := Below.go (by have hpre := HBw1.out; have hps := hpre.size; go_grown) hb (by have hpre := HBw1.out; have hps := hpre.size; go_size)
          have hzw20 : w.heap.size < w2.heap.size := by have := hb.size; (try simp at this); omega
          have hzw21 : w.heap.size + 1 < w2.heap.size := by have := hb.size; (try simp at this); omega
          have hzw22 : w.heap.size + 1 + 1 < w2.heap.size := by have := hb.size; (try simp at this); omega
          have HEw2 := Lib.hid hb
          clear hb
          go_wp2_with fail
          refine (H3.out _ HBw2.out).mono ?_
          rintro e w3 ⟨rfl, hb⟩
          obtain ⟨hcw3, hfw3⟩ := bcell hb
          have HBw3 : Hid (Below w.heap.size w w3) := Below.go (by have hpre := HBw2.out; have hps := hpre.size; go_grown) hb (by have hpre := HBw2.out; have hps := hpre.size; go_size)
          have hzw30 : w.heap.size < w3.heap.size := by have := hb.size; (try simp at this); omega
          have hzw31 : w.heap.size + 1 < w3.heap.size := by have := hb.size; (try simp at this); omega
          have hzw32 : w.heap.size + 1 + 1 < w3.heap.size := by have := hb.size; (try simp at this); omega
          have HEw3 := Lib.hid hb
          clear hb
          go_wp2
          go_ret
          first
            | exact ⟨rfl, HBw3.out⟩
            | (have hb := HBw3.out; have hbs := hb.size; exact ⟨rfl, by go_grown⟩)
      · simp at hV
        subst hV
        have H3 := Lib.hid (HP.out (by decide) (by decide) (by decide))
        clear HK HP HS HT
        go_enter Try.func12, Try.ntmps12
        go_wp2_with fail
        refine (lives27_any _).mono ?_
        rintro e w1 ⟨rfl, hb⟩
        obtain ⟨hcw1, hfw1⟩ := bcell hb
        have HBw1 : Hid (Below w.heap.size w w1) := Below.go (by go_grown) hb (by go_size)
        have hzw10 : w.heap.size < w1.heap.size := by have := hb.size; (try simp at this); omega
        have hzw11 : w.heap.size + 1 < w1.heap.size := by have := hb.size; (try simp at this); omega
        have hzw12 : w.heap.size + 1 + 1 < w1.heap.size := by have := hb.size; (try simp at this); omega
        have HEw1 := Lib.hid hb
        clear hb
        go_wp2_with fail
        refine (H1.out _ HBw1.out).mono ?_
        rintro e w2 ⟨rfl, hb⟩
        obtain ⟨hcw2, hfw2⟩ := bcell hb
        have HBw2 : Hid (Below w.heap.size w w2) := Below.go (by have hpre := HBw1.out; have hps := hpre.size; go_grown) hb (by have hpre := HBw1.out; have hps := hpre.size; go_size)
        have hzw20 : w.heap.size < w2.heap.size := by have := hb.size; (try simp at this); omega
        have hzw21 : w.heap.size + 1 < w2.heap.size := by have := hb.size; (try simp at this); omega
        have hzw22 : w.heap.size + 1 + 1 < w2.heap.size := by have := hb.size; (try simp at this); omega
        have HEw2 := Lib.hid hb
        clear hb
        go_wp2_with fail
        refine (H3.out _ HBw2.out).mono ?_
        rintro e w3 ⟨A', c', rfl, hb⟩
        obtain ⟨hcw3, hfw3⟩ := bcell hb
        have HBw3 : Hid (Below w.heap.size w w3) := Below.go HBw2.out hb HBw2.out.size
        have hzw30 : w.heap.size < w3.heap.size := by have := hb.size; omega
        have hzw31 : w.heap.size + 1 < w3.heap.size := by have := hb.size; omega
        have hzw32 : w.heap.size + 1 + 1 < w3.heap.size := by have := hb.size; omega
        clear hb H3
        go_wp2_with fail
        refine (HL.out _).mono ?_
        rintro e w4 ⟨rfl, hb⟩
        obtain ⟨hcw4, hfw4⟩ := bcell hb
        have HBw4 : Hid (Below w.heap.size w w4) := Below.go (by have hpre := HBw3.out; have hps := hpre.size; go_grown) hb (by have hpre := HBw3.out; have hps := hpre.size; go_size)
        have hzw40 : w.heap.size < w4.heap.size := by have := hb.size; (try simp at this); omega
        have hzw41 : w.heap.size + 1 < w4.heap.size := by have := hb.size; (try simp at this); omega
        have hzw42 : w.heap.size + 1 + 1 < w4.heap.size := by have := hb.size; (try simp at this); omega
        have HEw4 := Lib.hid hb
        clear hb
        go_wp2
        go_ret
        first
          | exact ⟨rfl, HBw4.out⟩
          | (have hb := HBw4.out; have hbs := hb.size; exact ⟨rfl, by go_grown⟩)
    · simp at hV
      subst hV
      have H3 := Lib.hid (HK.out (by decide) (by decide))
      clear HK HP HS HT HL
      go_enter Try.func12, Try.ntmps12
      go_wp2_with fail
      refine (lives27_any _).mono ?_
      rintro e w1 ⟨rfl, hb⟩
      obtain ⟨hcw1, hfw1⟩ := bcell hb
      have HBw1 : Hid (Below w.heap.size w w1) := Below.go (by go_grown) hb (by go_size)
      have hzw10 : w.heap.size < w1.heap.size := by have := hb.size; (try simp at this); omega
      have hzw11 : w.heap.size + 1 < w1.heap.size := by have := hb.size; (try simp at this); omega
      have hzw12 : w.heap.size + 1 + 1 < w1.heap.size := by have := hb.size; (try simp at this); omega
      have HEw1 := Lib.hid hb
      clear hb
      go_wp2_with fail
      refine (H1.out _ HBw1.out).mono ?_
      rintro e w2 ⟨rfl, hb⟩
      obtain ⟨hcw2, hfw2⟩ := bcell hb
      have HBw2 : Hid (Below w.heap.size w w2) := Below.go (by have hpre := HBw1.out; have hps := hpre.size; go_grown) hb (by have hpre := HBw1.out; have hps := hpre.size; go_size)
      have hzw20 : w.heap.size < w2.heap.size := by have := hb.size; (try simp at this); omega
      have hzw21 : w.heap.size + 1 < w2.heap.size := by have := hb.size; (try simp at this); omega
      have hzw22 : w.heap.size + 1 + 1 < w2.heap.size := by have := hb.size; (try simp at this); omega
      have HEw2 := Lib.hid hb
      clear hb
      go_wp2_with fail
      refine (H3.out _ HBw2.out).mono ?_
      rintro e w3 ⟨rfl, hb⟩
      obtain ⟨hcw3, hfw3⟩ := bcell hb
      have HBw3 : Hid (Below w.heap.size w w3) := Below.go (by have hpre := HBw2.out; have hps := hpre.size; go_grown) hb (by have hpre := HBw2.out; have hps := hpre.size; go_size)
      have hzw30 : w.heap.size < w3.heap.size := by have := hb.size; (try simp at this); omega
      have hzw31 : w.heap.size + 1 < w3.heap.size := by have := hb.size; (try simp at this); omega
      have hzw32 : w.heap.size + 1 + 1 < w3.heap.size := by have := hb.size; (try simp at this); omega
      have HEw3 := Lib.hid hb
      clear hb
      go_wp2
      go_ret
      first
        | exact ⟨rfl, HBw3.out⟩
        | (have hb := HBw3.out; have hbs := hb.size; exact ⟨rfl, by go_grown⟩)
  · cases sb
    · simp at hV
      subst hV
      clear HK HP HS HT HL
      go_enter Try.func12, Try.ntmps12
      go_wp2_with fail
      refine (lives27_any _).mono ?_
      rintro e w1 ⟨rfl, hb⟩
      obtain ⟨hcw1, hfw1⟩ := bcell hb
      have HBw1 : Hid (Below w.heap.size w w1) := Below.go (by go_grown) hb (by go_size)
      have hzw10 : w.heap.size < w1.heap.size := by have := hb.size; (try simp at this); omega
      have hzw11 : w.heap.size + 1 < w1.heap.size := by have := hb.size; (try simp at this); omega
      have hzw12 : w.heap.size + 1 + 1 < w1.heap.size := by have := hb.size; (try simp at this); omega
      have HEw1 := Lib.hid hb
      clear hb
      go_wp2_with fail
      refine (H1.out _ HBw1.out).mono ?_
      rintro e w2 ⟨rfl, hb⟩
      obtain ⟨hcw2, hfw2⟩ := bcell hb
      have HBw2 : Hid (Below w.heap.size w w2) := Below.go (by have hpre := HBw1.out; have hps := hpre.size; go_grown) hb (by have hpre := HBw1.out; have hps := hpre.size; go_size)
      have hzw20 : w.heap.size < w2.heap.size := by have := hb.size; (try simp at this); omega
      have hzw21 : w.heap.size + 1 < w2.heap.size := by have := hb.size; (try simp at this); omega
      have hzw22 : w.heap.size + 1 + 1 < w2.heap.size := by have := hb.size; (try simp at this); omega
      have HEw2 := Lib.hid hb
      clear hb
      go_wp2
      go_ret
      first
        | exact ⟨rfl, HBw2.out⟩
        | (have hb := HBw2.out; have hbs := hb.size; exact ⟨rfl, by go_grown⟩)
    · simp at hV
      subst hV
      have H3 := Lib.hid (HS.out rfl)
      have H4 := Lib.hid (HT.out rfl)
      clear HK HP HS HT HL
      go_enter Try.func12, Try.ntmps12
      go_wp2_with fail
      refine (lives27_any _).mono ?_
      rintro e w1 ⟨rfl, hb⟩
      obtain ⟨hcw1, hfw1⟩ := bcell hb
      have HBw1 : Hid (Below w.heap.size w w1) := Below.go (by go_grown) hb (by go_size)
      have hzw10 : w.heap.size < w1.heap.size := by have := hb.size; (try simp at this); omega
      have hzw11 : w.heap.size + 1 < w1.heap.size := by have := hb.size; (try simp at this); omega
      have hzw12 : w.heap.size + 1 + 1 < w1.heap.size := by have := hb.size; (try simp at this); omega
      have HEw1 := Lib.hid hb
      clear hb
      go_wp2_with fail
      refine (H1.out _ HBw1.out).mono ?_
      rintro e w2 ⟨rfl, hb⟩
      obtain ⟨hcw2, hfw2⟩ := bcell hb
      have HBw2 : Hid (Below w.heap.size w w2) := Below.go (by have hpre := HBw1.out; have hps := hpre.size; go_grown) hb (by have hpre := HBw1.out; have hps := hpre.size; go_size)
      have hzw20 : w.heap.size < w2.heap.size := by have := hb.size; (try simp at this); omega
      have hzw21 : w.heap.size + 1 < w2.heap.size := by have := hb.size; (try simp at this); omega
      have hzw22 : w.heap.size + 1 + 1 < w2.heap.size := by have := hb.size; (try simp at this); omega
      have HEw2 := Lib.hid hb
      clear hb
      go_wp2_with fail
      refine (H3.out _ HBw2.out).mono ?_
      rintro e w3 ⟨A', c', rfl, hb⟩
      obtain ⟨hcw3, hfw3⟩ := bcell hb
      have HBw3 : Hid (Below w.heap.size w w3) := Below.go HBw2.out hb HBw2.out.size
      have hzw30 : w.heap.size < w3.heap.size := by have := hb.size; omega
      have hzw31 : w.heap.size + 1 < w3.heap.size := by have := hb.size; omega
      have hzw32 : w.heap.size + 1 + 1 < w3.heap.size := by have := hb.size; omega
      clear hb H3
      go_wp2_with fail
      refine (H4.out _ (HBw3.out.alloc HBw3.out.size _)).mono ?_
      rintro e w4 ⟨rfl, hb⟩
      obtain ⟨hcw4, hfw4⟩ := bcell hb
      have HBw4 : Hid (Below w.heap.size w w4) := Below.go (by have hpre := HBw3.out; have hps := hpre.size; go_grown) hb (by have hpre := HBw3.out; have hps := hpre.size; go_size)
      have hzw40 : w.heap.size < w4.heap.size := by have := hb.size; (try simp at this); omega
      have hzw41 : w.heap.size + 1 < w4.heap.size := by have := hb.size; (try simp at this); omega
      have hzw42 : w.heap.size + 1 + 1 < w4.heap.size := by have := hb.size; (try simp at this); omega
      have hzw4w3 : w3.heap.size < w4.heap.size := by have := hb.size; (try simp at this); omega
      have HEw4 := Lib.hid hb
      clear hb
      go_wp2
      go_ret
      first
        | exact ⟨rfl, HBw4.out⟩
        | (have hb := HBw4.out; have hbs := hb.size; exact ⟨rfl, by go_grown⟩)
  · simp at hV
    subst hV
    clear HK HP HS HT HL
    go_enter Try.func12, Try.ntmps12
    go_wp2_with fail
    refine (lives27_any _).mono ?_
    rintro e w1 ⟨rfl, hb⟩
    obtain ⟨hcw1, hfw1⟩ := bcell hb
    have HBw1 : Hid (Below w.heap.size w w1) := Below.go (by go_grown) hb (by go_size)
    have hzw10 : w.heap.size < w1.heap.size := by have := hb.size; (try simp at this); omega
    have hzw11 : w.heap.size + 1 < w1.heap.size := by have := hb.size; (try simp at this); omega
    have hzw12 : w.heap.size + 1 + 1 < w1.heap.size := by have := hb.size; (try simp at this); omega
    have HEw1 := Lib.hid hb
    clear hb
    go_wp2_with fail
    refine (H1.out _ HBw1.out).mono ?_
    rintro e w2 ⟨rfl, hb⟩
    obtain ⟨hcw2, hfw2⟩ := bcell hb
    have HBw2 : Hid (Below w.heap.size w w2) := Below.go (by have hpre := HBw1.out; have hps := hpre.size; go_grown) hb (by have hpre := HBw1.out; have hps := hpre.size; go_size)
    have hzw20 : w.heap.size < w2.heap.size := by have := hb.size; (try simp at this); omega
    have hzw21 : w.heap.size + 1 < w2.heap.size := by have := hb.size; (try simp at this); omega
    have hzw22 : w.heap.size + 1 + 1 < w2.heap.size := by have := hb.size; (try simp at this); omega
    have HEw2 := Lib.hid hb
    clear hb
    go_wp2
    go_ret
    first
      | exact ⟨rfl, HBw2.out⟩
      | (have hb := HBw2.out; have hbs := hb.size; exact ⟨rfl, by go_grown⟩)
  · simp at hV
    subst hV
    clear HK HP HS HT HL
    go_enter Try.func12, Try.ntmps12
    go_wp2_with fail
    refine (lives27_any _).mono ?_
    rintro e w1 ⟨rfl, hb⟩
    obtain ⟨hcw1, hfw1⟩ := bcell hb
    have HBw1 : Hid (Below w.heap.size w w1) := Below.go (by go_grown) hb (by go_size)
    have hzw10 : w.heap.size < w1.heap.size := by have := hb.size; (try simp at this); omega
    have hzw11 : w.heap.size + 1 < w1.heap.size := by have := hb.size; (try simp at this); omega
    have hzw12 : w.heap.size + 1 + 1 < w1.heap.size := by have := hb.size; (try simp at this); omega
    have HEw1 := Lib.hid hb
    clear hb
    go_wp2_with fail
    refine (H1.out _ HBw1.out).mono ?_
    rintro e w2 ⟨rfl, hb⟩
    obtain ⟨hcw2, hfw2⟩ := bcell hb
    have HBw2 : Hid (Below w.heap.size w w2) := Below.go (by have hpre := HBw1.out; have hps := hpre.size; go_grown) hb (by have hpre := HBw1.out; have hps := hpre.size; go_size)
    have hzw20 : w.heap.size < w2.heap.size := by have := hb.size; (try simp at this); omega
    have hzw21 : w.heap.size + 1 < w2.heap.size := by have := hb.size; (try simp at this); omega
    have hzw22 : w.heap.size + 1 + 1 < w2.heap.size := by have := hb.size; (try simp at this); omega
    have HEw2 := Lib.hid hb
    clear hb
    go_wp2
    go_ret
    first
      | exact ⟨rfl, HBw2.out⟩
      | (have hb := HBw2.out; have hbs := hb.size; exact ⟨rfl, by go_grown⟩)
end Go.Proofs.Ythijpcbblmcfiaa

