/- The walk of the law on the next stamp. -/
import Derived.Test.YthijpcbblmcfiaaHf
import Derived.Test.YthijpcbblmcfiaaOs
namespace Go.Proofs.Ythijpcbblmcfiaa
open Go.RowKit Go.St
set_option linter.unusedVariables false
set_option linter.unusedSimpArgs false

theorem hlcCalls_law (w : World) (a : Stp) (_ : InS a) (b : Stp) (_ : InS b) (tag : Int) (_ : (Lit.int .i32 tag).wf = true) :
    Calls Try.prog 3 #[.agg #[.int .i64 a.wall, .int .i32 a.logic, .int .i32 a.tag], .agg #[.int .i64 b.wall, .int .i32 b.logic, .int .i32 b.tag], .int .i32 tag] w fun e w' => e = .returned (.bool true) ∧ Below w.heap.size w w' :=
  hlcCalls_walk w a b tag

/-- What the first test of the law leans on. -/
theorem next_cases (a b c : Stp) : (less a b = true ∧ less b c = true ∧ cmpS a b = -1 ∧ cmpS b a = 1 ∧ cmpS b c = -1 ∧ cmpS a c = -1 ∧ maxS a b = b ∧ a ≠ b) ∨
    (less a b = true ∧ 0 ≤ cmpS b c ∧ cmpS a b = -1 ∧ cmpS b a = 1 ∧ maxS a b = b ∧ a ≠ b) ∨ (less b a = true ∧ cmpS a b = 1 ∧ cmpS b a = -1 ∧ maxS a b = a ∧ a ≠ b) ∨ (a = b ∧ cmpS a b = 0 ∧ cmpS b a = 0 ∧ maxS a b = a) := by
  by_cases h : less a b = true
  · have hn : a ≠ b := by rintro rfl; rw [less_irrefl] at h; cases h
    by_cases k : less b c = true
    · exact .inl ⟨h, k, cmp_lt h, cmp_gt h, cmp_lt k, cmp_lt (less_trans h k), by simp [maxS, h], hn⟩
    · refine .inr (.inl ⟨h, ?_, cmp_lt h, cmp_gt h, by simp [maxS, h], hn⟩)
      have h1 : ¬ cmpS b c < 0 := fun h => k ((cmp_neg b c).1 h)
      omega
  · by_cases k : less b a = true
    · refine .inr (.inr (.inl ⟨k, cmp_gt k, cmp_lt k, by simp [maxS, h], ?_⟩))
      rintro rfl
      exact h k
    · have e := less_tri (by simpa using h) (by simpa using k)
      subst e
      exact .inr (.inr (.inr ⟨rfl, cmp_eq _, cmp_eq _, by simp [maxS, h]⟩))

theorem eq_self (a : Stp) (w : World) : (binOp .eql 23 (.agg #[.int .i64 a.wall, .int .i32 a.logic, .int .i32 a.tag]) (.agg #[.int .i64 a.wall, .int .i32 a.logic, .int .i32 a.tag])).run Try.prog w = .ok (.bool true) w := by
  rw [eq_stamp, decide_eq_true rfl]
theorem ne_self (a : Stp) (w : World) : (binOp .neq 23 (.agg #[.int .i64 a.wall, .int .i32 a.logic, .int .i32 a.tag]) (.agg #[.int .i64 a.wall, .int .i32 a.logic, .int .i32 a.tag])).run Try.prog w = .ok (.bool false) w := by
  rw [ne_stamp, decide_eq_true rfl]; rfl
/-- The comparison of two stamps, told by its outcome. -/
@[reducible] def CmpIs (s t : Stp) (v : Int) : Prop := ∀ w : World, Calls Try.prog 18 #[.agg #[.int .i64 s.wall, .int .i32 s.logic, .int .i32 s.tag], .agg #[.int .i64 t.wall, .int .i32 t.logic, .int .i32 t.tag]] w fun e w' => e = .returned (.int .i64 v) ∧ Below w.heap.size w w'
theorem cmpIs {s t : Stp} {v : Int} (h : cmpS s t = v) : CmpIs s t v := fun w => by rw [← h]; exact hcompare_any s t w
@[reducible] def MaxIs (s t m : Stp) : Prop := ∀ w : World, Calls Try.prog 20 #[.agg #[.int .i64 s.wall, .int .i32 s.logic, .int .i32 s.tag], .agg #[.int .i64 t.wall, .int .i32 t.logic, .int .i32 t.tag]] w fun e w' => e = .returned (.agg #[.int .i64 m.wall, .int .i32 m.logic, .int .i32 m.tag]) ∧ Below w.heap.size w w'
theorem maxIs {s t m : Stp} (h : maxS s t = m) : MaxIs s t m := fun w => by rw [← h]; exact hmax_any s t w
@[reducible] def ChkIs (s : Stp) (v : Int) : Prop := ∀ w : World, Calls Try.prog 16 #[.agg #[.int .i64 s.wall, .int .i32 s.logic, .int .i32 s.tag]] w fun e w' => e = .returned (.int .i64 v) ∧ Below w.heap.size w w'
theorem chkIs {s : Stp} {v : Int} (h : chk s = v) : ChkIs s v := fun w => by rw [← h]; exact hcheck_any s w
@[reducible] def NextIs (s : Stp) (tag : Int) (x : Stp) (d : Int) : Prop := ∀ w : World, Calls Try.prog 13 #[.agg #[.int .i64 s.wall, .int .i32 s.logic, .int .i32 s.tag], .int .i32 tag] w fun e w' =>
    e = .returned (.tuple #[.agg #[.int .i64 x.wall, .int .i32 x.logic, .int .i32 x.tag], .int .i64 d]) ∧ Below w.heap.size w w'
theorem nextIs {s x : Stp} {tag d : Int} (h : nextS s tag = x) (k : nextE s tag = d) : NextIs s tag x d := fun w => by rw [← h, ← k]; exact hnext_any s tag w

theorem gap_cases (a b x : Stp) (one : Int) (hx : ∀ b : Stp, b.tag = one → less a b = true → less b x = false) : (b.tag == one) = false ∨ ((b.tag == one) = true ∧ chk b = 2) ∨ ((b.tag == one) = true ∧ chk b = 0 ∧ decide (0 < cmpS b a) = false) ∨
    ((b.tag == one) = true ∧ chk b = 0 ∧ decide (0 < cmpS b a) = true ∧ decide (cmpS b x < 0) = false) := by
  by_cases h1 : b.tag = one
  · have e1 : (b.tag == one) = true := by simpa using h1
    by_cases h2 : okS b = true
    · by_cases h3 : less a b = true
      · refine .inr (.inr (.inr ⟨e1, chk_ok h2, decide_eq_true (by rw [cmp_gt h3]; decide), decide_eq_false fun h => ?_⟩))
        have := hx b h1 h3
        rw [cmp_neg] at h
        rw [h] at this
        cases this
      · refine .inr (.inr (.inl ⟨e1, chk_ok h2, decide_eq_false fun h => ?_⟩))
        rw [cmp_anti] at h
        exact h3 ((cmp_neg a b).1 (by omega))
    · exact .inr (.inl ⟨e1, chk_no (by simpa using h2)⟩)
  · exact .inl (by simpa using h1)

set_option maxHeartbeats 4000000 in
set_option maxRecDepth 100000 in
theorem hlcNext_walk (w : World) (a b c : Stp) (one two : Int) :
    Calls Try.prog 4 #[.agg #[.int .i64 a.wall, .int .i32 a.logic, .int .i32 a.tag], .agg #[.int .i64 b.wall, .int .i32 b.logic, .int .i32 b.tag], .agg #[.int .i64 c.wall, .int .i32 c.logic, .int .i32 c.tag], .int .i32 one, .int .i32 two] w
      fun e w' => e = .returned (.bool true) ∧ Below w.heap.size w w' := by
  obtain ⟨vab, vba, vbc, vac, L1, L2, F1, F2, C1, C2, C3, C4, Q1⟩ : ∃ (vab vba vbc vac : Int), -1 ≤ vba ∧ vba ≤ 1 ∧ Hid ((vab != -vba) = false) ∧ Hid ((decide (vab < 0) = false ∧ maxS a b = a) ∨ (decide (vab < 0) = true ∧ decide (vbc < 0) = false ∧ maxS a b = b ∧ b ≠ a) ∨ (decide (vab < 0) = true ∧ decide (vbc < 0) = true ∧ decide (0 ≤ vac) = false ∧ maxS a b = b ∧ b ≠ a)) ∧
      Hid (CmpIs a b vab) ∧ Hid (CmpIs b a vba) ∧ Hid (CmpIs b c vbc) ∧ Hid (CmpIs a c vac) ∧ Hid (decide (a = b) = (vab == 0)) := by
    refine ⟨cmpS a b, cmpS b a, cmpS b c, cmpS a c, (cmp_bd b a).1, (cmp_bd b a).2, ?_, ?_, cmpIs rfl, cmpIs rfl, cmpIs rfl, cmpIs rfl, ?_⟩
    · have h := cmp_anti a b
      show (cmpS a b != -cmpS b a) = false
      simp [← h]
    · by_cases h1 : cmpS a b < 0
      · have hl := (cmp_neg a b).1 h1
        have hn : b ≠ a := by rintro rfl; rw [less_irrefl] at hl; cases hl
        by_cases h2 : cmpS b c < 0
        · refine .inr (.inr ⟨decide_eq_true h1, decide_eq_true h2, ?_, max_right hl, hn⟩)
          exact decide_eq_false (by rw [cmp_lt (less_trans hl ((cmp_neg b c).1 h2))]; decide)
        · exact .inr (.inl ⟨decide_eq_true h1, decide_eq_false h2, max_right hl, hn⟩)
      · refine .inl ⟨decide_eq_false h1, ?_⟩
        rw [cmp_neg] at h1
        simp [maxS, h1]
    · have h := cmp_zero a b
      show decide (a = b) = (cmpS a b == 0)
      by_cases e : a = b
      · rw [decide_eq_true e, h.2 e]; rfl
      · rw [decide_eq_false e]
        exact (beq_eq_false_iff_ne.2 fun k => e (h.1 k)).symm
  go_enter Try.func4, Try.ntmps4
  go_wp2
  refine wp_qall (by kernel_rfl) (by kernel_rfl) ?_
  intro hcg
  repeat (first | go_big_quiet_step ((with_reducible (first | exact Calls.reg (C1.out _) | exact Calls.reg (C2.out _) | exact Calls.reg (C3.out _) | exact Calls.reg (C4.out _)))) | quiet_step ((with_reducible (first | exact Calls.reg (C1.out _) | exact Calls.reg (C2.out _) | exact Calls.reg (C3.out _) | exact Calls.reg (C4.out _)))))
  refine wpQuiet_nil ?_
  intro w1 hbw1 hcw1 hfw1
  clear hcg
  have HB1 : Hid (Below w.heap.size w w1) := Below.go (by go_grown) hbw1 (by go_size)
  have A_w1 := Lib.hid ((bx_three w a b c 23).1.below hbw1 (bx_three w a b c 23).1.lt)
  have B_w1 := Lib.hid ((bx_three w a b c 23).2.1.below hbw1 (bx_three w a b c 23).2.1.lt)
  obtain ⟨A0, A1, A2, Al⟩ := A_w1.out
  obtain ⟨B0, B1, B2, Bl⟩ := B_w1.out
  clear hbw1 hcw1 hfw1
  go_wp2
  have q1 := eq_stamp a b
  rw [Q1.out] at q1
  have f1 := F1.out
  clear F1 C1 C2 C3 C4 Q1
  rcases F2.out with ⟨h1, h4⟩ | ⟨h1, h2, h4, h5⟩ | ⟨h1, h2, h3, h4, h5⟩
  all_goals have C5 := Lib.hid (maxIs h4)
  all_goals (try (have q2 := ne_stamp_no h5))
  all_goals (have q3 := ne_self a)
  all_goals (have q4 := ne_self b)
  all_goals (try clear h5)
  all_goals clear F2 h4
  all_goals
    refine wp_qall (by kernel_rfl) (by kernel_rfl) ?_
    intro hcg
    repeat (first | go_big_quiet_step ((with_reducible (first | exact Calls.reg (C5.out _) | exact Calls.reg (lives20_any _)))) | quiet_step ((with_reducible (first | exact Calls.reg (C5.out _) | exact Calls.reg (lives20_any _)))))
    refine wpQuiet_nil ?_
    intro w2 hbw2 hcw2 hfw2
    clear hcg
    have HB2 : Hid (Below w.heap.size w w2) := Below.go HB1.out hbw2 HB1.out.size
    have A_w2 := Lib.hid (A_w1.out.below (hbw2) A_w1.out.lt)
    have B_w2 := Lib.hid (B_w1.out.below (hbw2) B_w1.out.lt)
    try clear A0 A1 A2 Al
    obtain ⟨A0, A1, A2, Al⟩ := A_w2.out
    try clear B0 B1 B2 Bl
    obtain ⟨B0, B1, B2, Bl⟩ := B_w2.out
    clear hbw2 hcw2 hfw2 q1 f1 C5 A_w1 B_w1
    try clear q2
    clear q3 q4
    try clear h3
    try clear h2
    clear h1
    by_cases he : nextE a one = 0
    · obtain ⟨k1, k2, k3⟩ := next_ok he
      have hle : ∀ b : Stp, b.tag = one → less a b = true → less b (nextS a one) = false := fun b h1 h2 => next_least he h1 h2
      have hap : ∀ two, nextE a two = 0 → one ≠ two → nextS a one ≠ nextS a two := fun two h1 h2 => next_apart he h1 h2
      have N1 : Hid (NextIs a one (nextS a one) 0) := nextIs rfl he
      generalize nextS a one = x at *
      have K1 : Hid (ChkIs x 0) := chkIs (chk_ok k1)
      have K2 : Hid (CmpIs x a 1) := cmpIs (cmp_gt k2)
      have e3 : (x.tag != one) = false := by simpa using k3
      have HLE := Lib.hid hle
      have HAP := Lib.hid hap
      clear k1 k2 k3 hle hap he
      go_wp2_with fail
      refine (N1.out _).mono ?_
      rintro e w3 ⟨rfl, hb⟩
      obtain ⟨hcw3, hfw3⟩ := bcell hb
      have HBw3 : Hid (Below w.heap.size w w3) := Below.go (by have hpre := HB2.out; have hps := hpre.size; go_grown) hb (by have hpre := HB2.out; have hps := hpre.size; go_size)
      have HEw3 := Lib.hid hb
      clear hb
      have A_w3 := Lib.hid (A_w2.out.below (HEw3.out) A_w2.out.lt)
      have B_w3 := Lib.hid (B_w2.out.below (HEw3.out) B_w2.out.lt)
      try clear A0 A1 A2 Al
      obtain ⟨A0, A1, A2, Al⟩ := A_w3.out
      try clear B0 B1 B2 Bl
      obtain ⟨B0, B1, B2, Bl⟩ := B_w3.out
      clear hcw3 hfw3
      go_wp2_with fail
      refine (K1.out _).mono ?_
      rintro e w4 ⟨rfl, hb⟩
      obtain ⟨hcw4, hfw4⟩ := bcell hb
      have HBw4 : Hid (Below w.heap.size w w4) := Below.go (by have hpre := HBw3.out; have hps := hpre.size; go_grown) hb (by have hpre := HBw3.out; have hps := hpre.size; go_size)
      have HEw4 := Lib.hid hb
      clear hb
      have X_w4 := Lib.hid ((bx_new w3 x 23).below HEw4.out (by simp))
      obtain ⟨X0, X1, X2, Xl⟩ := X_w4.out
      have A_w4 := Lib.hid ((A_w3.out.alloc _).below (HEw4.out) (A_w3.out.alloc _).lt)
      have B_w4 := Lib.hid ((B_w3.out.alloc _).below (HEw4.out) (B_w3.out.alloc _).lt)
      try clear A0 A1 A2 Al
      obtain ⟨A0, A1, A2, Al⟩ := A_w4.out
      try clear B0 B1 B2 Bl
      obtain ⟨B0, B1, B2, Bl⟩ := B_w4.out
      clear hcw4 hfw4
      go_wp2_with fail
      refine (K2.out _).mono ?_
      rintro e w5 ⟨rfl, hb⟩
      obtain ⟨hcw5, hfw5⟩ := bcell hb
      have HBw5 : Hid (Below w.heap.size w w5) := Below.go (by have hpre := HBw4.out; have hps := hpre.size; go_grown) hb (by have hpre := HBw4.out; have hps := hpre.size; go_size)
      have HEw5 := Lib.hid hb
      clear hb
      have A_w5 := Lib.hid (A_w4.out.below (HEw5.out) A_w4.out.lt)
      have B_w5 := Lib.hid (B_w4.out.below (HEw5.out) B_w4.out.lt)
      have X_w5 := Lib.hid (X_w4.out.below (HEw5.out) X_w4.out.lt)
      try clear A0 A1 A2 Al
      obtain ⟨A0, A1, A2, Al⟩ := A_w5.out
      try clear B0 B1 B2 Bl
      obtain ⟨B0, B1, B2, Bl⟩ := B_w5.out
      try clear X0 X1 X2 Xl
      obtain ⟨X0, X1, X2, Xl⟩ := X_w5.out
      clear hcw5 hfw5 A_w2 B_w2 A_w3 B_w3 A_w4 B_w4 X_w4 HEw3 HEw4 HEw5 K1 K2 N1 HBw3 HBw4
      rcases gap_cases a b x one HLE.out with p1 | ⟨p1, p2⟩ | ⟨p1, p2, p3⟩ | ⟨p1, p2, p3, p4⟩
      · skip
        by_cases hf : nextE a two = 0
        · have N2 : Hid (NextIs a two (nextS a two) 0) := nextIs rfl hf
          have hne : one ≠ two → x ≠ nextS a two := HAP.out two hf
          have HNE := Lib.hid hne
          clear hne hf
          generalize nextS a two = y at *
          go_wp2_with fail
          refine (N2.out _).mono ?_
          rintro e wy ⟨rfl, hb⟩
          obtain ⟨hcwy, hfwy⟩ := bcell hb
          have HBwy : Hid (Below w.heap.size w wy) := Below.go (by have hpre := HBw5.out; have hps := hpre.size; go_grown) hb (by have hpre := HBw5.out; have hps := hpre.size; go_size)
          have HEwy := Lib.hid hb
          clear hb
          have X_wy := Lib.hid (X_w5.out.below (HEwy.out) X_w5.out.lt)
          try clear X0 X1 X2 Xl
          obtain ⟨X0, X1, X2, Xl⟩ := X_wy.out
          clear hcwy hfwy HAP HLE N2
          by_cases h12 : one = two
          · have e12 : (one == two) = true := by simpa using h12
            clear h12
            go_wp2
            go_ret
            exact ⟨rfl, by have h := HBwy.out; have hs := h.size; go_grown⟩
          · have e12 : (one == two) = false := by simpa using h12
            have qxy := ne_stamp_no (HNE.out h12)
            clear h12
            go_wp2
            go_ret
            exact ⟨rfl, by have h := HBwy.out; have hs := h.size; go_grown⟩
        · have N2 : Hid (NextIs a two zeroS (nextE a two)) := nextIs (next_zero hf) rfl
          have he2 : (nextE a two != 0) = true := by simpa using hf
          clear hf
          generalize nextE a two = ne2 at *
          go_wp2_with fail
          refine (N2.out _).mono ?_
          rintro e wy ⟨rfl, hb⟩
          obtain ⟨hcwy, hfwy⟩ := bcell hb
          have HBwy : Hid (Below w.heap.size w wy) := Below.go (by have hpre := HBw5.out; have hps := hpre.size; go_grown) hb (by have hpre := HBw5.out; have hps := hpre.size; go_size)
          have HEwy := Lib.hid hb
          clear hb
          clear hcwy hfwy HAP HLE N2
          unfold zeroS
          go_wp2
          go_ret
          exact ⟨rfl, by have h := HBwy.out; have hs := h.size; go_grown⟩
      · have P2 := Lib.hid (chkIs p2); clear p2
        go_wp2_with fail
        refine (P2.out _).mono ?_
        rintro e w6 ⟨rfl, hb⟩
        obtain ⟨hcw6, hfw6⟩ := bcell hb
        have HBw6 : Hid (Below w.heap.size w w6) := Below.go (by have hpre := HBw5.out; have hps := hpre.size; go_grown) hb (by have hpre := HBw5.out; have hps := hpre.size; go_size)
        have HEw6 := Lib.hid hb
        clear hb
        have A_w6 := Lib.hid (A_w5.out.below (HEw6.out) A_w5.out.lt)
        have B_w6 := Lib.hid (B_w5.out.below (HEw6.out) B_w5.out.lt)
        have X_w6 := Lib.hid (X_w5.out.below (HEw6.out) X_w5.out.lt)
        try clear A0 A1 A2 Al
        obtain ⟨A0, A1, A2, Al⟩ := A_w6.out
        try clear B0 B1 B2 Bl
        obtain ⟨B0, B1, B2, Bl⟩ := B_w6.out
        try clear X0 X1 X2 Xl
        obtain ⟨X0, X1, X2, Xl⟩ := X_w6.out
        clear hcw6 hfw6
        by_cases hf : nextE a two = 0
        · have N2 : Hid (NextIs a two (nextS a two) 0) := nextIs rfl hf
          have hne : one ≠ two → x ≠ nextS a two := HAP.out two hf
          have HNE := Lib.hid hne
          clear hne hf
          generalize nextS a two = y at *
          go_wp2_with fail
          refine (N2.out _).mono ?_
          rintro e wy ⟨rfl, hb⟩
          obtain ⟨hcwy, hfwy⟩ := bcell hb
          have HBwy : Hid (Below w.heap.size w wy) := Below.go (by have hpre := HBw6.out; have hps := hpre.size; go_grown) hb (by have hpre := HBw6.out; have hps := hpre.size; go_size)
          have HEwy := Lib.hid hb
          clear hb
          have X_wy := Lib.hid (X_w6.out.below (HEwy.out) X_w6.out.lt)
          try clear X0 X1 X2 Xl
          obtain ⟨X0, X1, X2, Xl⟩ := X_wy.out
          clear hcwy hfwy HAP HLE N2
          by_cases h12 : one = two
          · have e12 : (one == two) = true := by simpa using h12
            clear h12
            go_wp2
            go_ret
            exact ⟨rfl, by have h := HBwy.out; have hs := h.size; go_grown⟩
          · have e12 : (one == two) = false := by simpa using h12
            have qxy := ne_stamp_no (HNE.out h12)
            clear h12
            go_wp2
            go_ret
            exact ⟨rfl, by have h := HBwy.out; have hs := h.size; go_grown⟩
        · have N2 : Hid (NextIs a two zeroS (nextE a two)) := nextIs (next_zero hf) rfl
          have he2 : (nextE a two != 0) = true := by simpa using hf
          clear hf
          generalize nextE a two = ne2 at *
          go_wp2_with fail
          refine (N2.out _).mono ?_
          rintro e wy ⟨rfl, hb⟩
          obtain ⟨hcwy, hfwy⟩ := bcell hb
          have HBwy : Hid (Below w.heap.size w wy) := Below.go (by have hpre := HBw6.out; have hps := hpre.size; go_grown) hb (by have hpre := HBw6.out; have hps := hpre.size; go_size)
          have HEwy := Lib.hid hb
          clear hb
          clear hcwy hfwy HAP HLE N2
          unfold zeroS
          go_wp2
          go_ret
          exact ⟨rfl, by have h := HBwy.out; have hs := h.size; go_grown⟩
      · have P2 := Lib.hid (chkIs p2); clear p2
        have P3 : Hid (CmpIs b a (cmpS b a)) := cmpIs rfl
        generalize cmpS b a = vba' at *
        go_wp2_with fail
        refine (P2.out _).mono ?_
        rintro e w6 ⟨rfl, hb⟩
        obtain ⟨hcw6, hfw6⟩ := bcell hb
        have HBw6 : Hid (Below w.heap.size w w6) := Below.go (by have hpre := HBw5.out; have hps := hpre.size; go_grown) hb (by have hpre := HBw5.out; have hps := hpre.size; go_size)
        have HEw6 := Lib.hid hb
        clear hb
        have A_w6 := Lib.hid (A_w5.out.below (HEw6.out) A_w5.out.lt)
        have B_w6 := Lib.hid (B_w5.out.below (HEw6.out) B_w5.out.lt)
        have X_w6 := Lib.hid (X_w5.out.below (HEw6.out) X_w5.out.lt)
        try clear A0 A1 A2 Al
        obtain ⟨A0, A1, A2, Al⟩ := A_w6.out
        try clear B0 B1 B2 Bl
        obtain ⟨B0, B1, B2, Bl⟩ := B_w6.out
        try clear X0 X1 X2 Xl
        obtain ⟨X0, X1, X2, Xl⟩ := X_w6.out
        clear hcw6 hfw6
        go_wp2_with fail
        refine (P3.out _).mono ?_
        rintro e w7 ⟨rfl, hb⟩
        obtain ⟨hcw7, hfw7⟩ := bcell hb
        have HBw7 : Hid (Below w.heap.size w w7) := Below.go (by have hpre := HBw6.out; have hps := hpre.size; go_grown) hb (by have hpre := HBw6.out; have hps := hpre.size; go_size)
        have HEw7 := Lib.hid hb
        clear hb
        have A_w7 := Lib.hid (A_w6.out.below (HEw7.out) A_w6.out.lt)
        have B_w7 := Lib.hid (B_w6.out.below (HEw7.out) B_w6.out.lt)
        have X_w7 := Lib.hid (X_w6.out.below (HEw7.out) X_w6.out.lt)
        try clear A0 A1 A2 Al
        obtain ⟨A0, A1, A2, Al⟩ := A_w7.out
        try clear B0 B1 B2 Bl
        obtain ⟨B0, B1, B2, Bl⟩ := B_w7.out
        try clear X0 X1 X2 Xl
        obtain ⟨X0, X1, X2, Xl⟩ := X_w7.out
        clear hcw7 hfw7
        by_cases hf : nextE a two = 0
        · have N2 : Hid (NextIs a two (nextS a two) 0) := nextIs rfl hf
          have hne : one ≠ two → x ≠ nextS a two := HAP.out two hf
          have HNE := Lib.hid hne
          clear hne hf
          generalize nextS a two = y at *
          go_wp2_with fail
          refine (N2.out _).mono ?_
          rintro e wy ⟨rfl, hb⟩
          obtain ⟨hcwy, hfwy⟩ := bcell hb
          have HBwy : Hid (Below w.heap.size w wy) := Below.go (by have hpre := HBw7.out; have hps := hpre.size; go_grown) hb (by have hpre := HBw7.out; have hps := hpre.size; go_size)
          have HEwy := Lib.hid hb
          clear hb
          have X_wy := Lib.hid (X_w7.out.below (HEwy.out) X_w7.out.lt)
          try clear X0 X1 X2 Xl
          obtain ⟨X0, X1, X2, Xl⟩ := X_wy.out
          clear hcwy hfwy HAP HLE N2
          by_cases h12 : one = two
          · have e12 : (one == two) = true := by simpa using h12
            clear h12
            go_wp2
            go_ret
            exact ⟨rfl, by have h := HBwy.out; have hs := h.size; go_grown⟩
          · have e12 : (one == two) = false := by simpa using h12
            have qxy := ne_stamp_no (HNE.out h12)
            clear h12
            go_wp2
            go_ret
            exact ⟨rfl, by have h := HBwy.out; have hs := h.size; go_grown⟩
        · have N2 : Hid (NextIs a two zeroS (nextE a two)) := nextIs (next_zero hf) rfl
          have he2 : (nextE a two != 0) = true := by simpa using hf
          clear hf
          generalize nextE a two = ne2 at *
          go_wp2_with fail
          refine (N2.out _).mono ?_
          rintro e wy ⟨rfl, hb⟩
          obtain ⟨hcwy, hfwy⟩ := bcell hb
          have HBwy : Hid (Below w.heap.size w wy) := Below.go (by have hpre := HBw7.out; have hps := hpre.size; go_grown) hb (by have hpre := HBw7.out; have hps := hpre.size; go_size)
          have HEwy := Lib.hid hb
          clear hb
          clear hcwy hfwy HAP HLE N2
          unfold zeroS
          go_wp2
          go_ret
          exact ⟨rfl, by have h := HBwy.out; have hs := h.size; go_grown⟩
      · have P2 := Lib.hid (chkIs p2); clear p2
        have P3 : Hid (CmpIs b a (cmpS b a)) := cmpIs rfl
        have P4 : Hid (CmpIs b x (cmpS b x)) := cmpIs rfl
        generalize cmpS b a = vba' at *
        generalize cmpS b x = vbx at *
        go_wp2_with fail
        refine (P2.out _).mono ?_
        rintro e w6 ⟨rfl, hb⟩
        obtain ⟨hcw6, hfw6⟩ := bcell hb
        have HBw6 : Hid (Below w.heap.size w w6) := Below.go (by have hpre := HBw5.out; have hps := hpre.size; go_grown) hb (by have hpre := HBw5.out; have hps := hpre.size; go_size)
        have HEw6 := Lib.hid hb
        clear hb
        have A_w6 := Lib.hid (A_w5.out.below (HEw6.out) A_w5.out.lt)
        have B_w6 := Lib.hid (B_w5.out.below (HEw6.out) B_w5.out.lt)
        have X_w6 := Lib.hid (X_w5.out.below (HEw6.out) X_w5.out.lt)
        try clear A0 A1 A2 Al
        obtain ⟨A0, A1, A2, Al⟩ := A_w6.out
        try clear B0 B1 B2 Bl
        obtain ⟨B0, B1, B2, Bl⟩ := B_w6.out
        try clear X0 X1 X2 Xl
        obtain ⟨X0, X1, X2, Xl⟩ := X_w6.out
        clear hcw6 hfw6
        go_wp2_with fail
        refine (P3.out _).mono ?_
        rintro e w7 ⟨rfl, hb⟩
        obtain ⟨hcw7, hfw7⟩ := bcell hb
        have HBw7 : Hid (Below w.heap.size w w7) := Below.go (by have hpre := HBw6.out; have hps := hpre.size; go_grown) hb (by have hpre := HBw6.out; have hps := hpre.size; go_size)
        have HEw7 := Lib.hid hb
        clear hb
        have A_w7 := Lib.hid (A_w6.out.below (HEw7.out) A_w6.out.lt)
        have B_w7 := Lib.hid (B_w6.out.below (HEw7.out) B_w6.out.lt)
        have X_w7 := Lib.hid (X_w6.out.below (HEw7.out) X_w6.out.lt)
        try clear A0 A1 A2 Al
        obtain ⟨A0, A1, A2, Al⟩ := A_w7.out
        try clear B0 B1 B2 Bl
        obtain ⟨B0, B1, B2, Bl⟩ := B_w7.out
        try clear X0 X1 X2 Xl
        obtain ⟨X0, X1, X2, Xl⟩ := X_w7.out
        clear hcw7 hfw7
        go_wp2_with fail
        refine (P4.out _).mono ?_
        rintro e w8 ⟨rfl, hb⟩
        obtain ⟨hcw8, hfw8⟩ := bcell hb
        have HBw8 : Hid (Below w.heap.size w w8) := Below.go (by have hpre := HBw7.out; have hps := hpre.size; go_grown) hb (by have hpre := HBw7.out; have hps := hpre.size; go_size)
        have HEw8 := Lib.hid hb
        clear hb
        have A_w8 := Lib.hid (A_w7.out.below (HEw8.out) A_w7.out.lt)
        have B_w8 := Lib.hid (B_w7.out.below (HEw8.out) B_w7.out.lt)
        have X_w8 := Lib.hid (X_w7.out.below (HEw8.out) X_w7.out.lt)
        try clear A0 A1 A2 Al
        obtain ⟨A0, A1, A2, Al⟩ := A_w8.out
        try clear B0 B1 B2 Bl
        obtain ⟨B0, B1, B2, Bl⟩ := B_w8.out
        try clear X0 X1 X2 Xl
        obtain ⟨X0, X1, X2, Xl⟩ := X_w8.out
        clear hcw8 hfw8
        by_cases hf : nextE a two = 0
        · have N2 : Hid (NextIs a two (nextS a two) 0) := nextIs rfl hf
          have hne : one ≠ two → x ≠ nextS a two := HAP.out two hf
          have HNE := Lib.hid hne
          clear hne hf
          generalize nextS a two = y at *
          go_wp2_with fail
          refine (N2.out _).mono ?_
          rintro e wy ⟨rfl, hb⟩
          obtain ⟨hcwy, hfwy⟩ := bcell hb
          have HBwy : Hid (Below w.heap.size w wy) := Below.go (by have hpre := HBw8.out; have hps := hpre.size; go_grown) hb (by have hpre := HBw8.out; have hps := hpre.size; go_size)
          have HEwy := Lib.hid hb
          clear hb
          have X_wy := Lib.hid (X_w8.out.below (HEwy.out) X_w8.out.lt)
          try clear X0 X1 X2 Xl
          obtain ⟨X0, X1, X2, Xl⟩ := X_wy.out
          clear hcwy hfwy HAP HLE N2
          by_cases h12 : one = two
          · have e12 : (one == two) = true := by simpa using h12
            clear h12
            go_wp2
            go_ret
            exact ⟨rfl, by have h := HBwy.out; have hs := h.size; go_grown⟩
          · have e12 : (one == two) = false := by simpa using h12
            have qxy := ne_stamp_no (HNE.out h12)
            clear h12
            go_wp2
            go_ret
            exact ⟨rfl, by have h := HBwy.out; have hs := h.size; go_grown⟩
        · have N2 : Hid (NextIs a two zeroS (nextE a two)) := nextIs (next_zero hf) rfl
          have he2 : (nextE a two != 0) = true := by simpa using hf
          clear hf
          generalize nextE a two = ne2 at *
          go_wp2_with fail
          refine (N2.out _).mono ?_
          rintro e wy ⟨rfl, hb⟩
          obtain ⟨hcwy, hfwy⟩ := bcell hb
          have HBwy : Hid (Below w.heap.size w wy) := Below.go (by have hpre := HBw8.out; have hps := hpre.size; go_grown) hb (by have hpre := HBw8.out; have hps := hpre.size; go_size)
          have HEwy := Lib.hid hb
          clear hb
          clear hcwy hfwy HAP HLE N2
          unfold zeroS
          go_wp2
          go_ret
          exact ⟨rfl, by have h := HBwy.out; have hs := h.size; go_grown⟩
    · have NZ : Hid (NextIs a one zeroS (nextE a one)) := nextIs (next_zero he) rfl
      have he1 : (nextE a one != 0) = true := by simpa using he
      clear he
      generalize nextE a one = ne at *
      go_wp2_with fail
      refine (NZ.out _).mono ?_
      rintro e w3 ⟨rfl, hb⟩
      obtain ⟨hcw3, hfw3⟩ := bcell hb
      have HBw3 : Hid (Below w.heap.size w w3) := Below.go (by have hpre := HB2.out; have hps := hpre.size; go_grown) hb (by have hpre := HB2.out; have hps := hpre.size; go_size)
      have HEw3 := Lib.hid hb
      clear hb
      unfold zeroS
      go_wp2
      go_ret
      exact ⟨rfl, by have h := HBw3.out; have hs := h.size; go_grown⟩

theorem hlcNext_law (w : World) (a : Stp) (_ : InS a) (b : Stp) (_ : InS b) (c : Stp) (_ : InS c) (one : Int) (_ : (Lit.int .i32 one).wf = true) (two : Int) (_ : (Lit.int .i32 two).wf = true) :
    Calls Try.prog 4 #[.agg #[.int .i64 a.wall, .int .i32 a.logic, .int .i32 a.tag], .agg #[.int .i64 b.wall, .int .i32 b.logic, .int .i32 b.tag], .agg #[.int .i64 c.wall, .int .i32 c.logic, .int .i32 c.tag], .int .i32 one, .int .i32 two] w
      fun e w' => e = .returned (.bool true) ∧ Below w.heap.size w w' :=
  hlcNext_walk w a b c one two
end Go.Proofs.Ythijpcbblmcfiaa
