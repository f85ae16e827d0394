/- The walks of the laws on stamps: lives, HlcCalls. -/
import Derived.Test.YthijpcbblmcfiaaHe
namespace Go.Proofs.Ythijpcbblmcfiaa
open Go.RowKit Go.St
set_option linter.unusedVariables false
set_option linter.unusedSimpArgs false

theorem hst_any (a b c : Int) (w : World) : Calls Try.prog 23 #[.int .i64 a, .int .i32 b, .int .i32 c] w fun e w' => e = .returned (.agg #[.int .i64 a, .int .i32 b, .int .i32 c]) ∧ Below w.heap.size w w' := by
  go_enter Try.func23, Try.ntmps23
  go_wp2
  refine bodyPost_ret (v := .agg #[.int .i64 a, .int .i32 b, .int .i32 c]) (by simp [results, Try.results23, go_sem]) rfl ⟨rfl, by go_grown⟩

/-- A stamp in a block. -/
structure Bx (w : World) (b : Nat) (s : Stp) : Prop where
  c0 : w.cell? ⟨b, 0, none⟩ = some (.int .i64 s.wall)
  c1 : w.cell? ⟨b, 1, none⟩ = some (.int .i32 s.logic)
  c2 : w.cell? ⟨b, 2, none⟩ = some (.int .i32 s.tag)
  lt : b < w.heap.size
theorem Bx.keep {w w' : World} {b : Nat} {s : Stp} (h : Bx w b s) (hc : ∀ i, w'.cell? ⟨b, i, none⟩ = w.cell? ⟨b, i, none⟩) (hs : w.heap.size ≤ w'.heap.size) : Bx w' b s :=
  ⟨(hc 0).trans h.c0, (hc 1).trans h.c1, (hc 2).trans h.c2, Nat.lt_of_lt_of_le h.lt hs⟩
theorem Bx.below {w w' : World} {b B : Nat} {s : Stp} (h : Bx w b s) (hb : Below B w w') (hB : b < B) : Bx w' b s := h.keep (fun i => hb.cell (p := ⟨b, i, none⟩) hB) hb.size
theorem Bx.only {w w' : World} {b x B : Nat} {s : Stp} (h : Bx w b s) (hb : Only B x w w') (hB : b < B) (hx : b ≠ x) : Bx w' b s := h.keep (fun i => hb.cell (p := ⟨b, i, none⟩) hB hx) hb.size
theorem Bx.alloc {w : World} {b : Nat} {s : Stp} (h : Bx w b s) (o : Obj) : Bx (w.alloc o) b s := h.below ((Below.refl w.heap.size w).alloc (Nat.le_refl _) o) h.lt
theorem bx_new (w : World) (s : Stp) (t : TypeId) : Bx (w.alloc (.cells #[.int .i64 s.wall, .int .i32 s.logic, .int .i32 s.tag] t)) w.heap.size s := by
  constructor <;> simp [go_sem]

/-- Two stamps told apart, or told the same. -/
theorem eq_stamp (a b : Stp) (w : World) : (binOp .eql 23 (.agg #[.int .i64 a.wall, .int .i32 a.logic, .int .i32 a.tag]) (.agg #[.int .i64 b.wall, .int .i32 b.logic, .int .i32 b.tag])).run Try.prog w = .ok (.bool (decide (a = b))) w := by
  obtain ⟨x, y, z⟩ := a
  obtain ⟨x', y', z'⟩ := b
  by_cases h1 : x = x' <;> by_cases h2 : y = y' <;> by_cases h3 : z = z' <;> simp [go_sem, h1, h2, h3]
theorem ne_stamp (a b : Stp) (w : World) : (binOp .neq 23 (.agg #[.int .i64 a.wall, .int .i32 a.logic, .int .i32 a.tag]) (.agg #[.int .i64 b.wall, .int .i32 b.logic, .int .i32 b.tag])).run Try.prog w = .ok (.bool (!decide (a = b))) w := by
  obtain ⟨x, y, z⟩ := a
  obtain ⟨x', y', z'⟩ := b
  by_cases h1 : x = x' <;> by_cases h2 : y = y' <;> by_cases h3 : z = z' <;> simp [go_sem, h1, h2, h3]
theorem eq_stamp_no {a b : Stp} (h : a ≠ b) (w : World) : (binOp .eql 23 (.agg #[.int .i64 a.wall, .int .i32 a.logic, .int .i32 a.tag]) (.agg #[.int .i64 b.wall, .int .i32 b.logic, .int .i32 b.tag])).run Try.prog w = .ok (.bool false) w := by
  rw [eq_stamp, decide_eq_false h]
theorem ne_stamp_no {a b : Stp} (h : a ≠ b) (w : World) : (binOp .neq 23 (.agg #[.int .i64 a.wall, .int .i32 a.logic, .int .i32 a.tag]) (.agg #[.int .i64 b.wall, .int .i32 b.logic, .int .i32 b.tag])).run Try.prog w = .ok (.bool true) w := by
  rw [ne_stamp, decide_eq_false h]; rfl

theorem bx_three (w : World) (a b c : Stp) (t : TypeId) :
    Bx (((w.alloc (.cells #[.int .i64 a.wall, .int .i32 a.logic, .int .i32 a.tag] t)).alloc (.cells #[.int .i64 b.wall, .int .i32 b.logic, .int .i32 b.tag] t)).alloc (.cells #[.int .i64 c.wall, .int .i32 c.logic, .int .i32 c.tag] t)) w.heap.size a ∧
    Bx (((w.alloc (.cells #[.int .i64 a.wall, .int .i32 a.logic, .int .i32 a.tag] t)).alloc (.cells #[.int .i64 b.wall, .int .i32 b.logic, .int .i32 b.tag] t)).alloc (.cells #[.int .i64 c.wall, .int .i32 c.logic, .int .i32 c.tag] t)) (w.heap.size + 1) b ∧
    Bx (((w.alloc (.cells #[.int .i64 a.wall, .int .i32 a.logic, .int .i32 a.tag] t)).alloc (.cells #[.int .i64 b.wall, .int .i32 b.logic, .int .i32 b.tag] t)).alloc (.cells #[.int .i64 c.wall, .int .i32 c.logic, .int .i32 c.tag] t)) (w.heap.size + 1 + 1) c := by
  refine ⟨((bx_new w a t).alloc _).alloc _, ?_, ?_⟩
  · have h := (bx_new (w.alloc (.cells #[.int .i64 a.wall, .int .i32 a.logic, .int .i32 a.tag] t)) b t).alloc (.cells #[.int .i64 c.wall, .int .i32 c.logic, .int .i32 c.tag] t)
    rw [World.size_alloc] at h
    exact h
  · have h := bx_new ((w.alloc (.cells #[.int .i64 a.wall, .int .i32 a.logic, .int .i32 a.tag] t)).alloc (.cells #[.int .i64 b.wall, .int .i32 b.logic, .int .i32 b.tag] t)) c t
    rw [World.size_alloc, World.size_alloc] at h
    exact h

/-- The next stamp, its outcome known. -/
theorem hnext_at (a b c tag : Int) (x y z d : Int) (hE : nextE ⟨a, b, c⟩ tag = d) (hS : nextS ⟨a, b, c⟩ tag = ⟨x, y, z⟩) (w : World) : Calls Try.prog 13 #[.agg #[.int .i64 a, .int .i32 b, .int .i32 c], .int .i32 tag] w fun e w' =>
    e = .returned (.tuple #[.agg #[.int .i64 x, .int .i32 y, .int .i32 z], .int .i64 d]) ∧ Below w.heap.size w w' := by
  have h := hnext_any ⟨a, b, c⟩ tag w
  unfold NextPost at h
  rw [hE, hS] at h
  exact h
theorem hnow_at (b : Nat) (o : Int) (p q r : Int) (t : Int) (x y z d p' q' r' : Int) (hE : nowE ⟨p, q, r⟩ t = d) (hS : nowS ⟨p, q, r⟩ t = ⟨x, y, z⟩) (hL : nowL ⟨p, q, r⟩ t = ⟨p', q', r'⟩) (hok : okS ⟨p, q, r⟩ = true) (w : World) (h : Clk w b o ⟨p, q, r⟩) :
    Calls Try.prog 24 #[.pointer (some ⟨b, 0, none⟩), .int .i64 t] w fun e w' =>
      e = .returned (.tuple #[.agg #[.int .i64 x, .int .i32 y, .int .i32 z], .int .i64 d]) ∧ Only w.heap.size b w w' ∧ Clk w' b o ⟨p', q', r'⟩ := by
  have k := hnow_any b o ⟨p, q, r⟩ t w h hok
  unfold NowPost at k
  rw [hE, hS, hL] at k
  exact k

set_option maxHeartbeats 1600000 in
set_option maxRecDepth 100000 in
theorem lives20_any (w : World) : Calls Try.prog 15 #[] w fun e w' => e = .returned (.bool true) ∧ Below w.heap.size w w' := by
  go_enter Try.func15, Try.ntmps15
  go_wp2_with fail
  refine (hst_any 1 0 5 _).mono ?_
  rintro e w1 ⟨rfl, hb⟩
  obtain ⟨hcw1, hfw1⟩ := bcell hb
  have HBw1 : Hid (Below w.heap.size w w1) := Below.go (by go_grown) hb (by go_size)
  have HEw1 := Lib.hid hb
  clear hb
  go_wp2_with fail
  refine (hnext_at 1 0 5 7 1 0 7 0 (by decide) (by decide) _).mono ?_
  rintro e w2 ⟨rfl, hb⟩
  obtain ⟨hcw2, hfw2⟩ := bcell hb
  have HBw2 : Hid (Below w.heap.size w w2) := Below.go (by have hpre := HBw1.out; have hps := hpre.size; go_grown) hb (by have hpre := HBw1.out; have hps := hpre.size; go_size)
  have HEw2 := Lib.hid hb
  clear hb
  clear hcw1 hfw1 hcw2 hfw2 HEw1 HEw2
  go_wp2_with fail
  refine (hst_any 1 0 5 _).mono ?_
  rintro e w3 ⟨rfl, hb⟩
  obtain ⟨hcw3, hfw3⟩ := bcell hb
  have HBw3 : Hid (Below w.heap.size w w3) := Below.go (by have hpre := HBw2.out; have hps := hpre.size; go_grown) hb (by have hpre := HBw2.out; have hps := hpre.size; go_size)
  have HEw3 := Lib.hid hb
  clear hb
  have A3 := Lib.hid ((bx_new w2 ⟨1, 0, 7⟩ 23).below HEw3.out (by simp))
  clear hcw3 hfw3
  go_wp2_with fail
  refine (hnext_at 1 0 5 5 1 1 5 0 (by decide) (by decide) _).mono ?_
  rintro e w4 ⟨rfl, hb⟩
  obtain ⟨hcw4, hfw4⟩ := bcell hb
  have HBw4 : Hid (Below w.heap.size w w4) := Below.go (by have hpre := HBw3.out; have hps := hpre.size; go_grown) hb (by have hpre := HBw3.out; have hps := hpre.size; go_size)
  have HEw4 := Lib.hid hb
  clear hb
  have A4 := Lib.hid (A3.out.below HEw4.out A3.out.lt)
  clear hcw4 hfw4
  go_wp2_with fail
  refine (hst_any 3 2 9 _).mono ?_
  rintro e w5 ⟨rfl, hb⟩
  obtain ⟨hcw5, hfw5⟩ := bcell hb
  have HBw5 : Hid (Below w.heap.size w w5) := Below.go (by have hpre := HBw4.out; have hps := hpre.size; go_grown) hb (by have hpre := HBw4.out; have hps := hpre.size; go_size)
  have HEw5 := Lib.hid hb
  clear hb
  have A5 := Lib.hid ((A4.out.alloc _).below HEw5.out (A4.out.alloc _).lt)
  have B5 := Lib.hid ((bx_new w4 ⟨1, 1, 5⟩ 23).below HEw5.out (by simp))
  clear hcw5 hfw5
  go_wp2_with fail
  refine (hnew_ok 5 ⟨3, 2, 9⟩ _ (by decide) (by decide) (by decide)).mono ?_
  rintro e w6 ⟨c, rfl, hcl, hk, hb⟩
  have HB6 : Hid (Below w.heap.size w w6) := Below.go HBw5.out hb HBw5.out.size
  have A6 := Lib.hid (A5.out.below hb A5.out.lt)
  have B6 := Lib.hid (B5.out.below hb B5.out.lt)
  have K6 := Lib.hid hk
  have a6 := A5.out.lt
  have b6 := B5.out.lt
  have hb0 := HBw5.out.size
  clear hk hb
  go_wp2_with fail
  refine (hnow_at c 5 3 2 0 2 3 3 0 0 3 3 0 (by decide) (by decide) (by decide) (by decide) _ K6.out).mono ?_
  rintro e w7 ⟨rfl, ho, hk⟩
  have HB7 : Hid (Below w.heap.size w w7) := Below.onto HB6.out ho (by omega) HB6.out.size
  have A7 := A6.out.only ho A6.out.lt (by omega)
  have B7 := B6.out.only ho B6.out.lt (by omega)
  obtain ⟨a0, a1, a2, a3⟩ := A7
  obtain ⟨b0, b1, b2, b3⟩ := B7
  clear hk ho
  have a4 : w2.heap.size < w7.heap.size + 1 := by omega
  have b4 : w4.heap.size < w7.heap.size + 1 := by omega
  go_wp2
  refine wp_qall (by kernel_rfl) (by kernel_rfl) ?_
  intro hcg
  repeat (first | go_big_quiet_step ((first | exact Calls.reg (hst_any _ _ _ _))) | quiet_step ((first | exact Calls.reg (hst_any _ _ _ _))))
  refine wpQuiet_nil ?_
  intro wq hbwq hcwq hfwq
  clear hcg
  have HBq : Hid (Below w.heap.size w wq) := Below.go (HB7.out.alloc HB7.out.size _) hbwq (by have h := HB7.out.size; go_size)
  clear hbwq
  go_wp2
  go_ret
  exact ⟨rfl, HBq.out⟩

set_option maxHeartbeats 1600000 in
set_option maxRecDepth 100000 in
theorem hlcCalls_walk (w : World) (a b : Stp) (tag : Int) :
    Calls Try.prog 3 #[.agg #[.int .i64 a.wall, .int .i32 a.logic, .int .i32 a.tag], .agg #[.int .i64 b.wall, .int .i32 b.logic, .int .i32 b.tag], .int .i32 tag] w fun e w' => e = .returned (.bool true) ∧ Below w.heap.size w w' := by
  go_enter Try.func3, Try.ntmps3
  go_wp2_with fail
  refine (hnext_any a tag _).mono ?_
  rintro e w1 ⟨rfl, hb⟩
  obtain ⟨hcw1, hfw1⟩ := bcell hb
  have HBw1 : Hid (Below w.heap.size w w1) := Below.go (by go_grown) hb (by go_size)
  have hzw10 : w.heap.size < w1.heap.size := by have := hb.size; simp at this; omega
  have hzw11 : w.heap.size + 1 < w1.heap.size := by have := hb.size; simp at this; omega
  have HEw1 := Lib.hid hb
  clear hb
  have A1 := Lib.hid (((bx_new w a 23).alloc (.cells #[.int .i64 b.wall, .int .i32 b.logic, .int .i32 b.tag] 23)).below HEw1.out (by simp; omega))
  have b1 := (bx_new (w.alloc (.cells #[.int .i64 a.wall, .int .i32 a.logic, .int .i32 a.tag] 23)) b 23).below HEw1.out (by simp)
  rw [World.size_alloc] at b1
  have B1 := Lib.hid b1; clear b1
  have hz := HBw1.out.size
  clear hcw1 hfw1 HEw1
  obtain ⟨x0, x1, x2, -⟩ := A1.out
  go_wp2_with fail
  refine (rnext_any a tag _).mono ?_
  rintro e w2 ⟨rfl, hb⟩
  obtain ⟨hcw2, hfw2⟩ := bcell hb
  have HBw2 : Hid (Below w.heap.size w w2) := Below.go (by have hpre := HBw1.out; have hps := hpre.size; go_grown) hb (by have hpre := HBw1.out; have hps := hpre.size; go_size)
  have HEw2 := Lib.hid hb
  clear hb
  have A2 := (A1.out.alloc _).below HEw2.out (A1.out.alloc _).lt
  have B2 := (B1.out.alloc _).below HEw2.out (B1.out.alloc _).lt
  have N2 := (bx_new w1 (nextS a tag) 23).below HEw2.out (by simp)
  have hs2 := HEw2.out.size
  rw [World.size_alloc] at hs2
  have n2 : w1.heap.size < w2.heap.size + 1 := by omega
  have a2 : w.heap.size < w2.heap.size + 1 := by omega
  have b2 : w.heap.size + 1 < w2.heap.size + 1 := by omega
  have n3 : w1.heap.size < w2.heap.size := by omega
  have a3 : w.heap.size < w2.heap.size := by omega
  have b3 : w.heap.size + 1 < w2.heap.size := by omega
  obtain ⟨a4, a5, a6, -⟩ := A2
  obtain ⟨b4, b5, b6, -⟩ := B2
  obtain ⟨n4, n5, n6, -⟩ := N2
  clear hcw2 hfw2 HEw2 hs2 A1 B1 x0 x1 x2
  generalize nextS a tag = n at *
  generalize nextE a tag = ne at *
  have hm1 : ((chk a) == chk a) = true := by simp
  have hm2 : ((cmpS a b) == cmpS a b) = true := by simp
  go_wp2
  refine wp_qall (by kernel_rfl) (by kernel_rfl) ?_
  intro hcg
  repeat (first | go_big_quiet_step ((first | exact Calls.reg (lives20_any _) | exact Calls.reg (hcheck_any a _) | exact Calls.reg (rcheck_any a _) | exact Calls.reg (hcompare_any a b _) | exact Calls.reg (rcompare_any a b _) | exact Calls.reg (hmax_any a b _) | exact Calls.reg (rmax_any a b _))) | quiet_step ((first | exact Calls.reg (lives20_any _) | exact Calls.reg (hcheck_any a _) | exact Calls.reg (rcheck_any a _) | exact Calls.reg (hcompare_any a b _) | exact Calls.reg (rcompare_any a b _) | exact Calls.reg (hmax_any a b _) | exact Calls.reg (rmax_any a b _))))
  refine wpQuiet_nil ?_
  intro wq hbwq hcwq hfwq
  clear hcg
  have HBq : Hid (Below w.heap.size w wq) := Below.go (by have h := HBw2.out; have hs := h.size; go_grown) hbwq (by have h := HBw2.out.size; go_size)
  clear hbwq
  go_wp2
  go_ret
  exact ⟨rfl, HBq.out⟩
end Go.Proofs.Ythijpcbblmcfiaa
