/- The walk of the chapter's numbers and examples on clocks. -/
import Derived.Test.YthijpcbblmcfiaaHf
import Derived.Test.YthijpcbblmcfiaaHg
namespace Go.Proofs.Ythijpcbblmcfiaa
open Go.RowKit Go.St
set_option linter.unusedVariables false
set_option linter.unusedSimpArgs false

theorem hhear_at (b : Nat) (o : Int) (p q r : Int) (x y z t d : Int) (p' q' r' : Int) (hE : hearE o ⟨x, y, z⟩ t = d) (hL : hearL o ⟨p, q, r⟩ ⟨x, y, z⟩ t = ⟨p', q', r'⟩) (w : World) (h : Clk w b o ⟨p, q, r⟩) :
    Calls Try.prog 25 #[.pointer (some ⟨b, 0, none⟩), .agg #[.int .i64 x, .int .i32 y, .int .i32 z], .int .i64 t] w fun e w' =>
      e = .returned (.int .i64 d) ∧ Only w.heap.size b w w' ∧ Clk w' b o ⟨p', q', r'⟩ := by
  have k := hhear_any b o ⟨p, q, r⟩ ⟨x, y, z⟩ t w h
  unfold HearPost at k
  rw [hE, hL] at k
  exact k
theorem hlast_at (b : Nat) (o : Int) (p q r : Int) (w : World) (h : Clk w b o ⟨p, q, r⟩) : Calls Try.prog 26 #[.pointer (some ⟨b, 0, none⟩)] w fun e w' =>
    e = .returned (.agg #[.int .i64 p, .int .i32 q, .int .i32 r]) ∧ Below w.heap.size w w' := hlast_any b o ⟨p, q, r⟩ w h

set_option maxHeartbeats 3200000 in
set_option maxRecDepth 100000 in
theorem hlcNames_walk (w : World) : Calls Try.prog 5 #[] w fun e w' => e = .returned (.bool true) ∧ Below w.heap.size w w' := by
  have hcmp : ∀ w : World, Calls Try.prog 18 #[.agg #[.int .i64 1, .int .i32 0, .int .i32 5], .agg #[.int .i64 1, .int .i32 1, .int .i32 0]] w fun e w' => e = .returned (.int .i64 (-1)) ∧ Below w.heap.size w w' :=
    fun w => cmpIs (s := ⟨1, 0, 5⟩) (t := ⟨1, 1, 0⟩) (by decide) w
  have HCMP := Lib.hid hcmp; clear hcmp
  go_enter Try.func5, Try.ntmps5
  go_wp2_with fail
  refine (lives20_any _).mono ?_
  rintro e w1 ⟨rfl, hb⟩
  obtain ⟨hcw1, hfw1⟩ := bcell hb
  have HBw1 : Hid (Below w.heap.size w w1) := Below.go (by go_grown) hb (by go_size)
  have HEw1 := Lib.hid hb
  clear hb
  clear hcw1 hfw1 HEw1
  go_wp2_with fail
  refine (hst_any 3 2 9 _).mono ?_
  rintro e w2 ⟨rfl, hb⟩
  obtain ⟨hcw2, hfw2⟩ := bcell hb
  have HBw2 : Hid (Below w.heap.size w w2) := Below.go (by have hpre := HBw1.out; have hps := hpre.size; go_grown) hb (by have hpre := HBw1.out; have hps := hpre.size; go_size)
  have HEw2 := Lib.hid hb
  clear hb
  clear hcw2 hfw2 HEw2
  go_wp2_with fail
  refine (hnew_ok 5 ⟨3, 2, 9⟩ _ (by decide) (by decide) (by decide)).mono ?_
  rintro e w3 ⟨c, rfl, hcl, hk, hb⟩
  have HB3 : Hid (Below w.heap.size w w3) := Below.go HBw2.out hb HBw2.out.size
  have K3 : Hid (Clk w3 c 5 ⟨3, 2, 0⟩) := hk
  have hb0 : w.heap.size ≤ c := by have := HBw2.out.size; omega
  clear hk hb
  go_wp2_with fail
  refine (hnow_at c 5 3 2 0 2 3 3 0 0 3 3 0 (by decide) (by decide) (by decide) (by decide) _ K3.out).mono ?_
  rintro e w4 ⟨rfl, ho, hk⟩
  have HB4 : Hid (Below w.heap.size w w4) := Below.onto HB3.out ho hb0 HB3.out.size
  have c4 := hk.lt
  have X4 := Lib.hid (bx_new w4 ⟨3, 3, 0⟩ 23)
  have K4 := Lib.hid (hk.below ((Below.refl w4.heap.size w4).alloc (Nat.le_refl _) (.cells #[.int .i64 3, .int .i32 3, .int .i32 0] 23)) hk.lt)
  clear ho hk
  go_wp2_with fail
  refine (hnow_at c 5 3 3 0 4 4 0 0 0 4 0 0 (by decide) (by decide) (by decide) (by decide) _ K4.out).mono ?_
  rintro e w5 ⟨rfl, ho, hk⟩
  have s5 := ho.size
  rw [World.size_alloc] at s5
  have HB5 : Hid (Below w.heap.size w w5) := Below.onto (HB4.out.alloc HB4.out.size _) ho hb0 (by have := HB4.out.size; go_size)
  have X5 := Lib.hid (X4.out.only ho X4.out.lt (by omega))
  have c5 := hk.lt
  have Y5 := Lib.hid (bx_new w5 ⟨4, 0, 0⟩ 23)
  have K5 := Lib.hid (hk.below ((Below.refl w5.heap.size w5).alloc (Nat.le_refl _) (.cells #[.int .i64 4, .int .i32 0, .int .i32 0] 23)) hk.lt)
  clear ho hk X4
  go_wp2_with fail
  refine (hnow_at c 5 4 0 0 4 4 1 0 0 4 1 0 (by decide) (by decide) (by decide) (by decide) _ K5.out).mono ?_
  rintro e w6 ⟨rfl, ho, hk⟩
  have s6 := ho.size
  rw [World.size_alloc] at s6
  have HB6 : Hid (Below w.heap.size w w6) := Below.onto (HB5.out.alloc HB5.out.size _) ho hb0 (by have := HB5.out.size; go_size)
  have X6 := (X5.out.alloc _).only ho (X5.out.alloc _).lt (by omega)
  have Y6 := Y5.out.only ho Y5.out.lt (by omega)
  have c6 := hk.lt
  have K6 := Lib.hid hk
  obtain ⟨X0, X1, X2, Xl⟩ := X6
  obtain ⟨Y0, Y1, Y2, Yl⟩ := Y6
  have xl : w4.heap.size < w6.heap.size + 1 := by omega
  have yl : w5.heap.size < w6.heap.size + 1 := by omega
  clear ho hk X5 Y5
  go_wp2
  refine wp_qall (by kernel_rfl) (by kernel_rfl) ?_
  intro hcg
  repeat (first | go_big_quiet_step ((with_reducible (exact Calls.reg (hst_any _ _ _ _)))) | quiet_step ((with_reducible (exact Calls.reg (hst_any _ _ _ _)))))
  refine wpQuiet_nil ?_
  intro w7 hbw7 hcw7 hfw7
  clear hcg
  have HB7 : Hid (Below w.heap.size w w7) := Below.go (HB6.out.alloc HB6.out.size _) hbw7 (by have h := HB6.out.size; go_size)
  have K7 := Lib.hid (K6.out.below (show Below w6.heap.size w6 w7 from Below.go (by go_grown) hbw7 (by go_size)) c6)
  clear hbw7 hcw7 hfw7 X0 X1 X2 Xl Y0 Y1 Y2 Yl xl yl s5 s6 c4 c5
  go_wp2_with fail
  refine (hst_any 9 0 1 _).mono ?_
  rintro e w8 ⟨rfl, hb⟩
  obtain ⟨hcw8, hfw8⟩ := bcell hb
  have HBw8 : Hid (Below w.heap.size w w8) := Below.go (by have hpre := HB7.out; have hps := hpre.size; go_grown) hb (by have hpre := HB7.out; have hps := hpre.size; go_size)
  have HEw8 := Lib.hid hb
  clear hb
  have K8 := Lib.hid (K7.out.below HEw8.out K7.out.lt)
  clear hcw8 hfw8
  go_wp2_with fail
  refine (hhear_at c 5 4 1 0 9 0 1 3 19 4 1 0 (by decide) (by decide) _ K8.out).mono ?_
  rintro e w9 ⟨rfl, ho, hk⟩
  have HB9 : Hid (Below w.heap.size w w9) := Below.onto HBw8.out ho hb0 HBw8.out.size
  have K9 := Lib.hid hk
  clear ho hk
  go_wp2_with fail
  refine (hst_any 9 0 1 _).mono ?_
  rintro e w10 ⟨rfl, hb⟩
  obtain ⟨hcw10, hfw10⟩ := bcell hb
  have HBw10 : Hid (Below w.heap.size w w10) := Below.go (by have hpre := HB9.out; have hps := hpre.size; go_grown) hb (by have hpre := HB9.out; have hps := hpre.size; go_size)
  have HEw10 := Lib.hid hb
  clear hb
  have K10 := Lib.hid (K9.out.below HEw10.out K9.out.lt)
  clear hcw10 hfw10
  go_wp2_with fail
  refine (hhear_at c 5 4 1 0 9 0 1 4 0 9 0 0 (by decide) (by decide) _ K10.out).mono ?_
  rintro e w11 ⟨rfl, ho, hk⟩
  have HB11 : Hid (Below w.heap.size w w11) := Below.onto HBw10.out ho hb0 HBw10.out.size
  have K11 := Lib.hid hk
  clear ho hk
  go_wp2_with fail
  refine (hlast_at c 5 9 0 0 _ K11.out).mono ?_
  rintro e w12 ⟨rfl, hb⟩
  obtain ⟨hcw12, hfw12⟩ := bcell hb
  have HBw12 : Hid (Below w.heap.size w w12) := Below.go (by have hpre := HB11.out; have hps := hpre.size; go_grown) hb (by have hpre := HB11.out; have hps := hpre.size; go_size)
  have HEw12 := Lib.hid hb
  clear hb
  have K12 := Lib.hid (K11.out.below HEw12.out K11.out.lt)
  clear hcw12 hfw12
  go_wp2_with fail
  refine (hst_any 9 0 0 _).mono ?_
  rintro e w13 ⟨rfl, hb⟩
  obtain ⟨hcw13, hfw13⟩ := bcell hb
  have HBw13 : Hid (Below w.heap.size w w13) := Below.go (by have hpre := HBw12.out; have hps := hpre.size; go_grown) hb (by have hpre := HBw12.out; have hps := hpre.size; go_size)
  have HEw13 := Lib.hid hb
  clear hb
  have K13 := Lib.hid (K12.out.below HEw13.out K12.out.lt)
  clear hcw13 hfw13
  go_wp2_with fail
  refine (hnow_at c 5 9 0 0 4 9 1 0 0 9 1 0 (by decide) (by decide) (by decide) (by decide) _ K13.out).mono ?_
  rintro e w14 ⟨rfl, ho, hk⟩
  have HB14 : Hid (Below w.heap.size w w14) := Below.onto HBw13.out ho hb0 HBw13.out.size
  clear ho hk K3 K4 K5 K6 K7 K8 K9 K10 K11 K12 K13 HEw8 HEw10 HEw12 HEw13 HB3 HB4 HB5 HB6 HB7 HB9 HB11 c6
  go_wp2_with fail
  refine (hst_any 1 0 5 _).mono ?_
  rintro e w15 ⟨rfl, hb⟩
  obtain ⟨hcw15, hfw15⟩ := bcell hb
  have HBw15 : Hid (Below w.heap.size w w15) := Below.go (by have hpre := HB14.out; have hps := hpre.size; go_grown) hb (by have hpre := HB14.out; have hps := hpre.size; go_size)
  have HEw15 := Lib.hid hb
  clear hb
  have X15 := Lib.hid ((bx_new w14 ⟨9, 1, 0⟩ 23).below HEw15.out (by simp))
  clear hcw15 hfw15
  go_wp2_with fail
  refine (hnext_at 1 0 5 3 1 1 3 0 (by decide) (by decide) _).mono ?_
  rintro e w16 ⟨rfl, hb⟩
  obtain ⟨hcw16, hfw16⟩ := bcell hb
  have HBw16 : Hid (Below w.heap.size w w16) := Below.go (by have hpre := HBw15.out; have hps := hpre.size; go_grown) hb (by have hpre := HBw15.out; have hps := hpre.size; go_size)
  have HEw16 := Lib.hid hb
  clear hb
  have X16 := Lib.hid (X15.out.below HEw16.out X15.out.lt)
  clear hcw16 hfw16
  go_wp2_with fail
  refine (hst_any 1 1048576 5 _).mono ?_
  rintro e w17 ⟨rfl, hb⟩
  obtain ⟨hcw17, hfw17⟩ := bcell hb
  have HBw17 : Hid (Below w.heap.size w w17) := Below.go (by have hpre := HBw16.out; have hps := hpre.size; go_grown) hb (by have hpre := HBw16.out; have hps := hpre.size; go_size)
  have HEw17 := Lib.hid hb
  clear hb
  have X17 := Lib.hid ((X16.out.alloc _).below HEw17.out (X16.out.alloc _).lt)
  have Y17 := Lib.hid ((bx_new w16 ⟨1, 1, 3⟩ 23).below HEw17.out (by simp))
  clear hcw17 hfw17
  go_wp2_with fail
  refine (hnext_at 1 1048576 5 3 0 0 0 8 (by decide) (by decide) _).mono ?_
  rintro e w18 ⟨rfl, hb⟩
  obtain ⟨hcw18, hfw18⟩ := bcell hb
  have HBw18 : Hid (Below w.heap.size w w18) := Below.go (by have hpre := HBw17.out; have hps := hpre.size; go_grown) hb (by have hpre := HBw17.out; have hps := hpre.size; go_size)
  have HEw18 := Lib.hid hb
  clear hb
  obtain ⟨X0, X1, X2, Xl⟩ := X17.out.below HEw18.out X17.out.lt
  obtain ⟨Y0, Y1, Y2, Yl⟩ := Y17.out.below HEw18.out Y17.out.lt
  have xl : w14.heap.size < w18.heap.size + 1 := by omega
  have yl : w16.heap.size < w18.heap.size + 1 := by omega
  clear hcw18 hfw18
  go_wp2
  refine wp_qall (by kernel_rfl) (by kernel_rfl) ?_
  intro hcg
  repeat (first | go_big_quiet_step ((with_reducible (first | exact Calls.reg (hst_any _ _ _ _) | exact Calls.reg (HCMP.out _)))) | quiet_step ((with_reducible (first | exact Calls.reg (hst_any _ _ _ _) | exact Calls.reg (HCMP.out _)))))
  refine wpQuiet_nil ?_
  intro w19 hbw19 hcw19 hfw19
  clear hcg
  have HB19 : Hid (Below w.heap.size w w19) := Below.go (by have h := HBw18.out; have hs := h.size; go_grown) hbw19 (by have h := HBw18.out.size; go_size)
  clear hbw19
  go_wp2
  go_ret
  exact ⟨rfl, HB19.out⟩
end Go.Proofs.Ythijpcbblmcfiaa
