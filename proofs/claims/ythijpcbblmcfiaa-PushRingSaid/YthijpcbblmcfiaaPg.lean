/- Walks: the chapter's first examples of pushes; any record and any meeting. -/
import Derived.Test.YthijpcbblmcfiaaPf
namespace Go.Proofs.Ythijpcbblmcfiaa
open Go.RowKit Go.St
set_option linter.unusedVariables false
set_option linter.unusedSimpArgs false
set_option maxRecDepth 100000

theorem st27_any (a b c : Int) (w : World) : Calls Try.prog 33 #[.int .i64 a, .int .i32 b, .int .i32 c] w fun e w' => e = .returned (.agg #[.int .i64 a, .int .i32 b, .int .i32 c]) ∧ Below w.heap.size w w' := by
  go_enter Try.func33, Try.ntmps33
  go_wp2
  refine bodyPost_ret (v := .agg #[.int .i64 a, .int .i32 b, .int .i32 c]) (by simp [results, Try.results33, go_sem]) rfl ⟨rfl, by go_grown⟩

def zR : Rec := ⟨0, 0, 0, ⟨0, 0, 0⟩, none, 0, 0, [], 0, ⟨0, 0, 0⟩⟩
/-- Of a record that is not there. -/
theorem verb_zero (reads : Bool) (a b c d e f : Int) (now ex v : Int) (hv : vbV zR false reads ⟨a, b, c⟩ ⟨d, e, f⟩ now ex = v) (h0 : vbE zR false ⟨a, b, c⟩ ⟨d, e, f⟩ now ex = 0) (w : World) :
    Calls Try.prog 34 #[.agg #[.int .i32 0, .int .i32 0, .int .u8 0, .int .i64 0, .int .i32 0, .int .i32 0, .slice none 0 0, .int .i64 0, .int .i64 0, .int .i32 0, .int .i32 0], .bool false, .bool reads, .agg #[.int .i64 a, .int .i32 b, .int .i32 c], .agg #[.int .i64 d, .int .i32 e, .int .i32 f], .int .i64 now, .int .i64 ex] w fun e w' => e = .returned (.tuple #[.int .i64 v, .int .i64 0]) ∧ Below w.heap.size w w' := by
  have h := verb_any zR rfl 0 false reads ⟨a, b, c⟩ ⟨d, e, f⟩ now ex w (show Rd w 0 none [] from Rd.nil) (Nat.zero_le _)
  rw [hv, h0] at h
  exact h
set_option maxHeartbeats 1600000 in
theorem lives27_any (w : World) : Calls Try.prog 32 #[] w fun e w' => e = .returned (.bool true) ∧ Below w.heap.size w w' := by
  have H1 := Lib.hid (fun W => verb_zero true 3 0 8 4 0 9 5 10 2 (by decide +kernel) (by decide +kernel) W)
  have H2 := Lib.hid (fun W => verb_zero false 3 0 8 4 0 9 5 10 3 (by decide +kernel) (by decide +kernel) W)
  have H3 := Lib.hid (fun W => verb_zero false 4 0 9 3 0 8 5 10 1 (by decide +kernel) (by decide +kernel) W)
  go_enter Try.func32, Try.ntmps32
  go_wp2_with fail
  refine (st27_any 3 0 8 _).mono ?_
  rintro e w1 ⟨rfl, hb⟩
  obtain ⟨hcw1, hfw1⟩ := bcell hb
  have HBw1 : Hid (Below w.heap.size w w1) := Below.go (by go_grown) hb (by go_size)
  have HEw1 := Lib.hid hb
  clear hb
  go_wp2_with fail
  refine (st27_any 4 0 9 _).mono ?_
  rintro e w2 ⟨rfl, hb⟩
  obtain ⟨hcw2, hfw2⟩ := bcell hb
  have HBw2 : Hid (Below w.heap.size w w2) := Below.go (by have hpre := HBw1.out; have hps := hpre.size; go_grown) hb (by have hpre := HBw1.out; have hps := hpre.size; go_size)
  have HEw2 := Lib.hid hb
  clear hb
  go_wp2_with fail
  refine (H1.out _).mono ?_
  rintro e w3 ⟨rfl, hb⟩
  obtain ⟨hcw3, hfw3⟩ := bcell hb
  have HBw3 : Hid (Below w.heap.size w w3) := Below.go (by have hpre := HBw2.out; have hps := hpre.size; go_grown) hb (by have hpre := HBw2.out; have hps := hpre.size; go_size)
  have HEw3 := Lib.hid hb
  clear hb
  clear hcw1 hfw1 hcw2 hfw2 hcw3 hfw3 HEw1 HEw2 HEw3
  go_wp2_with fail
  refine (st27_any 3 0 8 _).mono ?_
  rintro e w4 ⟨rfl, hb⟩
  obtain ⟨hcw4, hfw4⟩ := bcell hb
  have HBw4 : Hid (Below w.heap.size w w4) := Below.go (by have hpre := HBw3.out; have hps := hpre.size; go_grown) hb (by have hpre := HBw3.out; have hps := hpre.size; go_size)
  have HEw4 := Lib.hid hb
  clear hb
  go_wp2_with fail
  refine (st27_any 4 0 9 _).mono ?_
  rintro e w5 ⟨rfl, hb⟩
  obtain ⟨hcw5, hfw5⟩ := bcell hb
  have HBw5 : Hid (Below w.heap.size w w5) := Below.go (by have hpre := HBw4.out; have hps := hpre.size; go_grown) hb (by have hpre := HBw4.out; have hps := hpre.size; go_size)
  have HEw5 := Lib.hid hb
  clear hb
  go_wp2_with fail
  refine (H2.out _).mono ?_
  rintro e w6 ⟨rfl, hb⟩
  obtain ⟨hcw6, hfw6⟩ := bcell hb
  have HBw6 : Hid (Below w.heap.size w w6) := Below.go (by have hpre := HBw5.out; have hps := hpre.size; go_grown) hb (by have hpre := HBw5.out; have hps := hpre.size; go_size)
  have HEw6 := Lib.hid hb
  clear hb
  clear hcw4 hfw4 hcw5 hfw5 hcw6 hfw6 HEw4 HEw5 HEw6
  go_wp2_with fail
  refine (st27_any 4 0 9 _).mono ?_
  rintro e w7 ⟨rfl, hb⟩
  obtain ⟨hcw7, hfw7⟩ := bcell hb
  have HBw7 : Hid (Below w.heap.size w w7) := Below.go (by have hpre := HBw6.out; have hps := hpre.size; go_grown) hb (by have hpre := HBw6.out; have hps := hpre.size; go_size)
  have HEw7 := Lib.hid hb
  clear hb
  go_wp2_with fail
  refine (st27_any 3 0 8 _).mono ?_
  rintro e w8 ⟨rfl, hb⟩
  obtain ⟨hcw8, hfw8⟩ := bcell hb
  have HBw8 : Hid (Below w.heap.size w w8) := Below.go (by have hpre := HBw7.out; have hps := hpre.size; go_grown) hb (by have hpre := HBw7.out; have hps := hpre.size; go_size)
  have HEw8 := Lib.hid hb
  clear hb
  go_wp2_with fail
  refine (H3.out _).mono ?_
  rintro e w9 ⟨rfl, hb⟩
  obtain ⟨hcw9, hfw9⟩ := bcell hb
  have HBw9 : Hid (Below w.heap.size w w9) := Below.go (by have hpre := HBw8.out; have hps := hpre.size; go_grown) hb (by have hpre := HBw8.out; have hps := hpre.size; go_size)
  have HEw9 := Lib.hid hb
  clear hb
  clear hcw7 hfw7 hcw8 hfw8 hcw9 hfw9 HEw7 HEw8 HEw9
  go_wp2
  go_ret
  exact ⟨rfl, HBw9.out⟩

set_option maxHeartbeats 3200000 in
theorem pushCalls_walk (w : World) (r : Rec) (hl : r.l.length = r.n) (hr : Rd w w.heap.size r.A (sv r.l)) (some reads : Bool) (m g : Stp) (now ex : Int) :
    Calls Try.prog 10 #[r.v, .bool some, .bool reads, stv m, stv g, .int .i64 now, .int .i64 ex] w fun e w' => e = .returned (.bool true) ∧ Below w.heap.size w w' := by
  have h1 := fun W (h : Below w.heap.size w W) => stale_any r hl w.heap.size some g now ex W (hr.below h) h.size
  have h2 := fun W (h : Below w.heap.size w W) => rstale_any r hl w.heap.size some g now ex W (hr.below h) h.size
  have h3 := fun W (h : Below w.heap.size w W) => verb_any r hl w.heap.size some reads m g now ex W (hr.below h) h.size
  have h4 := fun W (h : Below w.heap.size w W) => rverb_any r hl w.heap.size some reads m g now ex W (hr.below h) h.size
  have h5 := fun W => order_any m g W
  have h6 := fun W => rorder_any m g W
  generalize vbV r some reads m g now ex = v at *
  generalize vbE r some m g now ex = ve at *
  generalize stE r some g now ex = se at *
  generalize stB r some g now ex = sb at *
  generalize less m g = ls at *
  obtain ⟨nd, nu, st, ⟨aw, al, ag⟩, A, n, c, l, beat, ⟨pw, pl, pg⟩⟩ := r
  obtain ⟨gw, gl, gg⟩ := g
  obtain ⟨mw, ml, mg⟩ := m
  unfold Rec.v at *
  unfold stv at *
  simp only at h1 h2 h3 h4 h5 h6 ⊢
  have H1 := Lib.hid h1; have H2 := Lib.hid h2; have H3 := Lib.hid h3; have H4 := Lib.hid h4; have H5 := Lib.hid h5; have H6 := Lib.hid h6
  clear h1 h2 h3 h4 h5 h6 hr hl
  go_enter Try.func10, Try.ntmps10
  go_wp2_with fail
  refine (H1.out _ (by go_grown)).mono ?_
  rintro e w1 ⟨rfl, hb⟩
  obtain ⟨hcw1, hfw1⟩ := bcell hb
  have HBw1 : Hid (Below w.heap.size w w1) := Below.go (by go_grown) hb (by go_size)
  have hzw10 : w.heap.size < w1.heap.size := by have := hb.size; (try simp at this); omega
  have hzw11 : w.heap.size + 1 < w1.heap.size := by have := hb.size; (try simp at this); omega
  have hzw12 : w.heap.size + 1 + 1 < w1.heap.size := by have := hb.size; (try simp at this); omega
  have HEw1 := Lib.hid hb
  clear hb
  go_wp2_with fail
  refine (H2.out _ HBw1.out).mono ?_
  rintro e w2 ⟨rfl, hb⟩
  obtain ⟨hcw2, hfw2⟩ := bcell hb
  have HBw2 : Hid (Below w.heap.size w w2) := Below.go (by have hpre := HBw1.out; have hps := hpre.size; go_grown) hb (by have hpre := HBw1.out; have hps := hpre.size; go_size)
  have hzw20 : w.heap.size < w2.heap.size := by have := hb.size; (try simp at this); omega
  have hzw21 : w.heap.size + 1 < w2.heap.size := by have := hb.size; (try simp at this); omega
  have hzw22 : w.heap.size + 1 + 1 < w2.heap.size := by have := hb.size; (try simp at this); omega
  have HEw2 := Lib.hid hb
  clear hb
  go_wp2_with fail
  refine (H3.out _ HBw2.out).mono ?_
  rintro e w3 ⟨rfl, hb⟩
  obtain ⟨hcw3, hfw3⟩ := bcell hb
  have HBw3 : Hid (Below w.heap.size w w3) := Below.go (by have hpre := HBw2.out; have hps := hpre.size; go_grown) hb (by have hpre := HBw2.out; have hps := hpre.size; go_size)
  have hzw30 : w.heap.size < w3.heap.size := by have := hb.size; (try simp at this); omega
  have hzw31 : w.heap.size + 1 < w3.heap.size := by have := hb.size; (try simp at this); omega
  have hzw32 : w.heap.size + 1 + 1 < w3.heap.size := by have := hb.size; (try simp at this); omega
  have HEw3 := Lib.hid hb
  clear hb
  go_wp2_with fail
  refine (H4.out _ HBw3.out).mono ?_
  rintro e w4 ⟨rfl, hb⟩
  obtain ⟨hcw4, hfw4⟩ := bcell hb
  have HBw4 : Hid (Below w.heap.size w w4) := Below.go (by have hpre := HBw3.out; have hps := hpre.size; go_grown) hb (by have hpre := HBw3.out; have hps := hpre.size; go_size)
  have hzw40 : w.heap.size < w4.heap.size := by have := hb.size; (try simp at this); omega
  have hzw41 : w.heap.size + 1 < w4.heap.size := by have := hb.size; (try simp at this); omega
  have hzw42 : w.heap.size + 1 + 1 < w4.heap.size := by have := hb.size; (try simp at this); omega
  have HEw4 := Lib.hid hb
  clear hb
  go_wp2_with fail
  refine wp_qall (by kernel_rfl) (by kernel_rfl) ?_
  intro hcg
  repeat (first | go_big_quiet_step (first | with_reducible exact Calls.reg (lives27_any _) | with_reducible exact Calls.reg (H5.out _) | with_reducible exact Calls.reg (H6.out _)) | quiet_step (first | with_reducible exact Calls.reg (lives27_any _) | with_reducible exact Calls.reg (H5.out _) | with_reducible exact Calls.reg (H6.out _)))
  refine wpQuiet_nil ?_
  intro wq hbwq hcwq hfwq
  clear hcg
  have HBq : Hid (Below w.heap.size w wq) := Below.go HBw4.out hbwq HBw4.out.size
  clear hbwq hcwq hfwq
  go_wp2
  go_ret
  exact ⟨rfl, HBq.out⟩
end Go.Proofs.Ythijpcbblmcfiaa
