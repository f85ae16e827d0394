/- Walks: the reference's clock. -/
import Derived.Test.YthijpcbblmcfiaaHd
namespace Go.Proofs.Ythijpcbblmcfiaa
open Go.RowKit Go.St
set_option linter.unusedVariables false
set_option linter.unusedSimpArgs false

theorem rnone_any (b : Nat) (w : World) (h : w.cell? ⟨b, 0, none⟩ = some (.bool true)) : Calls Try.prog 51 #[.pointer (some ⟨b, 0, none⟩)] w fun e w' => e = .returned (.bool false) ∧ w = w' := by
  go_enter Try.func51, Try.ntmps51
  go_wp2
  go_ret
  exact ⟨rfl, rfl⟩

set_option maxHeartbeats 1600000 in
theorem rhear_any (b : Nat) (o : Int) (l s : Stp) (t : Int) (w : World) (h : Clk w b o l) :
    Calls Try.prog 30 #[.pointer (some ⟨b, 0, none⟩), .agg #[.int .i64 s.wall, .int .i32 s.logic, .int .i32 s.tag], .int .i64 t] w (HearPost b o l s t w) := by
  have hlt := h.lt
  have hlt1 : b < w.heap.size + 1 := by omega
  have hne : b ≠ w.heap.size := by omega
  have hne' : w.heap.size ≠ b := by omega
  have HC := Lib.hid h
  obtain ⟨c0, c1, c2, c3, c4, f⟩ := h
  rcases hear_cases o l s t with ⟨h0, hE, hL⟩ | ⟨h0, h1, hE, hL⟩ | ⟨h0, h1, h2, h3, hE, hL⟩ | ⟨h0, h1, h2, h3, hE, hL⟩
  · have HE := Lib.hid hE; have HL := Lib.hid hL
    have hk := chk_no h0
    have HK := Lib.hid hk
    clear hE hL hk h0
    go_enter Try.func30, Try.ntmps30
    go_wp2_with fail
    refine (rnone_any b _ (by go_simp)).mono ?_
    rintro e w' ⟨rfl, rfl⟩
    go_wp2_with fail
    refine (rcheck_any s _).mono ?_
    rintro e w1 ⟨rfl, hb⟩
    obtain ⟨hcw1, hfw1⟩ := bcell hb
    have HBw1 : Hid (Below w.heap.size w w1) := Below.go (by go_grown) hb (by go_size)
    have hzw10 : w.heap.size < w1.heap.size := by have := hb.size; simp at this; omega
    clear hb
    rw [HK.out]
    go_wp2
    go_ret
    exact hearPost_of HE.out (Only.of_below HBw1.out) (by rw [HL.out]; exact HC.out.below HBw1.out hlt)
  · have HE := Lib.hid hE; have HL := Lib.hid hL
    have hk := chk_ok h0
    have HK := Lib.hid hk
    clear hE hL hk h0
    rcases h1 with h1 | h1
    · go_enter Try.func30, Try.ntmps30
      go_wp2_with fail
      refine (rnone_any b _ (by go_simp)).mono ?_
      rintro e w' ⟨rfl, rfl⟩
      go_wp2_with fail
      refine (rcheck_any s _).mono ?_
      rintro e w1 ⟨rfl, hb⟩
      obtain ⟨hcw1, hfw1⟩ := bcell hb
      have HBw1 : Hid (Below w.heap.size w w1) := Below.go (by go_grown) hb (by go_size)
      have hzw10 : w.heap.size < w1.heap.size := by have := hb.size; simp at this; omega
      clear hb
      rw [HK.out]
      go_wp2
      go_ret
      exact hearPost_of HE.out (Only.of_below HBw1.out) (by rw [HL.out]; exact HC.out.below HBw1.out hlt)
    · have h2 : decide (t < 0) = false := decide_eq_false (by omega)
      go_enter Try.func30, Try.ntmps30
      go_wp2_with fail
      refine (rnone_any b _ (by go_simp)).mono ?_
      rintro e w' ⟨rfl, rfl⟩
      go_wp2_with fail
      refine (rcheck_any s _).mono ?_
      rintro e w1 ⟨rfl, hb⟩
      obtain ⟨hcw1, hfw1⟩ := bcell hb
      have HBw1 : Hid (Below w.heap.size w w1) := Below.go (by go_grown) hb (by go_size)
      have hzw10 : w.heap.size < w1.heap.size := by have := hb.size; simp at this; omega
      clear hb
      rw [HK.out]
      go_wp2
      go_ret
      exact hearPost_of HE.out (Only.of_below HBw1.out) (by rw [HL.out]; exact HC.out.below HBw1.out hlt)
  · have HE := Lib.hid hE; have HL := Lib.hid hL
    have hk := chk_ok h0
    have HK := Lib.hid hk
    obtain ⟨o1, o2, -, -, -, -⟩ := (okS_iff s).1 h0
    clear hE hL hk h0
    go_enter Try.func30, Try.ntmps30
    go_wp2_with fail
    refine (rnone_any b _ (by go_simp)).mono ?_
    rintro e w' ⟨rfl, rfl⟩
    go_wp2_with fail
    refine (rcheck_any s _).mono ?_
    rintro e w1 ⟨rfl, hb⟩
    obtain ⟨hcw1, hfw1⟩ := bcell hb
    have HBw1 : Hid (Below w.heap.size w w1) := Below.go (by go_grown) hb (by go_size)
    have hzw10 : w.heap.size < w1.heap.size := by have := hb.size; simp at this; omega
    clear hb
    rw [HK.out]
    have hz : w.heap.size ≤ w1.heap.size := by omega
    have hltb : b < w1.heap.size := by omega
    go_wp2
    refine wp_qall (by kernel_rfl) (by kernel_rfl) ?_
    intro hcg
    repeat (first | go_big_quiet_step (fail) | quiet_step (fail))
    refine wpQuiet_nil ?_
    intro wq hbwq hcwq hfwq
    clear hcg
    have HB : Hid (Below w.heap.size w wq) := Below.go HBw1.out hbwq hz
    clear hbwq
    go_wp2
    go_ret
    exact hearPost_of HE.out (Only.of_below HB.out) (by rw [HL.out]; exact HC.out.below HB.out hlt)
  · have HE := Lib.hid hE; have HL := Lib.hid hL
    have hk := chk_ok h0
    have HK := Lib.hid hk
    obtain ⟨o1, o2, -, -, -, -⟩ := (okS_iff s).1 h0
    have h4 : ¬ o < s.wall - t := by omega
    clear hE hL hk h0
    go_enter Try.func30, Try.ntmps30
    go_wp2_with fail
    refine (rnone_any b _ (by go_simp)).mono ?_
    rintro e w' ⟨rfl, rfl⟩
    go_wp2_with fail
    refine (rcheck_any s _).mono ?_
    rintro e w1 ⟨rfl, hb⟩
    obtain ⟨hcw1, hfw1⟩ := bcell hb
    have HBw1 : Hid (Below w.heap.size w w1) := Below.go (by go_grown) hb (by go_size)
    have hzw10 : w.heap.size < w1.heap.size := by have := hb.size; simp at this; omega
    clear hb
    rw [HK.out]
    have hz : w.heap.size ≤ w1.heap.size := by omega
    have hltb : b < w1.heap.size := by omega
    go_wp2_with fail
    refine wp_qall (by kernel_rfl) (by kernel_rfl) ?_
    intro hcg
    repeat (first | go_big_quiet_step (fail) | quiet_step (fail))
    refine wpQuiet_nil ?_
    intro wq hbwq hcwq hfwq
    clear hcg
    have HB : Hid (Below w.heap.size w wq) := Below.go HBw1.out hbwq hz
    have hbq : b < wq.heap.size := by have := hbwq.size; omega
    have hsq : w.heap.size < wq.heap.size := by have := hbwq.size; omega
    have s0 : wq.cell? ⟨w.heap.size, 0, none⟩ = some (.int .i64 s.wall) := by rw [hcwq _ _ hzw10, hcw1 _ _ (by simp)]; go_simp
    have s1 : wq.cell? ⟨w.heap.size, 1, none⟩ = some (.int .i32 s.logic) := by rw [hcwq _ _ hzw10, hcw1 _ _ (by simp)]; go_simp
    have s2 : wq.cell? ⟨w.heap.size, 2, none⟩ = some (.int .i32 s.tag) := by rw [hcwq _ _ hzw10, hcw1 _ _ (by simp)]; go_simp
    have f0 : ∀ i, wq.frozen? ⟨w.heap.size, i, none⟩ = false := fun i => by rw [hfwq _ _ hzw10, hfw1 _ _ (by simp)]; go_simp
    have HQ := HC.out.below HB.out hlt
    obtain ⟨-, -, q2, q3, q4, fq⟩ := HQ
    have far := far_store (p := w.heap.size) (q := b) hne'
    clear hbwq hcwq hfwq hcw1 hfw1 c0 c1 c2 c3 c4 f
    go_wp2
    refine wp_qtail 12 (by kernel_rfl) (by kernel_rfl) ?_
    intro hcg
    simp only [List.take_succ_cons, List.take_zero, List.drop_succ_cons, List.drop_zero]
    repeat (first | go_big_quiet_step ((first | exact Calls.reg (rmax_any l ⟨s.wall, s.logic, 0⟩ _) | exact Calls.reg (rmax_any (maxS l ⟨s.wall, s.logic, 0⟩) ⟨t, 0, 0⟩ _))) | quiet_step ((first | exact Calls.reg (rmax_any l ⟨s.wall, s.logic, 0⟩ _) | exact Calls.reg (rmax_any (maxS l ⟨s.wall, s.logic, 0⟩) ⟨t, 0, 0⟩ _))))
    refine wpQuiet_nil ?_
    intro wr hbwr hcwr hfwr
    clear hcg
    have HBr : Hid (Below w.heap.size w wr) := Below.go (by have h := HB.out; go_grown) hbwr (by go_size)
    have KR := Lib.hid (HC.out.below HBr.out hlt)
    clear hbwr far
    go_wp2
    go_ret
    refine hearPost_of HE.out ?_ (by rw [HL.out]; exact KR.out.set)
    refine Only.setCell ?_ (.inl (by rfl)) _
    refine Only.setCell ?_ (.inl (by rfl)) _
    refine Only.setCell ?_ (.inl (by rfl)) _
    exact Only.of_below HBr.out

set_option maxHeartbeats 1600000 in
theorem rnow_any (b : Nat) (o : Int) (l : Stp) (t : Int) (w : World) (h : Clk w b o l) (hl : okS l = true) (hl0 : l.tag = 0) : Calls Try.prog 29 #[.pointer (some ⟨b, 0, none⟩), .int .i64 t] w (NowPost b o l t w) := by
  have hlt := h.lt
  have hlt1 : b < w.heap.size + 1 := by omega
  have hne : b ≠ w.heap.size := by omega
  have hne' : w.heap.size ≠ b := by omega
  obtain ⟨o1, o2, o3, o4, o5, o6⟩ := (okS_iff l).1 hl
  have HC := Lib.hid h
  obtain ⟨c0, c1, c2, c3, c4, f⟩ := h
  clear hl
  rcases now_cases l t with ⟨h1, hE, hS, hL⟩ | ⟨h1, h2, h3, hE, hS, hL⟩ | ⟨h1, h2, h3, h4, hE, hS, hL⟩ | ⟨h1, h2, h3, h4, hE, hS, hL⟩
  · have HE := Lib.hid hE; have HS := Lib.hid hS; have HL := Lib.hid hL
    clear hE hS hL
    rcases h1 with h1 | h1
    · go_enter Try.func29, Try.ntmps29
      go_wp2
      refine bodyPost_ret (v := .tuple #[.agg #[.int .i64 0, .int .i32 0, .int .i32 0], .int .i64 2]) (by simp [results, Try.results29, go_sem]) rfl (nowPost_of HE.out HS.out (Only.of_below (by go_grown)) (by rw [HL.out]; exact HC.out.below (show Below w.heap.size w _ by go_grown) hlt))
    · have h2 : decide (t < 0) = false := decide_eq_false (by omega)
      go_enter Try.func29, Try.ntmps29
      go_wp2
      refine bodyPost_ret (v := .tuple #[.agg #[.int .i64 0, .int .i32 0, .int .i32 0], .int .i64 2]) (by simp [results, Try.results29, go_sem]) rfl (nowPost_of HE.out HS.out (Only.of_below (by go_grown)) (by rw [HL.out]; exact HC.out.below (show Below w.heap.size w _ by go_grown) hlt))
  · have HE := Lib.hid hE; have HS := Lib.hid hS; have HL := Lib.hid hL
    clear hE hS hL
    go_enter Try.func29, Try.ntmps29
    go_wp2
    refine bodyPost_ret (v := .tuple #[.agg #[.int .i64 t, .int .i32 0, .int .i32 0], .int .i64 0]) (by simp [results, Try.results29, go_sem, c2, c3, c4, hne, hne']) rfl (nowPost_of HE.out HS.out ?_ ?_)
    · repeat' (first | exact Only.refl _ _ _ | refine Only.setCell ?_ (.inl (by rfl)) _ | refine Only.setCell ?_ (.inr (by simp)) _ | refine Only.alloc ?_ (by simp) _)
    · rw [HL.out]
      constructor <;> (try intro i) <;> go_simp
  · have HE := Lib.hid hE; have HS := Lib.hid hS; have HL := Lib.hid hL
    clear hE hS hL
    obtain ⟨x, y, z⟩ := l
    obtain rfl : y = 1048576 := h4
    simp only at *
    go_enter Try.func29, Try.ntmps29
    go_wp2
    refine bodyPost_ret (v := .tuple #[.agg #[.int .i64 0, .int .i32 0, .int .i32 0], .int .i64 8]) (by simp [results, Try.results29, go_sem]) rfl (nowPost_of HE.out HS.out (Only.of_below (by go_grown)) (by rw [HL.out]; exact HC.out.below (show Below w.heap.size w _ by go_grown) hlt))
  · have HE := Lib.hid hE; have HS := Lib.hid hS; have HL := Lib.hid hL
    obtain ⟨x, y, z⟩ := l
    obtain rfl : z = 0 := hl0
    simp only at *
    have h5 : y < 1048576 := by omega
    have h6 : (y == 1048576) = false := by simpa using h4
    clear hE hS hL h4
    go_enter Try.func29, Try.ntmps29
    go_wp2
    refine bodyPost_ret (v := .tuple #[.agg #[.int .i64 x, .int .i32 (y + 1), .int .i32 0], .int .i64 0]) (by simp [results, Try.results29, go_sem, c2, c3, c4, hne, hne']) rfl (nowPost_of HE.out HS.out ?_ ?_)
    · repeat' (first | exact Only.refl _ _ _ | refine Only.setCell ?_ (.inl (by rfl)) _ | refine Only.setCell ?_ (.inr (by simp)) _ | refine Only.alloc ?_ (by simp) _)
    · rw [HL.out]
      constructor <;> (try intro i) <;> go_simp
end Go.Proofs.Ythijpcbblmcfiaa
