/- Walks: a clock hears, tells its last stamp; the reference's clock made. -/
import Derived.Test.YthijpcbblmcfiaaHc
namespace Go.Proofs.Ythijpcbblmcfiaa
open Go.RowKit Go.St
set_option linter.unusedVariables false
set_option linter.unusedSimpArgs false

theorem hear_cases (o : Int) (l s : Stp) (t : Int) : (okS s = false ∧ hearE o s t = 2 ∧ hearL o l s t = l) ∨ (okS s = true ∧ (t < 0 ∨ 1099511627776 < t) ∧ hearE o s t = 2 ∧ hearL o l s t = l) ∨
    (okS s = true ∧ 0 ≤ t ∧ t ≤ 1099511627776 ∧ o < s.wall - t ∧ hearE o s t = 19 ∧ hearL o l s t = l) ∨
    (okS s = true ∧ 0 ≤ t ∧ t ≤ 1099511627776 ∧ s.wall - t ≤ o ∧ hearE o s t = 0 ∧ hearL o l s t = maxS (maxS l ⟨s.wall, s.logic, 0⟩) ⟨t, 0, 0⟩) := by
  by_cases h0 : okS s = true
  · by_cases h1 : t < 0 ∨ 1099511627776 < t
    · exact .inr (.inl ⟨h0, h1, by simp [hearE, h1, h0], by simp [hearL, hearE, h1, h0]⟩)
    · by_cases h2 : o < s.wall - t
      · exact .inr (.inr (.inl ⟨h0, by omega, by omega, h2, by simp [hearE, h1, h2, h0], by simp [hearL, hearE, h1, h2, h0]⟩))
      · exact .inr (.inr (.inr ⟨h0, by omega, by omega, by omega, by simp [hearE, h1, h2, h0], by simp [hearL, hearE, h1, h2, h0]⟩))
  · exact .inl ⟨by simpa using h0, by simp [hearE, h0], by simp [hearL, hearE, h0]⟩

def HearPost (b : Nat) (o : Int) (l s : Stp) (t : Int) (w : World) (e : Ending) (w' : World) : Prop :=
  e = .returned (.int .i64 (hearE o s t)) ∧ Only w.heap.size b w w' ∧ Clk w' b o (hearL o l s t)
theorem hearPost_of {b : Nat} {o t d : Int} {l s : Stp} {w w' : World} (h : hearE o s t = d) (hb : Only w.heap.size b w w') (hk : Clk w' b o (hearL o l s t)) : HearPost b o l s t w (.returned (.int .i64 d)) w' := by
  unfold HearPost
  rw [h]
  exact ⟨rfl, hb, hk⟩

set_option maxHeartbeats 1600000 in
theorem hhear_any (b : Nat) (o : Int) (l s : Stp) (t : Int) (w : World) (h : Clk w b o l) :
    Calls Try.prog 25 #[.pointer (some ⟨b, 0, none⟩), .agg #[.int .i64 s.wall, .int .i32 s.logic, .int .i32 s.tag], .int .i64 t] w (HearPost b o l s t w) := by
  have hlt := h.lt
  have hlt1 : b < w.heap.size + 1 := by omega
  have hne : b ≠ w.heap.size := by omega
  have hne' : w.heap.size ≠ b := by omega
  have HC := Lib.hid h
  obtain ⟨c0, c1, -, -, -, -⟩ := h
  have hW := hwall_any t
  rcases hear_cases o l s t with ⟨h0, hE, hL⟩ | ⟨h0, h1, hE, hL⟩ | ⟨h0, h1, h2, h3, hE, hL⟩ | ⟨h0, h1, h2, h3, hE, hL⟩
  · have HE := Lib.hid hE; have HL := Lib.hid hL
    have hk := chk_no h0
    have HK := Lib.hid hk
    clear hE hL hk h0 hW
    go_enter Try.func25, Try.ntmps25
    go_wp2_with fail
    refine (hwrong_any b _ (by go_simp)).mono ?_
    rintro e w' ⟨rfl, rfl⟩
    go_wp2_with fail
    refine (hcheck_any s _).mono ?_
    rintro e w1 ⟨rfl, hb⟩
    obtain ⟨hcw1, hfw1⟩ := bcell hb
    have HBw1 : Hid (Below w.heap.size w w1) := Below.go (by go_grown) hb (by go_size)
    have hzw10 : w.heap.size < w1.heap.size := by have := hb.size; simp at this; omega
    clear hb
    rw [HK.out]
    go_wp2
    go_ret
    exact hearPost_of HE.out (Only.of_below HBw1.out) (by rw [HL.out]; exact HC.out.below HBw1.out hlt)
  · have HE := Lib.hid hE; have HL := Lib.hid hL
    have hk := chk_ok h0
    have HK := Lib.hid hk
    rw [decide_eq_false (show ¬ (0 ≤ t ∧ t ≤ 1099511627776) by omega)] at hW
    have HW := Lib.hid hW
    clear hE hL hk h0 h1 hW
    go_enter Try.func25, Try.ntmps25
    go_wp2_with fail
    refine (hwrong_any b _ (by go_simp)).mono ?_
    rintro e w' ⟨rfl, rfl⟩
    go_wp2_with fail
    refine (hcheck_any s _).mono ?_
    rintro e w1 ⟨rfl, hb⟩
    obtain ⟨hcw1, hfw1⟩ := bcell hb
    have HBw1 : Hid (Below w.heap.size w w1) := Below.go (by go_grown) hb (by go_size)
    have hzw10 : w.heap.size < w1.heap.size := by have := hb.size; simp at this; omega
    clear hb
    rw [HK.out]
    go_wp2_with fail
    refine (HW.out _).mono ?_
    rintro e w' ⟨rfl, rfl⟩
    go_wp2
    go_ret
    exact hearPost_of HE.out (Only.of_below HBw1.out) (by rw [HL.out]; exact HC.out.below HBw1.out hlt)
  · have HE := Lib.hid hE; have HL := Lib.hid hL
    have hk := chk_ok h0
    have HK := Lib.hid hk
    obtain ⟨o1, o2, -, -, -, -⟩ := (okS_iff s).1 h0
    rw [decide_eq_true (show (0 ≤ t ∧ t ≤ 1099511627776) by omega)] at hW
    have HW := Lib.hid hW
    clear hE hL hk h0 hW
    go_enter Try.func25, Try.ntmps25
    go_wp2_with fail
    refine (hwrong_any b _ (by go_simp)).mono ?_
    rintro e w' ⟨rfl, rfl⟩
    go_wp2_with fail
    refine (hcheck_any s _).mono ?_
    rintro e w1 ⟨rfl, hb⟩
    obtain ⟨hcw1, hfw1⟩ := bcell hb
    have HBw1 : Hid (Below w.heap.size w w1) := Below.go (by go_grown) hb (by go_size)
    have hzw10 : w.heap.size < w1.heap.size := by have := hb.size; simp at this; omega
    clear hb
    rw [HK.out]
    go_wp2_with fail
    refine (HW.out _).mono ?_
    rintro e w' ⟨rfl, rfl⟩
    have hz : w.heap.size ≤ w1.heap.size := by omega
    have hltb : b < w1.heap.size := by omega
    go_wp2
    refine wp_qall (by kernel_rfl) (by kernel_rfl) ?_
    intro hcg
    repeat (first | go_big_quiet_step (fail) | quiet_step (fail))
    refine wpQuiet_nil ?_
    intro wq hbwq hcwq hfwq
    clear hcg
    have HB : Hid (Below w.heap.size w wq) := Below.go HBw1.out hbwq hz
    clear hbwq
    go_wp2
    go_ret
    exact hearPost_of HE.out (Only.of_below HB.out) (by rw [HL.out]; exact HC.out.below HB.out hlt)
  · have HE := Lib.hid hE; have HL := Lib.hid hL
    have hk := chk_ok h0
    have HK := Lib.hid hk
    obtain ⟨o1, o2, -, -, -, -⟩ := (okS_iff s).1 h0
    rw [decide_eq_true (show (0 ≤ t ∧ t ≤ 1099511627776) by omega)] at hW
    have HW := Lib.hid hW
    have h4 : ¬ o < s.wall - t := by omega
    clear hE hL hk h0 hW
    go_enter Try.func25, Try.ntmps25
    go_wp2_with fail
    refine (hwrong_any b _ (by go_simp)).mono ?_
    rintro e w' ⟨rfl, rfl⟩
    go_wp2_with fail
    refine (hcheck_any s _).mono ?_
    rintro e w1 ⟨rfl, hb⟩
    obtain ⟨hcw1, hfw1⟩ := bcell hb
    have HBw1 : Hid (Below w.heap.size w w1) := Below.go (by go_grown) hb (by go_size)
    have hzw10 : w.heap.size < w1.heap.size := by have := hb.size; simp at this; omega
    clear hb
    rw [HK.out]
    go_wp2_with fail
    refine (HW.out _).mono ?_
    rintro e w' ⟨rfl, rfl⟩
    have hz : w.heap.size ≤ w1.heap.size := by omega
    have hltb : b < w1.heap.size := by omega
    go_wp2_with fail
    refine wp_qall (by kernel_rfl) (by kernel_rfl) ?_
    intro hcg
    repeat (first | go_big_quiet_step (fail) | quiet_step (fail))
    refine wpQuiet_nil ?_
    intro wq hbwq hcwq hfwq
    clear hcg
    have HB : Hid (Below w.heap.size w wq) := Below.go HBw1.out hbwq hz
    have s0 : wq.cell? ⟨w.heap.size, 0, none⟩ = some (.int .i64 s.wall) := by rw [hcwq _ _ hzw10, hcw1 _ _ (by simp)]; go_simp
    have s1 : wq.cell? ⟨w.heap.size, 1, none⟩ = some (.int .i32 s.logic) := by rw [hcwq _ _ hzw10, hcw1 _ _ (by simp)]; go_simp
    have s2 : wq.cell? ⟨w.heap.size, 2, none⟩ = some (.int .i32 s.tag) := by rw [hcwq _ _ hzw10, hcw1 _ _ (by simp)]; go_simp
    clear hbwq hcwq hfwq hcw1 hfw1
    go_wp2_with fail
    refine (hraise_any b o l s _ (HC.out.below HB.out hlt)).mono ?_
    rintro e w2 ⟨rfl, ho, hk⟩
    have H1 : Hid (Only w.heap.size b w w2) := (Only.of_below HB.out).trans (ho.mono HB.out.size)
    have K2 := Lib.hid hk
    clear ho hk s0 s1 s2 c0 c1
    go_wp2_with fail
    refine (hraise_any b o _ ⟨t, 0, 0⟩ _ K2.out).mono ?_
    rintro e w3 ⟨rfl, ho, hk⟩
    have H3 : Hid (Only w.heap.size b w w3) := H1.out.trans (ho.mono H1.out.size)
    have K3 := Lib.hid hk
    clear ho hk
    go_wp2
    go_ret
    exact hearPost_of HE.out H3.out (by rw [HL.out]; exact K3.out)

set_option maxHeartbeats 400000 in
theorem hlast_any (b : Nat) (o : Int) (l : Stp) (w : World) (h : Clk w b o l) : Calls Try.prog 26 #[.pointer (some ⟨b, 0, none⟩)] w fun e w' =>
    e = .returned (.agg #[.int .i64 l.wall, .int .i32 l.logic, .int .i32 l.tag]) ∧ Below w.heap.size w w' := by
  have hlt := h.lt
  have hne : b ≠ w.heap.size := by omega
  obtain ⟨c0, c1, c2, c3, c4, f⟩ := h
  go_enter Try.func26, Try.ntmps26
  go_wp2
  refine bodyPost_ret (v := .agg #[.int .i64 l.wall, .int .i32 l.logic, .int .i32 l.tag]) (by simp [results, Try.results26, go_sem]) rfl ⟨rfl, by go_grown⟩

theorem rlast_any (b : Nat) (o : Int) (l : Stp) (w : World) (h : Clk w b o l) : Calls Try.prog 31 #[.pointer (some ⟨b, 0, none⟩)] w fun e w' =>
    e = .returned (.agg #[.int .i64 l.wall, .int .i32 l.logic, .int .i32 l.tag]) ∧ Below w.heap.size w w' := by
  have hlt := h.lt
  have hne : b ≠ w.heap.size := by omega
  obtain ⟨c0, c1, c2, c3, c4, f⟩ := h
  go_enter Try.func31, Try.ntmps31
  go_wp2
  refine bodyPost_ret (v := .agg #[.int .i64 l.wall, .int .i32 l.logic, .int .i32 l.tag]) (by simp [results, Try.results31, go_sem]) rfl ⟨rfl, by go_grown⟩

theorem rclk_new (w : World) (o : Int) (s : Stp) : Clk (w.alloc (.cells #[.bool true, .int .i64 o, .int .i64 s.wall, .int .i32 s.logic, .int .i32 s.tag] 83)) w.heap.size o s := by
  constructor <;> (try intro i) <;> simp [go_sem]

set_option maxHeartbeats 800000 in
theorem rnew_ok (o : Int) (s : Stp) (w : World) (h0 : 0 ≤ o) (h1 : o ≤ 1099511627776) (hs : okS s = true) :
    Calls Try.prog 27 #[.int .i64 o, .agg #[.int .i64 s.wall, .int .i32 s.logic, .int .i32 s.tag]] w fun e w' =>
      ∃ b, e = .returned (.tuple #[.pointer (some ⟨b, 0, none⟩), .int .i64 0]) ∧ w.heap.size ≤ b ∧ Clk w' b o ⟨s.wall, s.logic, 0⟩ ∧ Below w.heap.size w w' := by
  have hc := chk_ok hs
  have HK := Lib.hid hc; clear hc hs
  go_enter Try.func27, Try.ntmps27
  go_wp2_with fail
  refine (rcheck_any s _).mono ?_
  rintro e w1 ⟨rfl, hb⟩
  obtain ⟨hcw1, hfw1⟩ := bcell hb
  have HBw1 : Hid (Below w.heap.size w w1) := Below.go (by go_grown) hb (by go_size)
  have hzw10 : w.heap.size < w1.heap.size := by have := hb.size; simp at this; omega
  clear hb
  rw [HK.out]
  go_wp2
  go_ret2
  refine ⟨_, rfl, by omega, ?_, ?_⟩
  · have h := rclk_new (w1.setCell ⟨w.heap.size, 2, none⟩ (.int .i32 0)) o ⟨s.wall, s.logic, 0⟩
    rw [World.size_setCell] at h
    exact h
  · have h := HBw1.out
    go_grown

theorem rnew_no (o : Int) (s : Stp) (w : World) (h : newE o s ≠ 0) :
    Calls Try.prog 27 #[.int .i64 o, .agg #[.int .i64 s.wall, .int .i32 s.logic, .int .i32 s.tag]] w fun e w' => e = .returned (.tuple #[.pointer none, .int .i64 2]) ∧ Below w.heap.size w w' := by
  by_cases h1 : o < 0 ∨ 1099511627776 < o
  · clear h
    rcases h1 with h1 | h1
    · go_enter Try.func27, Try.ntmps27
      go_wp2
      go_ret2
      exact ⟨rfl, by go_grown⟩
    · have h2 : decide (o < 0) = false := decide_eq_false (by omega)
      go_enter Try.func27, Try.ntmps27
      go_wp2
      go_ret2
      exact ⟨rfl, by go_grown⟩
  · have hc : chk s = 2 := by
      unfold newE at h
      rw [if_neg h1] at h
      unfold chk at *
      split at h
      · exact absurd rfl h
      · rename_i hn; rw [if_neg hn]
    have HK := Lib.hid hc; clear hc h
    have h2 : 0 ≤ o := by omega
    have h3 : o ≤ 1099511627776 := by omega
    clear h1
    go_enter Try.func27, Try.ntmps27
    go_wp2_with fail
    refine (rcheck_any s _).mono ?_
    rintro e w1 ⟨rfl, hb⟩
    obtain ⟨hcw1, hfw1⟩ := bcell hb
    have HBw1 : Hid (Below w.heap.size w w1) := Below.go (by go_grown) hb (by go_size)
    have hzw10 : w.heap.size < w1.heap.size := by have := hb.size; simp at this; omega
    clear hb
    rw [HK.out]
    go_wp2
    go_ret2
    exact ⟨rfl, HBw1.out⟩
end Go.Proofs.Ythijpcbblmcfiaa
