/- Walks: the next stamp. -/
import Derived.Test.YtgikaglmeeeplaaHa
namespace Go.Proofs.Ytgikaglmeeeplaa
open Go.RowKit Go.St
set_option linter.unusedVariables false
set_option linter.unusedSimpArgs false

/-- A stamp as a value. -/
def NextPost (s : Stp) (tag : Int) (w : World) (e : Ending) (w' : World) : Prop :=
  e = .returned (.tuple #[.agg #[.int .i64 (nextS s tag).wall, .int .i32 (nextS s tag).logic, .int .i32 (nextS s tag).tag], .int .i64 (nextE s tag)]) ∧ Below w.heap.size w w'
theorem nextPost_of {s : Stp} {tag : Int} {w w' : World} {a b c d : Int} (h : nextE s tag = d) (k : nextS s tag = ⟨a, b, c⟩) (hb : Below w.heap.size w w') :
    NextPost s tag w (.returned (.tuple #[.agg #[.int .i64 a, .int .i32 b, .int .i32 c], .int .i64 d])) w' := by
  unfold NextPost
  rw [h, k]
  exact ⟨rfl, hb⟩

set_option maxHeartbeats 800000 in
theorem hnext_any (s : Stp) (tag : Int) (w : World) :
    Calls Try.prog 37 #[.agg #[.int .i64 s.wall, .int .i32 s.logic, .int .i32 s.tag], .int .i32 tag] w (NextPost s tag w) := by
  by_cases h : okS s = true
  · have hok := (okS_iff s).1 h
    have hc := chk_ok h
    have HO := Lib.hid h
    have HC := Lib.hid hc; clear hc h
    obtain ⟨o1, o2, o3, o4, o5, o6⟩ := hok
    go_enter Try.func37, Try.ntmps37
    go_wp2_with fail
    refine (hcheck_any s _).mono ?_
    rintro e w1 ⟨rfl, hb⟩
    obtain ⟨hcw1, hfw1⟩ := bcell hb
    have HBw1 : Hid (Below w.heap.size w w1) := Below.go (by go_grown) hb (by go_size)
    have hzw10 : w.heap.size < w1.heap.size := by have := hb.size; (try simp at this); omega
    have hzw11 : w.heap.size + 1 < w1.heap.size := by have := hb.size; (try simp at this); omega
    have HEw1 := Lib.hid hb
    clear hb
    rw [HC.out]
    by_cases h1 : tag < 0 ∨ 1048576 < tag
    · have he : nextE s tag = 2 := by unfold nextE; rw [if_neg (by simp [HO.out]), if_pos h1]
      have HE := Lib.hid he; clear he
      rcases h1 with h1 | h1
      · go_wp2
        refine bodyPost_ret (v := .tuple #[.agg #[.int .i64 0, .int .i32 0, .int .i32 0], .int .i64 2]) (by simp [results, Try.results37, go_sem, hcw1]) rfl (nextPost_of HE.out (next_zero (by rw [HE.out]; decide)) ?_)
        have hb := HBw1.out
        go_grown
      · have h2 : decide (tag < 0) = false := decide_eq_false (by omega)
        go_wp2
        refine bodyPost_ret (v := .tuple #[.agg #[.int .i64 0, .int .i32 0, .int .i32 0], .int .i64 2]) (by simp [results, Try.results37, go_sem, hcw1]) rfl (nextPost_of HE.out (next_zero (by rw [HE.out]; decide)) ?_)
        have hb := HBw1.out
        go_grown
    · have e1 : 0 ≤ tag := by omega
      have e2 : tag ≤ 1048576 := by omega
      by_cases h2 : s.tag < tag
      · have he : nextE s tag = 0 := by unfold nextE; rw [if_neg (by simp [HO.out]), if_neg h1, if_pos h2]
        have hs : nextS s tag = ⟨s.wall, s.logic, tag⟩ := by unfold nextS; rw [if_pos he, if_pos h2]
        have HE := Lib.hid he; clear he
        have HS := Lib.hid hs; clear hs h1
        go_wp2
        refine bodyPost_ret (v := .tuple #[.agg #[.int .i64 s.wall, .int .i32 s.logic, .int .i32 tag], .int .i64 0]) (by simp [results, Try.results37, go_sem, hcw1, hzw11]) rfl (nextPost_of HE.out HS.out ?_)
        have hb := HBw1.out
        go_grown
      · by_cases h3 : s.logic = 1048576
        · have he : nextE s tag = 8 := by unfold nextE; rw [if_neg (by simp [HO.out]), if_neg h1, if_neg h2, if_pos h3]
          have HE := Lib.hid he; clear he
          obtain ⟨a, b, c⟩ := s
          obtain rfl : b = 1048576 := h3
          simp only at *
          clear h1
          go_wp2
          refine bodyPost_ret (v := .tuple #[.agg #[.int .i64 0, .int .i32 0, .int .i32 0], .int .i64 8]) (by simp [results, Try.results37, go_sem, hcw1, hzw11]) rfl (nextPost_of HE.out (next_zero (by rw [HE.out]; decide)) ?_)
          have hb := HBw1.out
          go_grown
        · have he : nextE s tag = 0 := by unfold nextE; rw [if_neg (by simp [HO.out]), if_neg h1, if_neg h2, if_neg h3]
          have hs : nextS s tag = ⟨s.wall, s.logic + 1, tag⟩ := by unfold nextS; rw [if_pos he, if_neg h2]
          have HE := Lib.hid he; clear he
          have HS := Lib.hid hs; clear hs h1
          have h4 : s.logic < 1048576 := by omega
          clear h3
          go_wp2
          refine bodyPost_ret (v := .tuple #[.agg #[.int .i64 s.wall, .int .i32 (s.logic + 1), .int .i32 tag], .int .i64 0]) (by simp [results, Try.results37, go_sem, hcw1, hzw11]) rfl (nextPost_of HE.out HS.out ?_)
          have hb := HBw1.out
          go_grown
  · have hc := chk_no (by simpa using h)
    have he : nextE s tag = 2 := by unfold nextE; rw [if_pos (by simpa using h)]
    have HE := Lib.hid he; clear he h
    have HC := Lib.hid hc; clear hc
    go_enter Try.func37, Try.ntmps37
    go_wp2_with fail
    refine (hcheck_any s _).mono ?_
    rintro e w' ⟨rfl, hb⟩
    rw [HC.out]
    obtain ⟨hc, hf⟩ := bcell hb
    have HB : Hid (Below w.heap.size w w') := Below.go (by go_grown) hb (by go_size)
    clear hb
    go_wp2
    refine bodyPost_ret (v := .tuple #[.agg #[.int .i64 0, .int .i32 0, .int .i32 0], .int .i64 2]) (by simp [results, Try.results37, go_sem, hc]) rfl (nextPost_of HE.out (next_zero (by rw [HE.out]; decide)) ?_)
    have hb := HB.out
    go_grown

set_option maxHeartbeats 800000 in
theorem rnext_any (s : Stp) (tag : Int) (w : World) :
    Calls Try.prog 47 #[.agg #[.int .i64 s.wall, .int .i32 s.logic, .int .i32 s.tag], .int .i32 tag] w (NextPost s tag w) := by
  by_cases h : okS s = true
  · have hok := (okS_iff s).1 h
    have hc := chk_ok h
    have HO := Lib.hid h
    have HC := Lib.hid hc; clear hc h
    obtain ⟨o1, o2, o3, o4, o5, o6⟩ := hok
    go_enter Try.func47, Try.ntmps47
    go_wp2_with fail
    refine (rcheck_any s _).mono ?_
    rintro e w1 ⟨rfl, hb⟩
    obtain ⟨hcw1, hfw1⟩ := bcell hb
    have HBw1 : Hid (Below w.heap.size w w1) := Below.go (by go_grown) hb (by go_size)
    have hzw10 : w.heap.size < w1.heap.size := by have := hb.size; (try simp at this); omega
    have hzw11 : w.heap.size + 1 < w1.heap.size := by have := hb.size; (try simp at this); omega
    have HEw1 := Lib.hid hb
    clear hb
    rw [HC.out]
    by_cases h1 : tag < 0 ∨ 1048576 < tag
    · have he : nextE s tag = 2 := by unfold nextE; rw [if_neg (by simp [HO.out]), if_pos h1]
      have HE := Lib.hid he; clear he
      rcases h1 with h1 | h1
      · go_wp2
        refine bodyPost_ret (v := .tuple #[.agg #[.int .i64 0, .int .i32 0, .int .i32 0], .int .i64 2]) (by simp [results, Try.results47, go_sem, hcw1]) rfl (nextPost_of HE.out (next_zero (by rw [HE.out]; decide)) ?_)
        have hb := HBw1.out
        go_grown
      · have h2 : decide (tag < 0) = false := decide_eq_false (by omega)
        go_wp2
        refine bodyPost_ret (v := .tuple #[.agg #[.int .i64 0, .int .i32 0, .int .i32 0], .int .i64 2]) (by simp [results, Try.results47, go_sem, hcw1]) rfl (nextPost_of HE.out (next_zero (by rw [HE.out]; decide)) ?_)
        have hb := HBw1.out
        go_grown
    · have e1 : 0 ≤ tag := by omega
      have e2 : tag ≤ 1048576 := by omega
      by_cases h2 : s.tag < tag
      · have he : nextE s tag = 0 := by unfold nextE; rw [if_neg (by simp [HO.out]), if_neg h1, if_pos h2]
        have hs : nextS s tag = ⟨s.wall, s.logic, tag⟩ := by unfold nextS; rw [if_pos he, if_pos h2]
        have HE := Lib.hid he; clear he
        have HS := Lib.hid hs; clear hs h1
        go_wp2
        refine bodyPost_ret (v := .tuple #[.agg #[.int .i64 s.wall, .int .i32 s.logic, .int .i32 tag], .int .i64 0]) (by simp [results, Try.results47, go_sem, hcw1, hzw11]) rfl (nextPost_of HE.out HS.out ?_)
        have hb := HBw1.out
        go_grown
      · by_cases h3 : s.logic = 1048576
        · have he : nextE s tag = 8 := by unfold nextE; rw [if_neg (by simp [HO.out]), if_neg h1, if_neg h2, if_pos h3]
          have HE := Lib.hid he; clear he
          obtain ⟨a, b, c⟩ := s
          obtain rfl : b = 1048576 := h3
          simp only at *
          clear h1
          go_wp2
          refine bodyPost_ret (v := .tuple #[.agg #[.int .i64 0, .int .i32 0, .int .i32 0], .int .i64 8]) (by simp [results, Try.results47, go_sem, hcw1, hzw11]) rfl (nextPost_of HE.out (next_zero (by rw [HE.out]; decide)) ?_)
          have hb := HBw1.out
          go_grown
        · have he : nextE s tag = 0 := by unfold nextE; rw [if_neg (by simp [HO.out]), if_neg h1, if_neg h2, if_neg h3]
          have hs : nextS s tag = ⟨s.wall, s.logic + 1, tag⟩ := by unfold nextS; rw [if_pos he, if_neg h2]
          have HE := Lib.hid he; clear he
          have HS := Lib.hid hs; clear hs h1
          have h4 : s.logic < 1048576 := by omega
          clear h3
          go_wp2
          refine bodyPost_ret (v := .tuple #[.agg #[.int .i64 s.wall, .int .i32 (s.logic + 1), .int .i32 tag], .int .i64 0]) (by simp [results, Try.results47, go_sem, hcw1, hzw11]) rfl (nextPost_of HE.out HS.out ?_)
          have hb := HBw1.out
          go_grown
  · have hc := chk_no (by simpa using h)
    have he : nextE s tag = 2 := by unfold nextE; rw [if_pos (by simpa using h)]
    have HE := Lib.hid he; clear he h
    have HC := Lib.hid hc; clear hc
    go_enter Try.func47, Try.ntmps47
    go_wp2_with fail
    refine (rcheck_any s _).mono ?_
    rintro e w' ⟨rfl, hb⟩
    rw [HC.out]
    obtain ⟨hc, hf⟩ := bcell hb
    have HB : Hid (Below w.heap.size w w') := Below.go (by go_grown) hb (by go_size)
    clear hb
    go_wp2
    refine bodyPost_ret (v := .tuple #[.agg #[.int .i64 0, .int .i32 0, .int .i32 0], .int .i64 2]) (by simp [results, Try.results47, go_sem, hc]) rfl (nextPost_of HE.out (next_zero (by rw [HE.out]; decide)) ?_)
    have hb := HB.out
    go_grown
end Go.Proofs.Ytgikaglmeeeplaa
