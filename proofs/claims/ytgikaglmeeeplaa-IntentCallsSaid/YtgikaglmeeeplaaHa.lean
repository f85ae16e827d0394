/- Walks: stamps checked and compared. -/
import Derived.Test.YtgikaglmeeeplaaChecked
import Derived.Test.YtgikaglmeeeplaaHmath
import Derived.Test.YtgikaglmeeeplaaBase
import Derived.WalkKit
import Derived.WalkLawsBesides
import Derived.WalkSpells
import Derived.Handy
import Derived.Lib.Hide
import Derived.Deep.LoopGhost
import Derived.Deep.DeepFit
import Derived.BigQuiet
import Derived.Lib.QuietBelow
import Derived.StillTailTactics
import Derived.Test.YtgikaglmeeeplaaTail
import Derived.Outline
namespace Go.Proofs.Ytgikaglmeeeplaa
open Go.RowKit Go.St
set_option linter.unusedVariables false

set_option maxHeartbeats 400000 in
theorem hcheck_any (s : Stp) (w : World) :
    Calls Try.prog 38 #[.agg #[.int .i64 s.wall, .int .i32 s.logic, .int .i32 s.tag]] w fun e w' => e = .returned (.int .i64 (chk s)) ∧ Below w.heap.size w w' := by
  obtain ⟨a, b, c⟩ := s
  go_enter Try.func38, Try.ntmps38
  go_wp2
  all_goals
    go_ret
    refine ⟨ret_int ?_, (Below.refl _ _).alloc (Nat.le_refl _) _⟩
    unfold chk
    split <;> (rename_i h; simp [okS] at h; try omega)

theorem rcheck_any (s : Stp) (w : World) :
    Calls Try.prog 20 #[.agg #[.int .i64 s.wall, .int .i32 s.logic, .int .i32 s.tag]] w fun e w' => e = .returned (.int .i64 (chk s)) ∧ Below w.heap.size w w' := by
  obtain ⟨a, b, c⟩ := s
  go_enter Try.func20, Try.ntmps20
  go_wp2
  all_goals
    go_ret
    refine ⟨ret_int ?_, (Below.refl _ _).alloc (Nat.le_refl _) _⟩
    unfold chk
    split <;> (rename_i h; simp [okS] at h; try omega)

def cmp3 (a b : Int) : Int := if a < b then -1 else if b < a then 1 else 0
def or3 (x y z : Int) : Int := if x ≠ 0 then x else if y ≠ 0 then y else z
theorem cmpS_or3 (a b : Stp) : or3 (cmp3 a.wall b.wall) (cmp3 a.logic b.logic) (cmp3 a.tag b.tag) = cmpS a b := by
  unfold or3 cmp3 cmpS
  by_cases h : less a b = true
  · rw [if_pos h]
    rw [less_iff] at h
    repeat' split
    all_goals omega
  · rw [if_neg h]
    by_cases k : less b a = true
    · rw [if_pos k]
      rw [less_iff] at h k
      repeat' split
      all_goals omega
    · rw [if_neg k]
      rw [less_iff] at h k
      repeat' split
      all_goals omega

theorem cmp64_any (a b : Int) (w : World) : Calls Try.prog 59 #[.int .i64 a, .int .i64 b] w fun e w' => e = .returned (.int .i64 (cmp3 a b)) ∧ w' = w := by
  go_enter Try.func59, Try.ntmps59
  go_wp2
  all_goals
    go_ret
    refine ⟨ret_int ?_, rfl⟩
    unfold cmp3
    repeat' split
    all_goals omega
theorem cmp32_any (a b : Int) (w : World) : Calls Try.prog 60 #[.int .i32 a, .int .i32 b] w fun e w' => e = .returned (.int .i64 (cmp3 a b)) ∧ w' = w := by
  go_enter Try.func60, Try.ntmps60
  go_wp2
  all_goals
    go_ret
    refine ⟨ret_int ?_, rfl⟩
    unfold cmp3
    repeat' split
    all_goals omega

set_option maxHeartbeats 400000 in
theorem or3_any (b : Nat) (x y z : Int) (w : World) (h0 : w.cell? ⟨b, 0, none⟩ = some (.int .i64 x)) (h1 : w.cell? ⟨b, 1, none⟩ = some (.int .i64 y)) (h2 : w.cell? ⟨b, 2, none⟩ = some (.int .i64 z)) :
    Calls Try.prog 58 #[.slice (some ⟨b, 0, none⟩) 3 3] w fun e w' => e = .returned (.int .i64 (or3 x y z)) ∧ w' = w := by
  go_enter Try.func58, Try.ntmps58
  go_wp2
  go_loop [5, 8] (fun v i => ∃ k : Nat, k ≤ 3 ∧ i = .int .i64 k ∧ (1 ≤ k → x = 0) ∧ (2 ≤ k → y = 0) ∧ (3 ≤ k → z = 0)) (fun _ i => 3 - (intOf i).toNat)
  case atStart => exact ⟨0, by omega, rfl, by omega, by omega, by omega⟩
  case round =>
    obtain ⟨k, hk, rfl, p0, p1, p2⟩ := hrel
    rcases (by omega : k = 0 ∨ k = 1 ∨ k = 2 ∨ k = 3) with rfl | rfl | rfl | rfl
    · clear p0 p1 p2
      by_cases hx : x = 0
      · subst hx
        go_wp2
        exact ⟨⟨1, by omega, rfl, by simp, by simp, by simp⟩, by simp [intOf]⟩
      · have e1 : (x != 0) = true := by simpa using hx
        have HX := Lib.hid hx; clear hx
        go_wp2
        go_ret
        exact ⟨ret_int (by unfold or3; rw [if_pos HX.out]), rfl⟩
    · obtain rfl := p0 (by omega)
      clear p0 p1 p2
      by_cases hx : y = 0
      · subst hx
        go_wp2
        exact ⟨⟨2, by omega, rfl, by simp, by simp, by simp⟩, by simp [intOf]⟩
      · have e1 : (y != 0) = true := by simpa using hx
        have HX := Lib.hid hx; clear hx
        go_wp2
        go_ret
        exact ⟨ret_int (by unfold or3; rw [if_neg (by omega), if_pos HX.out]), rfl⟩
    · obtain rfl := p0 (by omega)
      obtain rfl := p1 (by omega)
      clear p0 p1 p2
      by_cases hx : z = 0
      · subst hx
        go_wp2
        exact ⟨⟨3, by omega, rfl, by simp, by simp, by simp⟩, by simp [intOf]⟩
      · have e1 : (z != 0) = true := by simpa using hx
        have HX := Lib.hid hx; clear hx
        go_wp2
        go_ret
        exact ⟨ret_int (by unfold or3; rw [if_neg (by omega), if_neg (by omega)]), rfl⟩
    · obtain rfl := p0 (by omega)
      obtain rfl := p1 (by omega)
      obtain rfl := p2 (by omega)
      clear p0 p1 p2
      go_wp2
      go_ret
      exact ⟨rfl, rfl⟩

set_option maxHeartbeats 400000 in
set_option maxRecDepth 100000 in
theorem hcompare_any (s t : Stp) (w : World) :
    Calls Try.prog 34 #[.agg #[.int .i64 s.wall, .int .i32 s.logic, .int .i32 s.tag], .agg #[.int .i64 t.wall, .int .i32 t.logic, .int .i32 t.tag]] w fun e w' => e = .returned (.int .i64 (cmpS s t)) ∧ Below w.heap.size w w' := by
  have hs := cmpS_or3 s t
  have HS := Lib.hid hs; clear hs
  go_enter Try.func34, Try.ntmps34
  go_wp2
  refine wp_tail 15 (by kernel_rfl) (by kernel_rfl) ?_
  intro W hc hf hz hb
  simp only [List.take_succ_cons, List.take_zero, List.drop_succ_cons, List.drop_zero]
  clear hf
  repeat (first | still_step | still_call (cmp64_any _ _ _) | still_call (cmp32_any _ _ _))
  refine wpStill_nil ?_
  have hB := Lib.hid hb; clear hb hc
  go_wp2_with fail
  refine (or3_any _ (cmp3 s.wall t.wall) (cmp3 s.logic t.logic) (cmp3 s.tag t.tag) _ (by go_simp) (by go_simp) (by go_simp)).mono ?_
  rintro e w' ⟨rfl, rfl⟩
  go_wp2
  go_ret
  have h0 := hB.out w.heap.size w (by go_grown)
  exact ⟨ret_int HS.out, h0.alloc h0.size _⟩

set_option maxHeartbeats 400000 in
theorem hmax_any (s t : Stp) (w : World) :
    Calls Try.prog 36 #[.agg #[.int .i64 s.wall, .int .i32 s.logic, .int .i32 s.tag], .agg #[.int .i64 t.wall, .int .i32 t.logic, .int .i32 t.tag]] w fun e w' =>
      e = .returned (.agg #[.int .i64 (maxS s t).wall, .int .i32 (maxS s t).logic, .int .i32 (maxS s t).tag]) ∧ Below w.heap.size w w' := by
  by_cases h : less s t = true
  · have hc := cmp_lt h
    have hm : maxS s t = t := by simp [maxS, h]
    rw [hm]
    have HC := Lib.hid hc; clear hc hm h
    go_enter Try.func36, Try.ntmps36
    go_wp2_with fail
    refine (hcompare_any s t _).mono ?_
    rintro e w' ⟨rfl, hb⟩
    rw [HC.out]
    obtain ⟨hc, hf⟩ := bcell hb
    have HB : Hid (Below w.heap.size w w') := Below.go (by go_grown) hb (by go_size)
    clear hb
    go_wp2
    refine bodyPost_ret (v := .agg #[.int .i64 t.wall, .int .i32 t.logic, .int .i32 t.tag]) (by simp [results, Try.results36, go_sem, hc]) rfl ⟨rfl, ?_⟩
    have hb := HB.out
    go_grown
  · have hm : maxS s t = s := by simp [maxS, h]
    have hc : decide (cmpS s t < 0) = false := decide_eq_false (by rw [cmp_neg]; simpa using h)
    rw [hm]
    have HC := Lib.hid hc; clear hc hm h
    go_enter Try.func36, Try.ntmps36
    go_wp2_with fail
    refine (hcompare_any s t _).mono ?_
    rintro e w' ⟨rfl, hb⟩
    obtain ⟨hc, hf⟩ := bcell hb
    have HB : Hid (Below w.heap.size w w') := Below.go (by go_grown) hb (by go_size)
    have hd := HC.out
    clear hb
    generalize cmpS s t = q at *
    go_wp2
    refine bodyPost_ret (v := .agg #[.int .i64 s.wall, .int .i32 s.logic, .int .i32 s.tag]) (by simp [results, Try.results36, go_sem, hc]) rfl ⟨rfl, ?_⟩
    have hb := HB.out
    go_grown

set_option maxHeartbeats 400000 in
theorem rless_any (s t : Stp) (w : World) :
    Calls Try.prog 11 #[.agg #[.int .i64 s.wall, .int .i32 s.logic, .int .i32 s.tag], .agg #[.int .i64 t.wall, .int .i32 t.logic, .int .i32 t.tag]] w fun e w' => e = .returned (.bool (less s t)) ∧ Below w.heap.size w w' := by
  obtain ⟨a, b, c⟩ := s
  obtain ⟨x, y, z⟩ := t
  by_cases h1 : a = x
  · by_cases h2 : b = y
    · subst h1 h2
      go_enter Try.func11, Try.ntmps11
      go_wp2
      go_ret
      exact ⟨ret_bool (by simp [less]), by go_grown⟩
    · subst h1
      have e1 : (b != y) = true := by simpa using h2
      go_enter Try.func11, Try.ntmps11
      go_wp2
      go_ret
      exact ⟨ret_bool (by simp [less, h2]), by go_grown⟩
  · have e1 : (a != x) = true := by simpa using h1
    go_enter Try.func11, Try.ntmps11
    go_wp2
    go_ret
    exact ⟨ret_bool (by simp [less, h1]), by go_grown⟩

set_option maxHeartbeats 400000 in
theorem rmax_any (s t : Stp) (w : World) :
    Calls Try.prog 46 #[.agg #[.int .i64 s.wall, .int .i32 s.logic, .int .i32 s.tag], .agg #[.int .i64 t.wall, .int .i32 t.logic, .int .i32 t.tag]] w fun e w' =>
      e = .returned (.agg #[.int .i64 (maxS s t).wall, .int .i32 (maxS s t).logic, .int .i32 (maxS s t).tag]) ∧ Below w.heap.size w w' := by
  have c0 := rless_any s t
  by_cases h : less s t = true
  · have hm : maxS s t = t := by simp [maxS, h]
    rw [hm]
    rw [h] at c0
    have C0 := Lib.hid c0; clear c0 hm h
    go_enter Try.func46, Try.ntmps46
    go_wp2_with fail
    refine (C0.out _).mono ?_
    rintro e w' ⟨rfl, hb⟩
    obtain ⟨hc, hf⟩ := bcell hb
    have HB : Hid (Below w.heap.size w w') := Below.go (by go_grown) hb (by go_size)
    clear hb
    go_wp2
    refine bodyPost_ret (v := .agg #[.int .i64 t.wall, .int .i32 t.logic, .int .i32 t.tag]) (by simp [results, Try.results46, go_sem, hc]) rfl ⟨rfl, ?_⟩
    have hb := HB.out
    go_grown
  · have hm : maxS s t = s := by simp [maxS, h]
    have h0 : less s t = false := by simpa using h
    rw [hm]
    rw [h0] at c0
    have C0 := Lib.hid c0; clear c0 hm h h0
    go_enter Try.func46, Try.ntmps46
    go_wp2_with fail
    refine (C0.out _).mono ?_
    rintro e w' ⟨rfl, hb⟩
    obtain ⟨hc, hf⟩ := bcell hb
    have HB : Hid (Below w.heap.size w w') := Below.go (by go_grown) hb (by go_size)
    clear hb
    go_wp2
    refine bodyPost_ret (v := .agg #[.int .i64 s.wall, .int .i32 s.logic, .int .i32 s.tag]) (by simp [results, Try.results46, go_sem, hc]) rfl ⟨rfl, ?_⟩
    have hb := HB.out
    go_grown
end Go.Proofs.Ytgikaglmeeeplaa
