/- Walks: a node's clock. -/
import Derived.Test.YthijpcbblmcfiaaHb
import Derived.Test.YthijpcbblmcfiaaMut
import Derived.Deep.RegionHeld3
namespace Go.Proofs.Ythijpcbblmcfiaa
open Go.RowKit Go.St
set_option linter.unusedVariables false
set_option linter.unusedSimpArgs false

/-- Block b is a clock: its offset, its last stamp. -/
structure Clk (w : World) (b : Nat) (o : Int) (s : Stp) : Prop where
  c0 : w.cell? ⟨b, 0, none⟩ = some (.bool true)
  c1 : w.cell? ⟨b, 1, none⟩ = some (.int .i64 o)
  c2 : w.cell? ⟨b, 2, none⟩ = some (.int .i64 s.wall)
  c3 : w.cell? ⟨b, 3, none⟩ = some (.int .i32 s.logic)
  c4 : w.cell? ⟨b, 4, none⟩ = some (.int .i32 s.tag)
  f : ∀ i, w.frozen? ⟨b, i, none⟩ = false
theorem Clk.lt {w : World} {b : Nat} {o : Int} {s : Stp} (h : Clk w b o s) : b < w.heap.size := World.block_lt_of_cell? w _ h.c0
theorem Clk.keep {w w' : World} {b : Nat} {o : Int} {s : Stp} (h : Clk w b o s) (hc : ∀ i, w'.cell? ⟨b, i, none⟩ = w.cell? ⟨b, i, none⟩) (hf : ∀ i, w'.frozen? ⟨b, i, none⟩ = w.frozen? ⟨b, i, none⟩) : Clk w' b o s :=
  ⟨(hc 0).trans h.c0, (hc 1).trans h.c1, (hc 2).trans h.c2, (hc 3).trans h.c3, (hc 4).trans h.c4, fun i => (hf i).trans (h.f i)⟩
theorem Clk.below {w w' : World} {b B : Nat} {o : Int} {s : Stp} (h : Clk w b o s) (hb : Below B w w') (hB : b < B) : Clk w' b o s := h.keep (fun i => hb.cell (p := ⟨b, i, none⟩) hB) (fun i => hb.frozen (p := ⟨b, i, none⟩) hB)
theorem Clk.only {w w' : World} {b x B : Nat} {o : Int} {s : Stp} (h : Clk w b o s) (hb : Only B x w w') (hB : b < B) (hx : b ≠ x) : Clk w' b o s := h.keep (fun i => hb.cell (p := ⟨b, i, none⟩) hB hx) (fun i => hb.frozen (p := ⟨b, i, none⟩) hB hx)
theorem Clk.set {w : World} {b : Nat} {o : Int} {s t : Stp} (h : Clk w b o s) : Clk (((w.setCell ⟨b, 2, none⟩ (.int .i64 t.wall)).setCell ⟨b, 3, none⟩ (.int .i32 t.logic)).setCell ⟨b, 4, none⟩ (.int .i32 t.tag)) b o t := by
  obtain ⟨c0, c1, c2, c3, c4, f⟩ := h
  constructor <;> (try intro i) <;> go_simp

set_option maxHeartbeats 800000 in
theorem hraise_any (b : Nat) (o : Int) (l s : Stp) (w : World) (h : Clk w b o l) :
    Calls Try.prog 48 #[.pointer (some ⟨b, 0, none⟩), .agg #[.int .i64 s.wall, .int .i32 s.logic, .int .i32 s.tag]] w fun e w' =>
      e = .returned (.tuple #[]) ∧ Only w.heap.size b w w' ∧ Clk w' b o (maxS l ⟨s.wall, s.logic, 0⟩) := by
  have hlt := h.lt
  have hlt1 : b < w.heap.size + 1 := by omega
  have hne : b ≠ w.heap.size := by omega
  obtain ⟨c0, c1, c2, c3, c4, f⟩ := h
  have HC : Hid (Clk w b o l) := ⟨c0, c1, c2, c3, c4, f⟩
  clear c0 c1
  go_enter Try.func48, Try.ntmps48
  go_wp2_with fail
  refine wp_qtail 9 (by kernel_rfl) (by kernel_rfl) ?_
  intro hcg
  simp only [List.take_succ_cons, List.take_zero, List.drop_succ_cons, List.drop_zero]
  repeat (first | go_big_quiet_step (exact Calls.reg (hmax_any l ⟨s.wall, s.logic, 0⟩ _)) | quiet_step (exact Calls.reg (hmax_any l ⟨s.wall, s.logic, 0⟩ _)))
  refine wpQuiet_nil ?_
  intro wq hbwq hcwq hfwq
  clear hcg
  have W1 : Hid (Clk wq b o l) := HC.out.below ((show Below w.heap.size w wq from Below.go (by go_grown) hbwq (by go_size))) hlt
  have W2 : Hid (Below w.heap.size w wq) := Below.go (by go_grown) hbwq (by go_size)
  clear hbwq
  go_wp2
  refine bodyPost_end (results_none rfl _ _ _) rfl ⟨rfl, ?_, W1.out.set⟩
  refine Only.setCell ?_ (.inl (by rfl)) _
  refine Only.setCell ?_ (.inl (by rfl)) _
  refine Only.setCell ?_ (.inl (by rfl)) _
  exact Only.of_below W2.out

theorem clk_new (w : World) (o : Int) : Clk (w.alloc (.cells #[.bool true, .int .i64 o, .int .i64 0, .int .i32 0, .int .i32 0] 49)) w.heap.size o zeroS := by
  constructor <;> (try intro i) <;> simp [go_sem, zeroS]

set_option maxHeartbeats 800000 in
theorem hnew_ok (o : Int) (s : Stp) (w : World) (h0 : 0 ≤ o) (h1 : o ≤ 1099511627776) (hs : okS s = true) :
    Calls Try.prog 22 #[.int .i64 o, .agg #[.int .i64 s.wall, .int .i32 s.logic, .int .i32 s.tag]] w fun e w' =>
      ∃ b, e = .returned (.tuple #[.pointer (some ⟨b, 0, none⟩), .int .i64 0]) ∧ w.heap.size ≤ b ∧ Clk w' b o ⟨s.wall, s.logic, 0⟩ ∧ Below w.heap.size w w' := by
  have hm := max_zero hs
  have HM := Lib.hid hm; clear hm
  have hc := chk_ok hs
  have HK := Lib.hid hc; clear hc hs
  go_enter Try.func22, Try.ntmps22
  go_wp2_with fail
  refine (hcheck_any s _).mono ?_
  rintro e w1 ⟨rfl, hb⟩
  obtain ⟨hcw1, hfw1⟩ := bcell hb
  have HBw1 : Hid (Below w.heap.size w w1) := Below.go (by go_grown) hb (by go_size)
  have hzw10 : w.heap.size < w1.heap.size := by have := hb.size; simp at this; omega
  clear hb
  rw [HK.out]
  go_wp2_with fail
  refine (hraise_any w1.heap.size o zeroS s _ (clk_new w1 o)).mono ?_
  rintro e w2 ⟨rfl, ho, hk⟩
  rw [HM.out] at hk
  have HO : Hid (Below w.heap.size w w2) := Below.onto (by have h := HBw1.out; go_grown) ho (by omega) (by simp; omega)
  have HK2 := Lib.hid hk; clear ho hk
  go_wp2
  go_ret2
  exact ⟨w1.heap.size, rfl, by omega, HK2.out, HO.out⟩

set_option maxHeartbeats 800000 in
theorem hnew_no (o : Int) (s : Stp) (w : World) (h : newE o s ≠ 0) :
    Calls Try.prog 22 #[.int .i64 o, .agg #[.int .i64 s.wall, .int .i32 s.logic, .int .i32 s.tag]] w fun e w' => e = .returned (.tuple #[.pointer none, .int .i64 2]) ∧ Below w.heap.size w w' := by
  by_cases h1 : o < 0 ∨ 1099511627776 < o
  · clear h
    rcases h1 with h1 | h1
    · go_enter Try.func22, Try.ntmps22
      go_wp2
      go_ret2
      exact ⟨rfl, by go_grown⟩
    · have h2 : decide (o < 0) = false := decide_eq_false (by omega)
      go_enter Try.func22, Try.ntmps22
      go_wp2
      go_ret2
      exact ⟨rfl, by go_grown⟩
  · have hc : chk s = 2 := by
      unfold newE at h
      rw [if_neg h1] at h
      unfold chk at *
      split at h
      · exact absurd rfl h
      · rename_i hn; rw [if_neg hn]
    have HK := Lib.hid hc; clear hc h
    have h2 : 0 ≤ o := by omega
    have h3 : o ≤ 1099511627776 := by omega
    clear h1
    go_enter Try.func22, Try.ntmps22
    go_wp2_with fail
    refine (hcheck_any s _).mono ?_
    rintro e w1 ⟨rfl, hb⟩
    obtain ⟨hcw1, hfw1⟩ := bcell hb
    have HBw1 : Hid (Below w.heap.size w w1) := Below.go (by go_grown) hb (by go_size)
    have hzw10 : w.heap.size < w1.heap.size := by have := hb.size; simp at this; omega
    clear hb
    rw [HK.out]
    go_wp2
    go_ret2
    exact ⟨rfl, HBw1.out⟩

theorem hwrong_any (b : Nat) (w : World) (h : w.cell? ⟨b, 0, none⟩ = some (.bool true)) : Calls Try.prog 49 #[.pointer (some ⟨b, 0, none⟩)] w fun e w' => e = .returned (.int .i64 0) ∧ w = w' := by
  go_enter Try.func49, Try.ntmps49
  go_wp2
  go_ret
  exact ⟨rfl, rfl⟩
theorem hwall_any (t : Int) (w : World) : Calls Try.prog 50 #[.int .i64 t] w fun e w' => e = .returned (.bool (decide (0 ≤ t ∧ t ≤ 1099511627776))) ∧ w = w' := by
  by_cases h1 : 0 ≤ t
  · go_enter Try.func50, Try.ntmps50
    go_wp2
    go_ret
    exact ⟨ret_bool (by simp [h1]), rfl⟩
  · have h2 : decide (0 ≤ t) = false := decide_eq_false h1
    go_enter Try.func50, Try.ntmps50
    go_wp2
    go_ret
    exact ⟨ret_bool (by simp [h1]), rfl⟩

def NowPost (b : Nat) (o : Int) (l : Stp) (t : Int) (w : World) (e : Ending) (w' : World) : Prop :=
  e = .returned (.tuple #[.agg #[.int .i64 (nowS l t).wall, .int .i32 (nowS l t).logic, .int .i32 (nowS l t).tag], .int .i64 (nowE l t)]) ∧ Only w.heap.size b w w' ∧ Clk w' b o (nowL l t)
theorem nowPost_of {l : Stp} {b : Nat} {o t : Int} {w w' : World} {x y z d : Int} (h : nowE l t = d) (k : nowS l t = ⟨x, y, z⟩) (hb : Only w.heap.size b w w') (hk : Clk w' b o (nowL l t)) :
    NowPost b o l t w (.returned (.tuple #[.agg #[.int .i64 x, .int .i32 y, .int .i32 z], .int .i64 d])) w' := by
  unfold NowPost
  rw [h, k]
  exact ⟨rfl, hb, hk⟩

set_option maxHeartbeats 1600000 in
theorem hnow_any (b : Nat) (o : Int) (l : Stp) (t : Int) (w : World) (h : Clk w b o l) (hl : okS l = true) : Calls Try.prog 24 #[.pointer (some ⟨b, 0, none⟩), .int .i64 t] w (NowPost b o l t w) := by
  have hlt := h.lt
  have hlt1 : b < w.heap.size + 1 := by omega
  have hlt2 : b < w.heap.size + 1 + 1 := by omega
  have hne : b ≠ w.heap.size := by omega
  have hne1 : b ≠ w.heap.size + 1 := by omega
  have ⟨o1, o2, o3, o4, o5, o6⟩ := (okS_iff l).1 hl
  obtain ⟨c0, c1, c2, c3, c4, f⟩ := h
  have HC : Hid (Clk w b o l) := ⟨c0, c1, c2, c3, c4, f⟩
  clear hl
  rcases now_cases l t with ⟨h1, hE, hS, hL⟩ | ⟨h1, h2, h3, hE, hS, hL⟩ | ⟨h1, h2, h3, h4, hE, hS, hL⟩ | ⟨h1, h2, h3, h4, hE, hS, hL⟩
  · have HE := Lib.hid hE
    have HS := Lib.hid hS
    have HL := Lib.hid hL
    clear hE hS hL
    rcases h1 with h1 | h1
    · go_enter Try.func24, Try.ntmps24
      go_wp2
      refine bodyPost_ret (v := .tuple #[.agg #[.int .i64 0, .int .i32 0, .int .i32 0], .int .i64 2]) (by simp [results, Try.results24, go_sem]) rfl (nowPost_of HE.out HS.out (Only.of_below (by go_grown)) (by rw [HL.out]; exact HC.out.below (show Below w.heap.size w _ by go_grown) hlt))
    · have h2 : 0 ≤ t := by omega
      go_enter Try.func24, Try.ntmps24
      have h3 : decide (t ≤ 1099511627776) = false := decide_eq_false (by omega)
      go_wp2
      refine bodyPost_ret (v := .tuple #[.agg #[.int .i64 0, .int .i32 0, .int .i32 0], .int .i64 2]) (by simp [results, Try.results24, go_sem]) rfl (nowPost_of HE.out HS.out (Only.of_below (by go_grown)) (by rw [HL.out]; exact HC.out.below (show Below w.heap.size w _ by go_grown) hlt))
  · have HE := Lib.hid hE
    have HS := Lib.hid hS
    have HL := Lib.hid hL
    have hm : maxS l ⟨t, 0, 0⟩ = ⟨t, 0, 0⟩ := max_right ((less_iff _ _).2 (.inl h3))
    have HM := Lib.hid hm
    clear hE hS hL hm
    go_enter Try.func24, Try.ntmps24
    have hW := hwall_any t
    rw [decide_eq_true (show 0 ≤ t ∧ t ≤ 1099511627776 from ⟨h1, h2⟩)] at hW
    have HW := Lib.hid hW; clear hW
    go_wp2_with fail
    refine (hwrong_any b _ (by go_simp)).mono ?_
    rintro e w' ⟨rfl, rfl⟩
    go_wp2_with fail
    refine (HW.out _).mono ?_
    rintro e w' ⟨rfl, rfl⟩
    go_wp2_with fail
    (refine (hraise_any b o l ⟨t, 0, 0⟩ _ ?_).mono ?_; (exact HC.out.below (show Below w.heap.size w _ by go_grown) hlt); rintro e w1 ⟨rfl, ho, hk⟩)
    rw [HM.out] at hk
    have hz := ho.size
    have HO : Hid (Only w.heap.size b w w1) := (Only.of_below (by go_grown)).trans (ho.mono (by go_size))
    have hc1 : ∀ k i, k < w.heap.size + 1 + 1 → k ≠ b → w1.cell? ⟨k, i, none⟩ = _ := fun k i h1 h2 => ho.cell (p := ⟨k, i, none⟩) (by simpa using h1) h2
    have hf1 : ∀ k i, k < w.heap.size + 1 + 1 → k ≠ b → w1.frozen? ⟨k, i, none⟩ = _ := fun k i h1 h2 => ho.frozen (p := ⟨k, i, none⟩) (by simpa using h1) h2
    have HK := Lib.hid hk
    have n1 : w.heap.size ≠ b := by omega
    have n2 : w.heap.size + 1 ≠ b := by omega
    have e0 : w1.cell? ⟨w.heap.size, 0, none⟩ = some (.int .i64 0) := by rw [hc1 _ _ (by omega) n1]; go_simp
    have e1 : w1.cell? ⟨w.heap.size, 1, none⟩ = some (.int .i32 0) := by rw [hc1 _ _ (by omega) n1]; go_simp
    have e2 : w1.cell? ⟨w.heap.size, 2, none⟩ = some (.int .i32 0) := by rw [hc1 _ _ (by omega) n1]; go_simp
    have g0 : w1.cell? ⟨w.heap.size + 1, 0, none⟩ = some (.int .i64 t) := by rw [hc1 _ _ (by omega) n2]; go_simp
    have g1 : w1.cell? ⟨w.heap.size + 1, 1, none⟩ = some (.int .i32 0) := by rw [hc1 _ _ (by omega) n2]; go_simp
    have g2 : w1.cell? ⟨w.heap.size + 1, 2, none⟩ = some (.int .i32 0) := by rw [hc1 _ _ (by omega) n2]; go_simp
    have f0 : ∀ i, w1.frozen? ⟨w.heap.size, i, none⟩ = false := fun i => by rw [hf1 _ _ (by omega) n1]; go_simp
    clear ho hk hz c0 c1 c2 c3 c4 f hc1 hf1
    go_wp2
    refine bodyPost_ret (v := .tuple #[.agg #[.int .i64 t, .int .i32 0, .int .i32 0], .int .i64 0]) (by simp [results, Try.results24, go_sem, e0, e1, e2]) rfl (nowPost_of HE.out HS.out ?_ ?_)
    · exact ((HO.out.setCell (.inr (by simp)) _).setCell (.inr (by simp)) _).setCell (.inr (by simp)) _
    · rw [HL.out]
      exact HK.out.keep (fun i => by go_simp) (fun i => by go_simp)
  · have HE := Lib.hid hE
    have HS := Lib.hid hS
    have HL := Lib.hid hL
    clear hE hS hL
    obtain ⟨x, y, z⟩ := l
    obtain rfl : y = 1048576 := h4
    simp only at *
    go_enter Try.func24, Try.ntmps24
    go_wp2
    refine wp_qtail 12 (by kernel_rfl) (by kernel_rfl) ?_
    intro hcg
    simp only [List.take_succ_cons, List.take_zero, List.drop_succ_cons, List.drop_zero]
    repeat (first | go_big_quiet_step (fail) | quiet_step (fail))
    refine wpQuiet_nil ?_
    intro wq hbwq hcwq hfwq
    clear hcg
    have HB : Hid (Below w.heap.size w wq) := Below.go (by go_grown) hbwq (by go_size)
    have e0 : wq.cell? ⟨w.heap.size, 0, none⟩ = some (.int .i64 0) := by go_simp
    have e1 : wq.cell? ⟨w.heap.size, 1, none⟩ = some (.int .i32 0) := by go_simp
    have e2 : wq.cell? ⟨w.heap.size, 2, none⟩ = some (.int .i32 0) := by go_simp
    have far := far_store (p := w.heap.size + 1) (q := w.heap.size) (by omega)
    have E0 := Lib.hid e0; have E1 := Lib.hid e1; have E2 := Lib.hid e2
    clear hbwq e0 e1 e2
    go_wp2
    have e0 := E0.out; have e1 := E1.out; have e2 := E2.out
    refine bodyPost_ret (v := .tuple #[.agg #[.int .i64 0, .int .i32 0, .int .i32 0], .int .i64 8]) (by simp [results, Try.results24, go_sem, e0, e1, e2, far]) rfl (nowPost_of HE.out HS.out ?_ ?_)
    · have h := HB.out
      exact Only.of_below (by go_grown)
    · rw [HL.out]
      have h := HB.out
      exact HC.out.below (show Below w.heap.size w _ by go_grown) hlt
  · have HE := Lib.hid hE
    have HS := Lib.hid hS
    have HL := Lib.hid hL
    have hm : maxS l ⟨l.wall, l.logic + 1, 0⟩ = ⟨l.wall, l.logic + 1, 0⟩ := max_right ((less_iff _ _).2 (.inr ⟨rfl, .inl (by simp only; omega)⟩))
    have HM := Lib.hid hm
    have h5 : l.logic < 1048576 := by omega
    clear hE hS hL hm h4
    go_enter Try.func24, Try.ntmps24
    go_wp2
    refine wp_qtail 12 (by kernel_rfl) (by kernel_rfl) ?_
    intro hcg
    simp only [List.take_succ_cons, List.take_zero, List.drop_succ_cons, List.drop_zero]
    repeat (first | go_big_quiet_step (fail) | quiet_step (fail))
    refine wpQuiet_nil ?_
    intro wq hbwq hcwq hfwq
    clear hcg
    have HB : Hid (Below w.heap.size w wq) := Below.go (by go_grown) hbwq (by go_size)
    have hz : w.heap.size + 1 < wq.heap.size := by have := hbwq.size; simp at this; omega
    have hz0 : w.heap.size < wq.heap.size := by omega
    have e0 : wq.cell? ⟨w.heap.size, 0, none⟩ = some (.int .i64 0) := by go_simp
    have e1 : wq.cell? ⟨w.heap.size, 1, none⟩ = some (.int .i32 0) := by go_simp
    have e2 : wq.cell? ⟨w.heap.size, 2, none⟩ = some (.int .i32 0) := by go_simp
    have far := far_store (p := w.heap.size + 1) (q := w.heap.size) (by omega)
    have E0 := Lib.hid e0; have E1 := Lib.hid e1; have E2 := Lib.hid e2
    clear hbwq e0 e1 e2
    go_wp2_with fail
    (refine (hraise_any b o l ⟨l.wall, l.logic + 1, 0⟩ _ ?_).mono ?_; (exact HC.out.below (show Below w.heap.size w _ by have h := HB.out; go_grown) hlt); rintro e w1 ⟨rfl, ho, hk⟩)
    rw [HM.out] at hk
    have hz2 := ho.size
    have HO : Hid (Only w.heap.size b w w1) := (Only.of_below (by have h := HB.out; go_grown)).trans (ho.mono (by have h := HB.out.size; go_size))
    have hc1 : ∀ k i, k < w.heap.size + 1 + 1 → k ≠ b → w1.cell? ⟨k, i, none⟩ = _ := fun k i h1 h2 => ho.cell (p := ⟨k, i, none⟩) (by simp; omega) h2
    have hf1 : ∀ k i, k < w.heap.size + 1 + 1 → k ≠ b → w1.frozen? ⟨k, i, none⟩ = _ := fun k i h1 h2 => ho.frozen (p := ⟨k, i, none⟩) (by simp; omega) h2
    have HK := Lib.hid hk
    have n1 : w.heap.size ≠ b := by omega
    have n2 : w.heap.size + 1 ≠ b := by omega
    have hdec : decide (1048576 < l.logic + 1) = false := decide_eq_false (by omega)
    have e0 : w1.cell? ⟨w.heap.size, 0, none⟩ = some (.int .i64 0) := by rw [hc1 _ _ (by omega) n1, far, far, far]; exact E0.out
    have e1 : w1.cell? ⟨w.heap.size, 1, none⟩ = some (.int .i32 0) := by rw [hc1 _ _ (by omega) n1, far, far, far]; exact E1.out
    have e2 : w1.cell? ⟨w.heap.size, 2, none⟩ = some (.int .i32 0) := by rw [hc1 _ _ (by omega) n1, far, far, far]; exact E2.out
    have g0 : w1.cell? ⟨w.heap.size + 1, 0, none⟩ = some (.int .i64 l.wall) := by rw [hc1 _ _ (by omega) n2]; go_simp
    have g1 : w1.cell? ⟨w.heap.size + 1, 1, none⟩ = some (.int .i32 (l.logic + 1)) := by rw [hc1 _ _ (by omega) n2]; go_simp
    have g2 : w1.cell? ⟨w.heap.size + 1, 2, none⟩ = some (.int .i32 0) := by rw [hc1 _ _ (by omega) n2]; go_simp
    have f0 : ∀ i, w1.frozen? ⟨w.heap.size, i, none⟩ = false := fun i => by rw [hf1 _ _ (by omega) n1]; go_simp
    clear ho hk hz2 c0 c1 c2 c3 c4 f hc1 hf1
    go_wp2
    refine bodyPost_ret (v := .tuple #[.agg #[.int .i64 l.wall, .int .i32 (l.logic + 1), .int .i32 0], .int .i64 0]) (by simp [results, Try.results24, go_sem, e0, e1, e2]) rfl (nowPost_of HE.out HS.out ?_ ?_)
    · exact ((HO.out.setCell (.inr (by simp)) _).setCell (.inr (by simp)) _).setCell (.inr (by simp)) _
    · rw [HL.out]
      exact HK.out.keep (fun i => by go_simp) (fun i => by go_simp)
end Go.Proofs.Ythijpcbblmcfiaa
