/- The walk: a step of a record's life. -/
import Derived.Test.YthigmjcepbgljaaVs
import Derived.Test.YthigmjcepbgljaaPick
import Derived.Test.YthigmjcepbgljaaRF
namespace Go.Proofs.Ythigmjcepbgljaa
open Go.RowKit Go.St
set_option linter.unusedVariables false
set_option linter.unusedSimpArgs false
set_option maxRecDepth 100000
/-- A step as it is handed in. -/
def stepV (s : StepL) : Value := .agg #[.int .i64 s.k, .int .i64 s.a.wall, .int .i32 s.a.logic, .int .i32 s.a.tag, .slice s.A s.n s.c, .int .i64 s.wl]
set_option maxHeartbeats 3200000 in
theorem next_0 (r : Rec) (s : StepL) (hl : fit r) (hn : r.n * 16 ≤ 140737488355328) (hs : s.l.length = s.n) (hsn : s.n * 16 ≤ 140737488355328) (hk : -9223372036854775808 ≤ s.k ∧ s.k ≤ 9223372036854775807) (B : Nat) (w : World) (hr : Rd w B r.A (sv r.l)) (hr2 : Rd w B s.A (sv s.l)) (hB : B ≤ w.heap.size) (hj : s.k % 7 = 0) :
    Calls Try.prog 54 #[r.v, stepV s] w (OutR (stageO r s.a s.n s.l s.wl) (stageE r s.a s.n s.l s.wl) w) := by
  have h1 := fun W (h : Below w.heap.size w W) => stage_any r s.a s.A s.n s.c s.l s.wl hl hs hsn B W (hr.below (h.mono hB)) (hr2.below (h.mono hB)) (Nat.le_trans hB h.size)
  have h0 := pick_any s.k 7 (by decide) (by decide) hk w
  rw [hj] at h0
  have hwr := wrap_tmod2 s.wl
  have HP := Lib.hid (fun W => pick_any s.k 7 (by decide) (by decide) hk W)
  simp only [hj] at HP
  generalize stageO r s.a s.n s.l s.wl = O at *
  generalize stageE r s.a s.n s.l s.wl = E at *
  clear hk hj hr hr2 hl hn hs hsn h0
  obtain ⟨nd, nu, st, ⟨aw, al, ag⟩, A, n, c, l, beat, ⟨pw, pl, pg⟩⟩ := r
  obtain ⟨k, ⟨mw, ml, mg⟩, A2, n2, c2, l2, wl⟩ := s
  unfold Rec.v at h1
  try unfold stv at h1
  simp only at h1 HP hwr
  have H1 := Lib.hid h1
  clear h1
  unfold Rec.v stepV
  simp only
  go_enter Try.func54, Try.ntmps54
  go_wp2_with fail
  refine (HP.out _).mono ?_
  rintro e w1 ⟨rfl, hw1⟩
  subst hw1
  clear HP
  have Y0 := Lib.hid (BxQ.new ((w.alloc (.cells #[.int .i32 nd, .int .i32 nu, .int .u8 st, .int .i64 aw, .int .i32 al, .int .i32 ag, .slice A n c, .int .i64 beat, .int .i64 pw, .int .i32 pl, .int .i32 pg] 30)).alloc (.cells #[.int .i64 k, .int .i64 mw, .int .i32 ml, .int .i32 mg, .slice A2 n2 c2, .int .i64 wl] 80)) ⟨0, 0, 0, ⟨0, 0, 0⟩, none, 0, 0, [], 0, ⟨0, 0, 0⟩⟩ 30)
  rw [World.size_alloc, World.size_alloc] at Y0
  go_wp2_with fail
  refine (H1.out _ (by go_grown)).mono ?_
  rintro e w2 ⟨A9, c9, rfl, hr, hb⟩
  have HRN : Hid (RdN w2 (w.heap.size + 1 + 1 + 1) A9 (sv O.l)) := Lib.hid (hr.mono (by simp))
  have HB2 : Hid (Below w.heap.size w w2) := Below.go (by go_grown) hb (by go_size)
  have Y2 := Lib.hid (Y0.out.next hb)
  have q0 : w.heap.size + 1 + 1 < w2.heap.size := Y2.out.lt
  clear Y0 hr hb H1
  obtain ⟨y0, y1, y2, y3, y4, y5, y6, y7, y8, y9, y10, y11, y12⟩ := Y2.out
  dsimp only at y2 y3 y4 y5 y6 y7 y8 y9 y10 y11 y12
  unfold Rec.to Rec.v
  simp only
  go_wp2
  refine bodyPost_ret (v := .tuple #[.agg #[.int .i32 O.nd, .int .i32 O.nu, .int .u8 O.st, .int .i64 O.at_.wall, .int .i32 O.at_.logic, .int .i32 O.at_.tag, .slice A9 O.n c9, .int .i64 O.beat, .int .i64 O.pu.wall, .int .i32 O.pu.logic, .int .i32 O.pu.tag], .int .i64 E]) (by simp [results, Try.results54, go_sem, *]) rfl ⟨A9, c9, rfl, RdN.mono (B := w.heap.size + 1 + 1 + 1) ?_ (by omega), ?_⟩
  repeat (with_reducible (first | exact HRN.out | refine RdN.set ?_ (by first | (simp; done) | (simp; omega) | omega) _ | refine RdN.alloc ?_ _))
  have hb := HB2.out
  have hbs := hb.size
  go_grown
set_option maxHeartbeats 3200000 in
theorem next_1 (r : Rec) (s : StepL) (hl : fit r) (hn : r.n * 16 ≤ 140737488355328) (hs : s.l.length = s.n) (hsn : s.n * 16 ≤ 140737488355328) (hk : -9223372036854775808 ≤ s.k ∧ s.k ≤ 9223372036854775807) (B : Nat) (w : World) (hr : Rd w B r.A (sv r.l)) (hr2 : Rd w B s.A (sv s.l)) (hB : B ≤ w.heap.size) (hj : s.k % 7 = 1) :
    Calls Try.prog 54 #[r.v, stepV s] w (OutR (commitO r s.a s.n s.l) (commitE r s.a s.n s.l) w) := by
  have h1 := fun W (h : Below w.heap.size w W) => commit_any r s.a s.A s.n s.c s.l hl hs hsn B W (hr.below (h.mono hB)) (hr2.below (h.mono hB)) (Nat.le_trans hB h.size)
  have h0 := pick_any s.k 7 (by decide) (by decide) hk w
  rw [hj] at h0
  have hwr := wrap_tmod2 s.wl
  have HP := Lib.hid (fun W => pick_any s.k 7 (by decide) (by decide) hk W)
  simp only [hj] at HP
  generalize commitO r s.a s.n s.l = O at *
  generalize commitE r s.a s.n s.l = E at *
  clear hk hj hr hr2 hl hn hs hsn h0
  obtain ⟨nd, nu, st, ⟨aw, al, ag⟩, A, n, c, l, beat, ⟨pw, pl, pg⟩⟩ := r
  obtain ⟨k, ⟨mw, ml, mg⟩, A2, n2, c2, l2, wl⟩ := s
  unfold Rec.v at h1
  try unfold stv at h1
  simp only at h1 HP hwr
  have H1 := Lib.hid h1
  clear h1
  unfold Rec.v stepV
  simp only
  go_enter Try.func54, Try.ntmps54
  go_wp2_with fail
  refine (HP.out _).mono ?_
  rintro e w1 ⟨rfl, hw1⟩
  subst hw1
  clear HP
  have Y0 := Lib.hid (BxQ.new ((w.alloc (.cells #[.int .i32 nd, .int .i32 nu, .int .u8 st, .int .i64 aw, .int .i32 al, .int .i32 ag, .slice A n c, .int .i64 beat, .int .i64 pw, .int .i32 pl, .int .i32 pg] 30)).alloc (.cells #[.int .i64 k, .int .i64 mw, .int .i32 ml, .int .i32 mg, .slice A2 n2 c2, .int .i64 wl] 80)) ⟨0, 0, 0, ⟨0, 0, 0⟩, none, 0, 0, [], 0, ⟨0, 0, 0⟩⟩ 30)
  rw [World.size_alloc, World.size_alloc] at Y0
  go_wp2_with fail
  refine (H1.out _ (by go_grown)).mono ?_
  rintro e w2 ⟨A9, c9, rfl, hr, hb⟩
  have HRN : Hid (RdN w2 (w.heap.size + 1 + 1 + 1) A9 (sv O.l)) := Lib.hid (hr.mono (by simp))
  have HB2 : Hid (Below w.heap.size w w2) := Below.go (by go_grown) hb (by go_size)
  have Y2 := Lib.hid (Y0.out.next hb)
  have q0 : w.heap.size + 1 + 1 < w2.heap.size := Y2.out.lt
  clear Y0 hr hb H1
  obtain ⟨y0, y1, y2, y3, y4, y5, y6, y7, y8, y9, y10, y11, y12⟩ := Y2.out
  dsimp only at y2 y3 y4 y5 y6 y7 y8 y9 y10 y11 y12
  unfold Rec.to Rec.v
  simp only
  go_wp2
  refine bodyPost_ret (v := .tuple #[.agg #[.int .i32 O.nd, .int .i32 O.nu, .int .u8 O.st, .int .i64 O.at_.wall, .int .i32 O.at_.logic, .int .i32 O.at_.tag, .slice A9 O.n c9, .int .i64 O.beat, .int .i64 O.pu.wall, .int .i32 O.pu.logic, .int .i32 O.pu.tag], .int .i64 E]) (by simp [results, Try.results54, go_sem, *]) rfl ⟨A9, c9, rfl, RdN.mono (B := w.heap.size + 1 + 1 + 1) ?_ (by omega), ?_⟩
  repeat (with_reducible (first | exact HRN.out | refine RdN.set ?_ (by first | (simp; done) | (simp; omega) | omega) _ | refine RdN.alloc ?_ _))
  have hb := HB2.out
  have hbs := hb.size
  go_grown
set_option maxHeartbeats 3200000 in
theorem next_2 (r : Rec) (s : StepL) (hl : fit r) (hn : r.n * 16 ≤ 140737488355328) (hs : s.l.length = s.n) (hsn : s.n * 16 ≤ 140737488355328) (hk : -9223372036854775808 ≤ s.k ∧ s.k ≤ 9223372036854775807) (B : Nat) (w : World) (hr : Rd w B r.A (sv r.l)) (hr2 : Rd w B s.A (sv s.l)) (hB : B ≤ w.heap.size) (hj : s.k % 7 = 2) :
    Calls Try.prog 54 #[r.v, stepV s] w (OutR (abortO r) (abortE r) w) := by
  have h1 := fun W (h : Below w.heap.size w W) => abort_any r hl B W (hr.below (h.mono hB)) (Nat.le_trans hB h.size) hn
  have h0 := pick_any s.k 7 (by decide) (by decide) hk w
  rw [hj] at h0
  have hwr := wrap_tmod2 s.wl
  have HP := Lib.hid (fun W => pick_any s.k 7 (by decide) (by decide) hk W)
  simp only [hj] at HP
  generalize abortO r = O at *
  generalize abortE r = E at *
  clear hk hj hr hr2 hl hn hs hsn h0
  obtain ⟨nd, nu, st, ⟨aw, al, ag⟩, A, n, c, l, beat, ⟨pw, pl, pg⟩⟩ := r
  obtain ⟨k, ⟨mw, ml, mg⟩, A2, n2, c2, l2, wl⟩ := s
  unfold Rec.v at h1
  try unfold stv at h1
  simp only at h1 HP hwr
  have H1 := Lib.hid h1
  clear h1
  unfold Rec.v stepV
  simp only
  go_enter Try.func54, Try.ntmps54
  go_wp2_with fail
  refine (HP.out _).mono ?_
  rintro e w1 ⟨rfl, hw1⟩
  subst hw1
  clear HP
  have Y0 := Lib.hid (BxQ.new ((w.alloc (.cells #[.int .i32 nd, .int .i32 nu, .int .u8 st, .int .i64 aw, .int .i32 al, .int .i32 ag, .slice A n c, .int .i64 beat, .int .i64 pw, .int .i32 pl, .int .i32 pg] 30)).alloc (.cells #[.int .i64 k, .int .i64 mw, .int .i32 ml, .int .i32 mg, .slice A2 n2 c2, .int .i64 wl] 80)) ⟨0, 0, 0, ⟨0, 0, 0⟩, none, 0, 0, [], 0, ⟨0, 0, 0⟩⟩ 30)
  rw [World.size_alloc, World.size_alloc] at Y0
  go_wp2_with fail
  refine (H1.out _ (by go_grown)).mono ?_
  rintro e w2 ⟨A9, c9, rfl, hr, hb⟩
  have HRN : Hid (RdN w2 (w.heap.size + 1 + 1 + 1) A9 (sv O.l)) := Lib.hid (hr.mono (by simp))
  have HB2 : Hid (Below w.heap.size w w2) := Below.go (by go_grown) hb (by go_size)
  have Y2 := Lib.hid (Y0.out.next hb)
  have q0 : w.heap.size + 1 + 1 < w2.heap.size := Y2.out.lt
  clear Y0 hr hb H1
  obtain ⟨y0, y1, y2, y3, y4, y5, y6, y7, y8, y9, y10, y11, y12⟩ := Y2.out
  dsimp only at y2 y3 y4 y5 y6 y7 y8 y9 y10 y11 y12
  unfold Rec.to Rec.v
  simp only
  go_wp2
  refine bodyPost_ret (v := .tuple #[.agg #[.int .i32 O.nd, .int .i32 O.nu, .int .u8 O.st, .int .i64 O.at_.wall, .int .i32 O.at_.logic, .int .i32 O.at_.tag, .slice A9 O.n c9, .int .i64 O.beat, .int .i64 O.pu.wall, .int .i32 O.pu.logic, .int .i32 O.pu.tag], .int .i64 E]) (by simp [results, Try.results54, go_sem, *]) rfl ⟨A9, c9, rfl, RdN.mono (B := w.heap.size + 1 + 1 + 1) ?_ (by omega), ?_⟩
  repeat (with_reducible (first | exact HRN.out | refine RdN.set ?_ (by first | (simp; done) | (simp; omega) | omega) _ | refine RdN.alloc ?_ _))
  have hb := HB2.out
  have hbs := hb.size
  go_grown
set_option maxHeartbeats 3200000 in
theorem next_3 (r : Rec) (s : StepL) (hl : fit r) (hn : r.n * 16 ≤ 140737488355328) (hs : s.l.length = s.n) (hsn : s.n * 16 ≤ 140737488355328) (hk : -9223372036854775808 ≤ s.k ∧ s.k ≤ 9223372036854775807) (B : Nat) (w : World) (hr : Rd w B r.A (sv r.l)) (hr2 : Rd w B s.A (sv s.l)) (hB : B ≤ w.heap.size) (hj : s.k % 7 = 3) :
    Calls Try.prog 54 #[r.v, stepV s] w (OutR (killO r) (killE r) w) := by
  have h1 := fun W (h : Below w.heap.size w W) => kill_any r hl B W (hr.below (h.mono hB)) (Nat.le_trans hB h.size) hn
  have h0 := pick_any s.k 7 (by decide) (by decide) hk w
  rw [hj] at h0
  have hwr := wrap_tmod2 s.wl
  have HP := Lib.hid (fun W => pick_any s.k 7 (by decide) (by decide) hk W)
  simp only [hj] at HP
  generalize killO r = O at *
  generalize killE r = E at *
  clear hk hj hr hr2 hl hn hs hsn h0
  obtain ⟨nd, nu, st, ⟨aw, al, ag⟩, A, n, c, l, beat, ⟨pw, pl, pg⟩⟩ := r
  obtain ⟨k, ⟨mw, ml, mg⟩, A2, n2, c2, l2, wl⟩ := s
  unfold Rec.v at h1
  try unfold stv at h1
  simp only at h1 HP hwr
  have H1 := Lib.hid h1
  clear h1
  unfold Rec.v stepV
  simp only
  go_enter Try.func54, Try.ntmps54
  go_wp2_with fail
  refine (HP.out _).mono ?_
  rintro e w1 ⟨rfl, hw1⟩
  subst hw1
  clear HP
  have Y0 := Lib.hid (BxQ.new ((w.alloc (.cells #[.int .i32 nd, .int .i32 nu, .int .u8 st, .int .i64 aw, .int .i32 al, .int .i32 ag, .slice A n c, .int .i64 beat, .int .i64 pw, .int .i32 pl, .int .i32 pg] 30)).alloc (.cells #[.int .i64 k, .int .i64 mw, .int .i32 ml, .int .i32 mg, .slice A2 n2 c2, .int .i64 wl] 80)) ⟨0, 0, 0, ⟨0, 0, 0⟩, none, 0, 0, [], 0, ⟨0, 0, 0⟩⟩ 30)
  rw [World.size_alloc, World.size_alloc] at Y0
  go_wp2_with fail
  refine (H1.out _ (by go_grown)).mono ?_
  rintro e w2 ⟨A9, c9, rfl, hr, hb⟩
  have HRN : Hid (RdN w2 (w.heap.size + 1 + 1 + 1) A9 (sv O.l)) := Lib.hid (hr.mono (by simp))
  have HB2 : Hid (Below w.heap.size w w2) := Below.go (by go_grown) hb (by go_size)
  have Y2 := Lib.hid (Y0.out.next hb)
  have q0 : w.heap.size + 1 + 1 < w2.heap.size := Y2.out.lt
  clear Y0 hr hb H1
  obtain ⟨y0, y1, y2, y3, y4, y5, y6, y7, y8, y9, y10, y11, y12⟩ := Y2.out
  dsimp only at y2 y3 y4 y5 y6 y7 y8 y9 y10 y11 y12
  unfold Rec.to Rec.v
  simp only
  go_wp2
  refine bodyPost_ret (v := .tuple #[.agg #[.int .i32 O.nd, .int .i32 O.nu, .int .u8 O.st, .int .i64 O.at_.wall, .int .i32 O.at_.logic, .int .i32 O.at_.tag, .slice A9 O.n c9, .int .i64 O.beat, .int .i64 O.pu.wall, .int .i32 O.pu.logic, .int .i32 O.pu.tag], .int .i64 E]) (by simp [results, Try.results54, go_sem, *]) rfl ⟨A9, c9, rfl, RdN.mono (B := w.heap.size + 1 + 1 + 1) ?_ (by omega), ?_⟩
  repeat (with_reducible (first | exact HRN.out | refine RdN.set ?_ (by first | (simp; done) | (simp; omega) | omega) _ | refine RdN.alloc ?_ _))
  have hb := HB2.out
  have hbs := hb.size
  go_grown
set_option maxHeartbeats 3200000 in
theorem next_4 (r : Rec) (s : StepL) (hl : fit r) (hn : r.n * 16 ≤ 140737488355328) (hs : s.l.length = s.n) (hsn : s.n * 16 ≤ 140737488355328) (hk : -9223372036854775808 ≤ s.k ∧ s.k ≤ 9223372036854775807) (B : Nat) (w : World) (hr : Rd w B r.A (sv r.l)) (hr2 : Rd w B s.A (sv s.l)) (hB : B ≤ w.heap.size) (hj : s.k % 7 = 4) :
    Calls Try.prog 54 #[r.v, stepV s] w (OutR (pushO r s.a) (pushE r s.a) w) := by
  have h1 := fun W (h : Below w.heap.size w W) => push_any r s.a hl B W (hr.below (h.mono hB)) (Nat.le_trans hB h.size) hn
  have h0 := pick_any s.k 7 (by decide) (by decide) hk w
  rw [hj] at h0
  have hwr := wrap_tmod2 s.wl
  have HP := Lib.hid (fun W => pick_any s.k 7 (by decide) (by decide) hk W)
  simp only [hj] at HP
  generalize pushO r s.a = O at *
  generalize pushE r s.a = E at *
  clear hk hj hr hr2 hl hn hs hsn h0
  obtain ⟨nd, nu, st, ⟨aw, al, ag⟩, A, n, c, l, beat, ⟨pw, pl, pg⟩⟩ := r
  obtain ⟨k, ⟨mw, ml, mg⟩, A2, n2, c2, l2, wl⟩ := s
  unfold Rec.v at h1
  try unfold stv at h1
  simp only at h1 HP hwr
  have H1 := Lib.hid h1
  clear h1
  unfold Rec.v stepV
  simp only
  go_enter Try.func54, Try.ntmps54
  go_wp2_with fail
  refine (HP.out _).mono ?_
  rintro e w1 ⟨rfl, hw1⟩
  subst hw1
  clear HP
  have Y0 := Lib.hid (BxQ.new ((w.alloc (.cells #[.int .i32 nd, .int .i32 nu, .int .u8 st, .int .i64 aw, .int .i32 al, .int .i32 ag, .slice A n c, .int .i64 beat, .int .i64 pw, .int .i32 pl, .int .i32 pg] 30)).alloc (.cells #[.int .i64 k, .int .i64 mw, .int .i32 ml, .int .i32 mg, .slice A2 n2 c2, .int .i64 wl] 80)) ⟨0, 0, 0, ⟨0, 0, 0⟩, none, 0, 0, [], 0, ⟨0, 0, 0⟩⟩ 30)
  rw [World.size_alloc, World.size_alloc] at Y0
  go_wp2_with fail
  refine (H1.out _ (by go_grown)).mono ?_
  rintro e w2 ⟨A9, c9, rfl, hr, hb⟩
  have HRN : Hid (RdN w2 (w.heap.size + 1 + 1 + 1) A9 (sv O.l)) := Lib.hid (hr.mono (by simp))
  have HB2 : Hid (Below w.heap.size w w2) := Below.go (by go_grown) hb (by go_size)
  have Y2 := Lib.hid (Y0.out.next hb)
  have q0 : w.heap.size + 1 + 1 < w2.heap.size := Y2.out.lt
  clear Y0 hr hb H1
  obtain ⟨y0, y1, y2, y3, y4, y5, y6, y7, y8, y9, y10, y11, y12⟩ := Y2.out
  dsimp only at y2 y3 y4 y5 y6 y7 y8 y9 y10 y11 y12
  unfold Rec.to Rec.v
  simp only
  go_wp2
  refine bodyPost_ret (v := .tuple #[.agg #[.int .i32 O.nd, .int .i32 O.nu, .int .u8 O.st, .int .i64 O.at_.wall, .int .i32 O.at_.logic, .int .i32 O.at_.tag, .slice A9 O.n c9, .int .i64 O.beat, .int .i64 O.pu.wall, .int .i32 O.pu.logic, .int .i32 O.pu.tag], .int .i64 E]) (by simp [results, Try.results54, go_sem, *]) rfl ⟨A9, c9, rfl, RdN.mono (B := w.heap.size + 1 + 1 + 1) ?_ (by omega), ?_⟩
  repeat (with_reducible (first | exact HRN.out | refine RdN.set ?_ (by first | (simp; done) | (simp; omega) | omega) _ | refine RdN.alloc ?_ _))
  have hb := HB2.out
  have hbs := hb.size
  go_grown
set_option maxHeartbeats 3200000 in
theorem next_5 (r : Rec) (s : StepL) (hl : fit r) (hn : r.n * 16 ≤ 140737488355328) (hs : s.l.length = s.n) (hsn : s.n * 16 ≤ 140737488355328) (hk : -9223372036854775808 ≤ s.k ∧ s.k ≤ 9223372036854775807) (B : Nat) (w : World) (hr : Rd w B r.A (sv r.l)) (hr2 : Rd w B s.A (sv s.l)) (hB : B ≤ w.heap.size) (hj : s.k % 7 = 5) :
    Calls Try.prog 54 #[r.v, stepV s] w (OutR (settleO r s.a (s.wl.tmod 2 == 0)) (settleE r s.a) w) := by
  have h1 := fun W (h : Below w.heap.size w W) => settle_any r s.a (s.wl.tmod 2 == 0) hl B W (hr.below (h.mono hB)) (Nat.le_trans hB h.size) hn
  have h0 := pick_any s.k 7 (by decide) (by decide) hk w
  rw [hj] at h0
  have hwr := wrap_tmod2 s.wl
  have HP := Lib.hid (fun W => pick_any s.k 7 (by decide) (by decide) hk W)
  simp only [hj] at HP
  generalize settleO r s.a (s.wl.tmod 2 == 0) = O at *
  generalize settleE r s.a = E at *
  clear hk hj hr hr2 hl hn hs hsn h0
  obtain ⟨nd, nu, st, ⟨aw, al, ag⟩, A, n, c, l, beat, ⟨pw, pl, pg⟩⟩ := r
  obtain ⟨k, ⟨mw, ml, mg⟩, A2, n2, c2, l2, wl⟩ := s
  unfold Rec.v at h1
  try unfold stv at h1
  simp only at h1 HP hwr
  have H1 := Lib.hid h1
  clear h1
  unfold Rec.v stepV
  simp only
  go_enter Try.func54, Try.ntmps54
  go_wp2_with fail
  refine (HP.out _).mono ?_
  rintro e w1 ⟨rfl, hw1⟩
  subst hw1
  clear HP
  have Y0 := Lib.hid (BxQ.new ((w.alloc (.cells #[.int .i32 nd, .int .i32 nu, .int .u8 st, .int .i64 aw, .int .i32 al, .int .i32 ag, .slice A n c, .int .i64 beat, .int .i64 pw, .int .i32 pl, .int .i32 pg] 30)).alloc (.cells #[.int .i64 k, .int .i64 mw, .int .i32 ml, .int .i32 mg, .slice A2 n2 c2, .int .i64 wl] 80)) ⟨0, 0, 0, ⟨0, 0, 0⟩, none, 0, 0, [], 0, ⟨0, 0, 0⟩⟩ 30)
  rw [World.size_alloc, World.size_alloc] at Y0
  go_wp2_with fail
  refine (H1.out _ (by go_grown)).mono ?_
  rintro e w2 ⟨A9, c9, rfl, hr, hb⟩
  have HRN : Hid (RdN w2 (w.heap.size + 1 + 1 + 1) A9 (sv O.l)) := Lib.hid (hr.mono (by simp))
  have HB2 : Hid (Below w.heap.size w w2) := Below.go (by go_grown) hb (by go_size)
  have Y2 := Lib.hid (Y0.out.next hb)
  have q0 : w.heap.size + 1 + 1 < w2.heap.size := Y2.out.lt
  clear Y0 hr hb H1
  obtain ⟨y0, y1, y2, y3, y4, y5, y6, y7, y8, y9, y10, y11, y12⟩ := Y2.out
  dsimp only at y2 y3 y4 y5 y6 y7 y8 y9 y10 y11 y12
  unfold Rec.to Rec.v
  simp only
  go_wp2
  refine bodyPost_ret (v := .tuple #[.agg #[.int .i32 O.nd, .int .i32 O.nu, .int .u8 O.st, .int .i64 O.at_.wall, .int .i32 O.at_.logic, .int .i32 O.at_.tag, .slice A9 O.n c9, .int .i64 O.beat, .int .i64 O.pu.wall, .int .i32 O.pu.logic, .int .i32 O.pu.tag], .int .i64 E]) (by simp [results, Try.results54, go_sem, *]) rfl ⟨A9, c9, rfl, RdN.mono (B := w.heap.size + 1 + 1 + 1) ?_ (by omega), ?_⟩
  repeat (with_reducible (first | exact HRN.out | refine RdN.set ?_ (by first | (simp; done) | (simp; omega) | omega) _ | refine RdN.alloc ?_ _))
  have hb := HB2.out
  have hbs := hb.size
  go_grown
set_option maxHeartbeats 3200000 in
theorem next_6 (r : Rec) (s : StepL) (hl : fit r) (hn : r.n * 16 ≤ 140737488355328) (hs : s.l.length = s.n) (hsn : s.n * 16 ≤ 140737488355328) (hk : -9223372036854775808 ≤ s.k ∧ s.k ≤ 9223372036854775807) (B : Nat) (w : World) (hr : Rd w B r.A (sv r.l)) (hr2 : Rd w B s.A (sv s.l)) (hB : B ≤ w.heap.size) (hj : s.k % 7 = 6) :
    Calls Try.prog 54 #[r.v, stepV s] w (OutR (beatO r s.wl) (beatE r s.wl) w) := by
  have h1 := fun W (h : Below w.heap.size w W) => beat_any r s.wl hl B W (hr.below (h.mono hB)) (Nat.le_trans hB h.size) hn
  have h0 := pick_any s.k 7 (by decide) (by decide) hk w
  rw [hj] at h0
  have hwr := wrap_tmod2 s.wl
  have HP := Lib.hid (fun W => pick_any s.k 7 (by decide) (by decide) hk W)
  simp only [hj] at HP
  generalize beatO r s.wl = O at *
  generalize beatE r s.wl = E at *
  clear hk hj hr hr2 hl hn hs hsn h0
  obtain ⟨nd, nu, st, ⟨aw, al, ag⟩, A, n, c, l, beat, ⟨pw, pl, pg⟩⟩ := r
  obtain ⟨k, ⟨mw, ml, mg⟩, A2, n2, c2, l2, wl⟩ := s
  unfold Rec.v at h1
  try unfold stv at h1
  simp only at h1 HP hwr
  have H1 := Lib.hid h1
  clear h1
  unfold Rec.v stepV
  simp only
  go_enter Try.func54, Try.ntmps54
  go_wp2_with fail
  refine (HP.out _).mono ?_
  rintro e w1 ⟨rfl, hw1⟩
  subst hw1
  clear HP
  have Y0 := Lib.hid (BxQ.new ((w.alloc (.cells #[.int .i32 nd, .int .i32 nu, .int .u8 st, .int .i64 aw, .int .i32 al, .int .i32 ag, .slice A n c, .int .i64 beat, .int .i64 pw, .int .i32 pl, .int .i32 pg] 30)).alloc (.cells #[.int .i64 k, .int .i64 mw, .int .i32 ml, .int .i32 mg, .slice A2 n2 c2, .int .i64 wl] 80)) ⟨0, 0, 0, ⟨0, 0, 0⟩, none, 0, 0, [], 0, ⟨0, 0, 0⟩⟩ 30)
  rw [World.size_alloc, World.size_alloc] at Y0
  go_wp2_with fail
  refine (H1.out _ (by go_grown)).mono ?_
  rintro e w2 ⟨A9, c9, rfl, hr, hb⟩
  have HRN : Hid (RdN w2 (w.heap.size + 1 + 1 + 1) A9 (sv O.l)) := Lib.hid (hr.mono (by simp))
  have HB2 : Hid (Below w.heap.size w w2) := Below.go (by go_grown) hb (by go_size)
  have Y2 := Lib.hid (Y0.out.next hb)
  have q0 : w.heap.size + 1 + 1 < w2.heap.size := Y2.out.lt
  clear Y0 hr hb H1
  obtain ⟨y0, y1, y2, y3, y4, y5, y6, y7, y8, y9, y10, y11, y12⟩ := Y2.out
  dsimp only at y2 y3 y4 y5 y6 y7 y8 y9 y10 y11 y12
  unfold Rec.to Rec.v
  simp only
  go_wp2
  refine bodyPost_ret (v := .tuple #[.agg #[.int .i32 O.nd, .int .i32 O.nu, .int .u8 O.st, .int .i64 O.at_.wall, .int .i32 O.at_.logic, .int .i32 O.at_.tag, .slice A9 O.n c9, .int .i64 O.beat, .int .i64 O.pu.wall, .int .i32 O.pu.logic, .int .i32 O.pu.tag], .int .i64 E]) (by simp [results, Try.results54, go_sem, *]) rfl ⟨A9, c9, rfl, RdN.mono (B := w.heap.size + 1 + 1 + 1) ?_ (by omega), ?_⟩
  repeat (with_reducible (first | exact HRN.out | refine RdN.set ?_ (by first | (simp; done) | (simp; omega) | omega) _ | refine RdN.alloc ?_ _))
  have hb := HB2.out
  have hbs := hb.size
  go_grown
theorem next_any (r : Rec) (s : StepL) (hl : fit r) (hn : r.n * 16 ≤ 140737488355328) (hs : s.l.length = s.n) (hsn : s.n * 16 ≤ 140737488355328) (hk : -9223372036854775808 ≤ s.k ∧ s.k ≤ 9223372036854775807) (B : Nat) (w : World) (hr : Rd w B r.A (sv r.l)) (hr2 : Rd w B s.A (sv s.l)) (hB : B ≤ w.heap.size) :
    Calls Try.prog 54 #[r.v, stepV s] w (OutR (stepO r s) (stepE r s) w) := by
  unfold stepE stepO
  by_cases k0 : s.k % 7 = 0
  · rw [if_pos k0, if_pos k0]
    exact next_0 r s hl hn hs hsn hk B w hr hr2 hB k0
  rw [if_neg k0, if_neg k0]
  by_cases k1 : s.k % 7 = 1
  · rw [if_pos k1, if_pos k1]
    exact next_1 r s hl hn hs hsn hk B w hr hr2 hB k1
  rw [if_neg k1, if_neg k1]
  by_cases k2 : s.k % 7 = 2
  · rw [if_pos k2, if_pos k2]
    exact next_2 r s hl hn hs hsn hk B w hr hr2 hB k2
  rw [if_neg k2, if_neg k2]
  by_cases k3 : s.k % 7 = 3
  · rw [if_pos k3, if_pos k3]
    exact next_3 r s hl hn hs hsn hk B w hr hr2 hB k3
  rw [if_neg k3, if_neg k3]
  by_cases k4 : s.k % 7 = 4
  · rw [if_pos k4, if_pos k4]
    exact next_4 r s hl hn hs hsn hk B w hr hr2 hB k4
  rw [if_neg k4, if_neg k4]
  by_cases k5 : s.k % 7 = 5
  · rw [if_pos k5, if_pos k5]
    exact next_5 r s hl hn hs hsn hk B w hr hr2 hB k5
  rw [if_neg k5, if_neg k5]
  exact next_6 r s hl hn hs hsn hk B w hr hr2 hB (by omega)
theorem same_fresh (nd nu wall : Int) (A : Option Addr) (c : Nat) (w : World) : Calls Try.prog 14 #[.agg #[.int .i32 nd, .int .i32 nu, .int .u8 1, .int .i64 0, .int .i32 0, .int .i32 0, .slice A 0 c, .int .i64 wall, .int .i64 0, .int .i32 0, .int .i32 0], .agg #[.int .i32 0, .int .i32 0, .int .u8 0, .int .i64 0, .int .i32 0, .int .i32 0, .slice none 0 0, .int .i64 0, .int .i64 0, .int .i32 0, .int .i32 0]] w fun e w' =>
    e = .returned (.bool false) ∧ Below w.heap.size w w' := by
  by_cases h1 : nd = 0
  · by_cases h2 : nu = 0
    · subst h1 h2
      go_enter Try.func14, Try.ntmps14
      go_wp2
      go_ret
      exact ⟨rfl, by go_grown⟩
    · subst h1
      have e2 : (nu == 0) = false := by simpa using h2
      go_enter Try.func14, Try.ntmps14
      go_wp2
      go_ret
      exact ⟨rfl, by go_grown⟩
  · have e2 : (nd == 0) = false := by simpa using h1
    go_enter Try.func14, Try.ntmps14
    go_wp2
    go_ret
    exact ⟨rfl, by go_grown⟩
end Go.Proofs.Ythigmjcepbgljaa
