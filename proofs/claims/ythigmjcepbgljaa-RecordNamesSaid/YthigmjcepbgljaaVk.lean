/- Walks: a record aborted, killed, settled, pushed, kept alive (kept alive). -/
import Derived.Test.YthigmjcepbgljaaVe2
import Derived.Deep.Cut
namespace Go.Proofs.Ythigmjcepbgljaa
open Go.RowKit Go.St
set_option linter.unusedVariables false
set_option linter.unusedSimpArgs false
set_option maxRecDepth 100000
set_option maxHeartbeats 3200000 in
theorem beat_any (r : Rec) (wall : Int) (hl : fit r) (B : Nat) (w : World) (hr : Rd w B r.A (sv r.l)) (hB : B ≤ w.heap.size) (hn : r.n * 16 ≤ 140737488355328) :
    Calls Try.prog 32 #[r.v, .int .i64 wall] w (OutR (beatO r wall) (beatE r wall) w) := by
  have hc := beat_cases r wall
  have nb := chkR_st' (r := r)
  have h1 := fun W (h : Below w.heap.size w W) => reccheck_any r hl B W (hr.below (h.mono hB)) (Nat.le_trans hB h.size)
  have HREF := Lib.hid (fun A n c B (hl : 2 = n) W (h : Rd W B A (iv [3, 4])) hB => refused_any r A n c B [3, 4] hl (by omega) W h hB)
  have hw := fun W (h : Below w.heap.size w W) => copiedN_any r hl hn B W (hr.below (h.mono hB)) (Nat.le_trans hB h.size)
  generalize beatE r wall = E at *
  generalize beatO r wall = O at *
  generalize hve : chkR r = ve at *
  have HST := Lib.hid nb
  clear nb hve hl hr hn
  obtain ⟨nd, nu, st, ⟨aw, al, ag⟩, A, n, c, l, beat, ⟨pw, pl, pg⟩⟩ := r

  have HW : Hid (∀ W, Below w.heap.size w W → Calls _ _ _ W (fun e w' => ∃ A' c', e = .returned (.agg #[.int .i32 nd, .int .i32 nu, .int .u8 st, .int .i64 aw, .int .i32 al, .int .i32 ag, .slice A' n c', .int .i64 beat, .int .i64 pw, .int .i32 pl, .int .i32 pg]) ∧ RdN w' W.heap.size A' (sv l) ∧ Below W.heap.size W w')) := Lib.hid hw
  clear hw
  simp only at HST hc h1 ⊢
  have HC := Lib.hid hc; clear hc
  have H1 := Lib.hid h1; clear h1
  unfold Rec.v at *

  simp only at H1 ⊢
  go_enter Try.func32, Try.ntmps32
  go_wp2_with fail
  refine (H1.out _ (by go_grown)).mono ?_
  rintro e w1 ⟨rfl, hb⟩
  have HB1 : Hid (Below w.heap.size w w1) := Below.go (by go_grown) hb (by go_size)
  have X1 := Lib.hid (((BxQ.new w ⟨nd, nu, st, ⟨aw, al, ag⟩, A, n, c, l, beat, ⟨pw, pl, pg⟩⟩ 30).alloc _).next hb)
  have Y1 := Lib.hid ((BxQ.new (w.alloc (.cells #[.int .i32 nd, .int .i32 nu, .int .u8 st, .int .i64 aw, .int .i32 al, .int .i32 ag, .slice A n c, .int .i64 beat, .int .i64 pw, .int .i32 pl, .int .i32 pg] 30)) ⟨0, 0, 0, ⟨0, 0, 0⟩, none, 0, 0, [], 0, ⟨0, 0, 0⟩⟩ 30).next hb)
  rw [World.size_alloc] at Y1
  clear hb H1
  rcases HC.out with ⟨hve, rfl, rfl⟩ | ⟨hve, hwl, rfl, rfl⟩ | ⟨hve, hwl, rfl, rfl⟩ | ⟨hve, hw1, hw2, hst, rfl, rfl⟩ | ⟨hve, hw1, hw2, hst, rfl, rfl⟩ | ⟨hve, hw1, hw2, hst, rfl, rfl⟩ | ⟨hve, hw1, hw2, hst, rfl, rfl⟩
  all_goals clear HC
  · have q0 : w.heap.size < w1.heap.size := X1.out.lt
    have q1 : w.heap.size + 1 < w1.heap.size := Y1.out.lt
    have hne : (E == 0) = false := by simpa using hve
    have hne2 : (E != 0) = true := by rw [bne, hne]; rfl
    obtain ⟨x0, x1, x2, x3, x4, x5, x6, x7, x8, x9, x10, x11, x12⟩ := X1.out
    dsimp only at x2 x3 x4 x5 x6 x7 x8 x9 x10 x11 x12
    obtain ⟨y0, y1, y2, y3, y4, y5, y6, y7, y8, y9, y10, y11, y12⟩ := Y1.out
    dsimp only at y2 y3 y4 y5 y6 y7 y8 y9 y10 y11 y12
    go_wp2
    refine bodyPost_ret (v := .tuple #[.agg #[.int .i32 0, .int .i32 0, .int .u8 0, .int .i64 0, .int .i32 0, .int .i32 0, .slice none 0 0, .int .i64 0, .int .i64 0, .int .i32 0, .int .i32 0], .int .i64 E]) (by simp [results, Try.results32, go_sem, *]) rfl ⟨none, 0, rfl, RdN.nil, ?_⟩
    have hb := HB1.out
    have hbs := hb.size
    go_grown
  · have q0 : w.heap.size < w1.heap.size := X1.out.lt
    have q1 : w.heap.size + 1 < w1.heap.size := Y1.out.lt
    subst hve
    obtain ⟨x0, x1, x2, x3, x4, x5, x6, x7, x8, x9, x10, x11, x12⟩ := X1.out
    dsimp only at x2 x3 x4 x5 x6 x7 x8 x9 x10 x11 x12
    obtain ⟨y0, y1, y2, y3, y4, y5, y6, y7, y8, y9, y10, y11, y12⟩ := Y1.out
    dsimp only at y2 y3 y4 y5 y6 y7 y8 y9 y10 y11 y12
    go_wp2
    refine bodyPost_ret (v := .tuple #[.agg #[.int .i32 0, .int .i32 0, .int .u8 0, .int .i64 0, .int .i32 0, .int .i32 0, .slice none 0 0, .int .i64 0, .int .i64 0, .int .i32 0, .int .i32 0], .int .i64 2]) (by simp [results, Try.results32, go_sem, *]) rfl ⟨none, 0, rfl, RdN.nil, ?_⟩
    have hb := HB1.out
    have hbs := hb.size
    go_grown
  · have q0 : w.heap.size < w1.heap.size := X1.out.lt
    have q1 : w.heap.size + 1 < w1.heap.size := Y1.out.lt
    subst hve
    obtain ⟨x0, x1, x2, x3, x4, x5, x6, x7, x8, x9, x10, x11, x12⟩ := X1.out
    dsimp only at x2 x3 x4 x5 x6 x7 x8 x9 x10 x11 x12
    obtain ⟨y0, y1, y2, y3, y4, y5, y6, y7, y8, y9, y10, y11, y12⟩ := Y1.out
    dsimp only at y2 y3 y4 y5 y6 y7 y8 y9 y10 y11 y12
    go_wp2
    refine bodyPost_ret (v := .tuple #[.agg #[.int .i32 0, .int .i32 0, .int .u8 0, .int .i64 0, .int .i32 0, .int .i32 0, .slice none 0 0, .int .i64 0, .int .i64 0, .int .i32 0, .int .i32 0], .int .i64 2]) (by simp [results, Try.results32, go_sem, *]) rfl ⟨none, 0, rfl, RdN.nil, ?_⟩
    have hb := HB1.out
    have hbs := hb.size
    go_grown
  · have q0 : w.heap.size < w1.heap.size := X1.out.lt
    have q1 : w.heap.size + 1 < w1.heap.size := Y1.out.lt
    subst hve
    subst hst
    have RDN := Lib.hid (rd_new8 w1 3 4 25)
    obtain ⟨x0, x1, x2, x3, x4, x5, x6, x7, x8, x9, x10, x11, x12⟩ := X1.out
    dsimp only at x2 x3 x4 x5 x6 x7 x8 x9 x10 x11 x12
    go_wp2_with fail
    refine (HREF.out _ 2 2 _ rfl _ RDN.out (by simp)).mono ?_
    rintro e w2 ⟨rfl, hb⟩
    have hb := ((Below.refl w1.heap.size w1).alloc (Nat.le_refl _) _).trans (hb.mono (by simp))
    have HB2 : Hid (Below w.heap.size w w2) := Lib.hid (HB1.out.trans ((hb).mono HB1.out.size))
    have X2 := Lib.hid (X1.out.next (hb))
    have Y2 := Lib.hid (Y1.out.next (hb))
    clear hb
    clear x0 x1 x2 x3 x4 x5 x6 x7 x8 x9 x10 x11 x12
    clear q0 q1
    have q0 : w.heap.size < w2.heap.size := X2.out.lt
    have q1 : w.heap.size + 1 < w2.heap.size := Y2.out.lt
    have er : refE 3 [3, 4] = 320 := rfl
    rw [er]
    clear er RDN
    obtain ⟨x0, x1, x2, x3, x4, x5, x6, x7, x8, x9, x10, x11, x12⟩ := X2.out
    dsimp only at x2 x3 x4 x5 x6 x7 x8 x9 x10 x11 x12
    obtain ⟨y0, y1, y2, y3, y4, y5, y6, y7, y8, y9, y10, y11, y12⟩ := Y2.out
    dsimp only at y2 y3 y4 y5 y6 y7 y8 y9 y10 y11 y12
    go_wp2
    refine bodyPost_ret (v := .tuple #[.agg #[.int .i32 0, .int .i32 0, .int .u8 0, .int .i64 0, .int .i32 0, .int .i32 0, .slice none 0 0, .int .i64 0, .int .i64 0, .int .i32 0, .int .i32 0], .int .i64 320]) (by simp [results, Try.results32, go_sem, *]) rfl ⟨none, 0, rfl, RdN.nil, ?_⟩
    have hb := HB2.out
    have hbs := hb.size
    go_grown
  · have q0 : w.heap.size < w1.heap.size := X1.out.lt
    have q1 : w.heap.size + 1 < w1.heap.size := Y1.out.lt
    subst hve
    subst hst
    have RDN := Lib.hid (rd_new8 w1 3 4 25)
    obtain ⟨x0, x1, x2, x3, x4, x5, x6, x7, x8, x9, x10, x11, x12⟩ := X1.out
    dsimp only at x2 x3 x4 x5 x6 x7 x8 x9 x10 x11 x12
    go_wp2_with fail
    refine (HREF.out _ 2 2 _ rfl _ RDN.out (by simp)).mono ?_
    rintro e w2 ⟨rfl, hb⟩
    have hb := ((Below.refl w1.heap.size w1).alloc (Nat.le_refl _) _).trans (hb.mono (by simp))
    have HB2 : Hid (Below w.heap.size w w2) := Lib.hid (HB1.out.trans ((hb).mono HB1.out.size))
    have X2 := Lib.hid (X1.out.next (hb))
    have Y2 := Lib.hid (Y1.out.next (hb))
    clear hb
    clear x0 x1 x2 x3 x4 x5 x6 x7 x8 x9 x10 x11 x12
    clear q0 q1
    have q0 : w.heap.size < w2.heap.size := X2.out.lt
    have q1 : w.heap.size + 1 < w2.heap.size := Y2.out.lt
    have er : refE 4 [3, 4] = 14 := rfl
    rw [er]
    clear er RDN
    obtain ⟨x0, x1, x2, x3, x4, x5, x6, x7, x8, x9, x10, x11, x12⟩ := X2.out
    dsimp only at x2 x3 x4 x5 x6 x7 x8 x9 x10 x11 x12
    obtain ⟨y0, y1, y2, y3, y4, y5, y6, y7, y8, y9, y10, y11, y12⟩ := Y2.out
    dsimp only at y2 y3 y4 y5 y6 y7 y8 y9 y10 y11 y12
    go_wp2
    refine bodyPost_ret (v := .tuple #[.agg #[.int .i32 0, .int .i32 0, .int .u8 0, .int .i64 0, .int .i32 0, .int .i32 0, .slice none 0 0, .int .i64 0, .int .i64 0, .int .i32 0, .int .i32 0], .int .i64 14]) (by simp [results, Try.results32, go_sem, *]) rfl ⟨none, 0, rfl, RdN.nil, ?_⟩
    have hb := HB2.out
    have hbs := hb.size
    go_grown
  · have q0 : w.heap.size < w1.heap.size := X1.out.lt
    have q1 : w.heap.size + 1 < w1.heap.size := Y1.out.lt
    subst hve
    subst hst
    have RDN := Lib.hid (rd_new8 w1 3 4 25)
    obtain ⟨x0, x1, x2, x3, x4, x5, x6, x7, x8, x9, x10, x11, x12⟩ := X1.out
    dsimp only at x2 x3 x4 x5 x6 x7 x8 x9 x10 x11 x12
    go_wp2_with fail
    refine (HREF.out _ 2 2 _ rfl _ RDN.out (by simp)).mono ?_
    rintro e w2 ⟨rfl, hb⟩
    have hb := ((Below.refl w1.heap.size w1).alloc (Nat.le_refl _) _).trans (hb.mono (by simp))
    have HB2 : Hid (Below w.heap.size w w2) := Lib.hid (HB1.out.trans ((hb).mono HB1.out.size))
    have X2 := Lib.hid (X1.out.next (hb))
    have Y2 := Lib.hid (Y1.out.next (hb))
    clear hb
    clear x0 x1 x2 x3 x4 x5 x6 x7 x8 x9 x10 x11 x12
    clear q0 q1
    have q0 : w.heap.size < w2.heap.size := X2.out.lt
    have q1 : w.heap.size + 1 < w2.heap.size := Y2.out.lt
    have er : refE 1 [3, 4] = 0 := rfl
    rw [er]
    clear er RDN
    obtain ⟨x0, x1, x2, x3, x4, x5, x6, x7, x8, x9, x10, x11, x12⟩ := X2.out
    dsimp only at x2 x3 x4 x5 x6 x7 x8 x9 x10 x11 x12
    go_wp2_with fail
    refine (HW.out _ HB2.out).mono ?_
    rintro e w3 ⟨A', c', rfl, hrn, hb⟩
    have HRN3 : Hid (RdN w3 (w.heap.size + 1 + 1) A' _) := Lib.hid (hrn.mono (by omega))
    clear hrn
    have HB3 : Hid (Below w.heap.size w w3) := Lib.hid (HB2.out.trans ((hb).mono HB2.out.size))
    have X3 := Lib.hid (X2.out.next (hb))
    have Y3 := Lib.hid (Y2.out.next (hb))
    clear hb
    clear x0 x1 x2 x3 x4 x5 x6 x7 x8 x9 x10 x11 x12
    clear q0 q1
    have q0 : w.heap.size < w3.heap.size := X3.out.lt
    have q1 : w.heap.size + 1 < w3.heap.size := Y3.out.lt
    obtain ⟨x0, x1, x2, x3, x4, x5, x6, x7, x8, x9, x10, x11, x12⟩ := X3.out
    dsimp only at x2 x3 x4 x5 x6 x7 x8 x9 x10 x11 x12
    obtain ⟨y0, y1, y2, y3, y4, y5, y6, y7, y8, y9, y10, y11, y12⟩ := Y3.out
    dsimp only at y2 y3 y4 y5 y6 y7 y8 y9 y10 y11 y12
    go_upto_region 10 with (fail)
    change Code.wp _ _ _ _ (setR w3 w.heap.size ⟨nd, nu, 1, ⟨aw, al, ag⟩, A', n, c', l, beat, ⟨pw, pl, pg⟩⟩)
    have HB4 : Hid (Below w.heap.size w (setR w3 w.heap.size ⟨nd, nu, 1, ⟨aw, al, ag⟩, A', n, c', l, beat, ⟨pw, pl, pg⟩⟩)) := Lib.hid (bel_setR HB3.out (Nat.le_refl _) _)
    have X4 : Hid (BxQ (setR w3 w.heap.size ⟨nd, nu, 1, ⟨aw, al, ag⟩, A', n, c', l, beat, ⟨pw, pl, pg⟩⟩) w.heap.size ⟨nd, nu, 1, ⟨aw, al, ag⟩, A', n, c', l, beat, ⟨pw, pl, pg⟩⟩) := Lib.hid (X3.out.setR ⟨nd, nu, 1, ⟨aw, al, ag⟩, A', n, c', l, beat, ⟨pw, pl, pg⟩⟩)
    have Y4 : Hid (BxQ (setR w3 w.heap.size ⟨nd, nu, 1, ⟨aw, al, ag⟩, A', n, c', l, beat, ⟨pw, pl, pg⟩⟩) (w.heap.size + 1) ⟨0, 0, 0, ⟨0, 0, 0⟩, none, 0, 0, [], 0, ⟨0, 0, 0⟩⟩) := Lib.hid (Y3.out.setO w.heap.size (by omega) ⟨nd, nu, 1, ⟨aw, al, ag⟩, A', n, c', l, beat, ⟨pw, pl, pg⟩⟩)
    have HRN4 : Hid (RdN (setR w3 w.heap.size ⟨nd, nu, 1, ⟨aw, al, ag⟩, A', n, c', l, beat, ⟨pw, pl, pg⟩⟩) (w.heap.size + 1 + 1) A' (sv l)) := Lib.hid (RdN.setR HRN3.out (by omega) ⟨nd, nu, 1, ⟨aw, al, ag⟩, A', n, c', l, beat, ⟨pw, pl, pg⟩⟩)
    clear x0 x1 x2 x3 x4 x5 x6 x7 x8 x9 x10 x11 x12
    clear y0 y1 y2 y3 y4 y5 y6 y7 y8 y9 y10 y11 y12
    clear q0 q1
    clear X3 Y3 HRN3
    generalize hsw : (setR w3 w.heap.size ⟨nd, nu, 1, ⟨aw, al, ag⟩, A', n, c', l, beat, ⟨pw, pl, pg⟩⟩) = w4 at *
    clear hsw
    have q0 : w.heap.size < w4.heap.size := X4.out.lt
    have q1 : w.heap.size + 1 < w4.heap.size := Y4.out.lt
    have far0 := far_store (p := w.heap.size) (q := w.heap.size + 1) (by omega)
    have far1 := far_store (p := w.heap.size + 1) (q := w.heap.size) (by omega)
    obtain ⟨x0, x1, x2, x3, x4, x5, x6, x7, x8, x9, x10, x11, x12⟩ := X4.out
    dsimp only at x2 x3 x4 x5 x6 x7 x8 x9 x10 x11 x12
    obtain ⟨y0, y1, y2, y3, y4, y5, y6, y7, y8, y9, y10, y11, y12⟩ := Y4.out
    dsimp only at y2 y3 y4 y5 y6 y7 y8 y9 y10 y11 y12
    go_wp2
    refine bodyPost_ret (v := .tuple #[.agg #[.int .i32 nd, .int .i32 nu, .int .u8 1, .int .i64 aw, .int .i32 al, .int .i32 ag, .slice A' n c', .int .i64 (max beat wall), .int .i64 pw, .int .i32 pl, .int .i32 pg], .int .i64 0]) (by simp [results, Try.results32, go_sem, *]) rfl ⟨A', c', rfl, ?_, ?_⟩
    · show RdN _ _ A' (sv l)
      refine RdN.mono (B := w.heap.size + 1 + 1) ?_ (by omega)
      have HRN := HRN4
      repeat (with_reducible (first | exact HRN.out | refine RdN.set ?_ (by first | (simp; done) | (simp; omega) | omega) _ | refine RdN.alloc ?_ _))
    · have hb := HB4.out
      have hbs := hb.size
      go_grown
  · have q0 : w.heap.size < w1.heap.size := X1.out.lt
    have q1 : w.heap.size + 1 < w1.heap.size := Y1.out.lt
    subst hve
    subst hst
    have RDN := Lib.hid (rd_new8 w1 3 4 25)
    obtain ⟨x0, x1, x2, x3, x4, x5, x6, x7, x8, x9, x10, x11, x12⟩ := X1.out
    dsimp only at x2 x3 x4 x5 x6 x7 x8 x9 x10 x11 x12
    go_wp2_with fail
    refine (HREF.out _ 2 2 _ rfl _ RDN.out (by simp)).mono ?_
    rintro e w2 ⟨rfl, hb⟩
    have hb := ((Below.refl w1.heap.size w1).alloc (Nat.le_refl _) _).trans (hb.mono (by simp))
    have HB2 : Hid (Below w.heap.size w w2) := Lib.hid (HB1.out.trans ((hb).mono HB1.out.size))
    have X2 := Lib.hid (X1.out.next (hb))
    have Y2 := Lib.hid (Y1.out.next (hb))
    clear hb
    clear x0 x1 x2 x3 x4 x5 x6 x7 x8 x9 x10 x11 x12
    clear q0 q1
    have q0 : w.heap.size < w2.heap.size := X2.out.lt
    have q1 : w.heap.size + 1 < w2.heap.size := Y2.out.lt
    have er : refE 2 [3, 4] = 0 := rfl
    rw [er]
    clear er RDN
    obtain ⟨x0, x1, x2, x3, x4, x5, x6, x7, x8, x9, x10, x11, x12⟩ := X2.out
    dsimp only at x2 x3 x4 x5 x6 x7 x8 x9 x10 x11 x12
    go_wp2_with fail
    refine (HW.out _ HB2.out).mono ?_
    rintro e w3 ⟨A', c', rfl, hrn, hb⟩
    have HRN3 : Hid (RdN w3 (w.heap.size + 1 + 1) A' _) := Lib.hid (hrn.mono (by omega))
    clear hrn
    have HB3 : Hid (Below w.heap.size w w3) := Lib.hid (HB2.out.trans ((hb).mono HB2.out.size))
    have X3 := Lib.hid (X2.out.next (hb))
    have Y3 := Lib.hid (Y2.out.next (hb))
    clear hb
    clear x0 x1 x2 x3 x4 x5 x6 x7 x8 x9 x10 x11 x12
    clear q0 q1
    have q0 : w.heap.size < w3.heap.size := X3.out.lt
    have q1 : w.heap.size + 1 < w3.heap.size := Y3.out.lt
    obtain ⟨x0, x1, x2, x3, x4, x5, x6, x7, x8, x9, x10, x11, x12⟩ := X3.out
    dsimp only at x2 x3 x4 x5 x6 x7 x8 x9 x10 x11 x12
    obtain ⟨y0, y1, y2, y3, y4, y5, y6, y7, y8, y9, y10, y11, y12⟩ := Y3.out
    dsimp only at y2 y3 y4 y5 y6 y7 y8 y9 y10 y11 y12
    go_upto_region 10 with (fail)
    change Code.wp _ _ _ _ (setR w3 w.heap.size ⟨nd, nu, 2, ⟨aw, al, ag⟩, A', n, c', l, beat, ⟨pw, pl, pg⟩⟩)
    have HB4 : Hid (Below w.heap.size w (setR w3 w.heap.size ⟨nd, nu, 2, ⟨aw, al, ag⟩, A', n, c', l, beat, ⟨pw, pl, pg⟩⟩)) := Lib.hid (bel_setR HB3.out (Nat.le_refl _) _)
    have X4 : Hid (BxQ (setR w3 w.heap.size ⟨nd, nu, 2, ⟨aw, al, ag⟩, A', n, c', l, beat, ⟨pw, pl, pg⟩⟩) w.heap.size ⟨nd, nu, 2, ⟨aw, al, ag⟩, A', n, c', l, beat, ⟨pw, pl, pg⟩⟩) := Lib.hid (X3.out.setR ⟨nd, nu, 2, ⟨aw, al, ag⟩, A', n, c', l, beat, ⟨pw, pl, pg⟩⟩)
    have Y4 : Hid (BxQ (setR w3 w.heap.size ⟨nd, nu, 2, ⟨aw, al, ag⟩, A', n, c', l, beat, ⟨pw, pl, pg⟩⟩) (w.heap.size + 1) ⟨0, 0, 0, ⟨0, 0, 0⟩, none, 0, 0, [], 0, ⟨0, 0, 0⟩⟩) := Lib.hid (Y3.out.setO w.heap.size (by omega) ⟨nd, nu, 2, ⟨aw, al, ag⟩, A', n, c', l, beat, ⟨pw, pl, pg⟩⟩)
    have HRN4 : Hid (RdN (setR w3 w.heap.size ⟨nd, nu, 2, ⟨aw, al, ag⟩, A', n, c', l, beat, ⟨pw, pl, pg⟩⟩) (w.heap.size + 1 + 1) A' (sv l)) := Lib.hid (RdN.setR HRN3.out (by omega) ⟨nd, nu, 2, ⟨aw, al, ag⟩, A', n, c', l, beat, ⟨pw, pl, pg⟩⟩)
    clear x0 x1 x2 x3 x4 x5 x6 x7 x8 x9 x10 x11 x12
    clear y0 y1 y2 y3 y4 y5 y6 y7 y8 y9 y10 y11 y12
    clear q0 q1
    clear X3 Y3 HRN3
    generalize hsw : (setR w3 w.heap.size ⟨nd, nu, 2, ⟨aw, al, ag⟩, A', n, c', l, beat, ⟨pw, pl, pg⟩⟩) = w4 at *
    clear hsw
    have q0 : w.heap.size < w4.heap.size := X4.out.lt
    have q1 : w.heap.size + 1 < w4.heap.size := Y4.out.lt
    have far0 := far_store (p := w.heap.size) (q := w.heap.size + 1) (by omega)
    have far1 := far_store (p := w.heap.size + 1) (q := w.heap.size) (by omega)
    obtain ⟨x0, x1, x2, x3, x4, x5, x6, x7, x8, x9, x10, x11, x12⟩ := X4.out
    dsimp only at x2 x3 x4 x5 x6 x7 x8 x9 x10 x11 x12
    obtain ⟨y0, y1, y2, y3, y4, y5, y6, y7, y8, y9, y10, y11, y12⟩ := Y4.out
    dsimp only at y2 y3 y4 y5 y6 y7 y8 y9 y10 y11 y12
    go_wp2
    refine bodyPost_ret (v := .tuple #[.agg #[.int .i32 nd, .int .i32 nu, .int .u8 2, .int .i64 aw, .int .i32 al, .int .i32 ag, .slice A' n c', .int .i64 (max beat wall), .int .i64 pw, .int .i32 pl, .int .i32 pg], .int .i64 0]) (by simp [results, Try.results32, go_sem, *]) rfl ⟨A', c', rfl, ?_, ?_⟩
    · show RdN _ _ A' (sv l)
      refine RdN.mono (B := w.heap.size + 1 + 1) ?_ (by omega)
      have HRN := HRN4
      repeat (with_reducible (first | exact HRN.out | refine RdN.set ?_ (by first | (simp; done) | (simp; omega) | omega) _ | refine RdN.alloc ?_ _))
    · have hb := HB4.out
      have hbs := hb.size
      go_grown
end Go.Proofs.Ythigmjcepbgljaa
