/- Walks: a record aborted, killed, settled, pushed, kept alive, by the document. -/
import Derived.Test.YthigmjcepbgljaaVg0
namespace Go.Proofs.Ythigmjcepbgljaa
open Go.RowKit Go.St
set_option linter.unusedVariables false
set_option linter.unusedSimpArgs false
set_option maxRecDepth 100000
set_option maxHeartbeats 3200000 in
theorem rabort_any (r : Rec) (hl : fit r) (B : Nat) (w : World) (hr : Rd w B r.A (sv r.l)) (hB : B ≤ w.heap.size) (hn : r.n * 16 ≤ 140737488355328) :
    Calls Try.prog 45 #[r.v] w (OutR (abortO r) (abortE r) w) := by
  have hc := abort_cases r
  have nb := chkR_st' (r := r)
  have h1 := fun W (h : Below w.heap.size w W) => rreccheck_any r hl B W (hr.below (h.mono hB)) (Nat.le_trans hB h.size)
  have ho := fun W (h : Below w.heap.size w W) => with_any r 4 ⟨0, 0, 0⟩ none 0 0 [] rfl (by omega) 0 W Rd.nil (Nat.zero_le _)
  generalize abortE r = E at *
  generalize abortO r = O at *
  generalize hve : chkR r = ve at *
  have HST := Lib.hid nb
  clear nb hve hl hr hn
  obtain ⟨nd, nu, st, ⟨aw, al, ag⟩, A, n, c, l, beat, ⟨pw, pl, pg⟩⟩ := r

  have HOV : Hid (∀ W, Below w.heap.size w W → Calls _ _ _ W (fun e w' => ∃ A' c', e = .returned (.agg #[.int .i32 nd, .int .i32 nu, .int .u8 4, .int .i64 0, .int .i32 0, .int .i32 0, .slice A' 0 c', .int .i64 beat, .int .i64 pw, .int .i32 pl, .int .i32 pg]) ∧ RdN w' W.heap.size A' (sv []) ∧ Below W.heap.size W w')) := Lib.hid ho
  clear ho
  simp only at HST hc h1 ⊢
  have HC := Lib.hid hc; clear hc
  have H1 := Lib.hid h1; clear h1
  unfold Rec.v at *

  simp only at H1 ⊢
  go_enter Try.func45, Try.ntmps45
  go_wp2_with fail
  refine (H1.out _ (by go_grown)).mono ?_
  rintro e w1 ⟨rfl, hb⟩
  have HB1 : Hid (Below w.heap.size w w1) := Below.go (by go_grown) hb (by go_size)
  have X1 := Lib.hid (((BxQ.new w ⟨nd, nu, st, ⟨aw, al, ag⟩, A, n, c, l, beat, ⟨pw, pl, pg⟩⟩ 30).alloc _).next hb)
  have Y1 := Lib.hid ((BxQ.new (w.alloc (.cells #[.int .i32 nd, .int .i32 nu, .int .u8 st, .int .i64 aw, .int .i32 al, .int .i32 ag, .slice A n c, .int .i64 beat, .int .i64 pw, .int .i32 pl, .int .i32 pg] 30)) ⟨0, 0, 0, ⟨0, 0, 0⟩, none, 0, 0, [], 0, ⟨0, 0, 0⟩⟩ 30).next hb)
  rw [World.size_alloc] at Y1
  clear hb H1
  rcases HC.out with ⟨hve, rfl, rfl⟩ | ⟨hve, hst, rfl, rfl⟩ | ⟨hve, hst, rfl, rfl⟩ | ⟨hve, hst, rfl, rfl⟩ | ⟨hve, hst, rfl, rfl⟩
  all_goals clear HC
  · have q0 : w.heap.size < w1.heap.size := X1.out.lt
    have q1 : w.heap.size + 1 < w1.heap.size := Y1.out.lt
    have hne : (E == 0) = false := by simpa using hve
    have hne2 : (E != 0) = true := by rw [bne, hne]; rfl
    obtain ⟨x0, x1, x2, x3, x4, x5, x6, x7, x8, x9, x10, x11, x12⟩ := X1.out
    dsimp only at x2 x3 x4 x5 x6 x7 x8 x9 x10 x11 x12
    obtain ⟨y0, y1, y2, y3, y4, y5, y6, y7, y8, y9, y10, y11, y12⟩ := Y1.out
    dsimp only at y2 y3 y4 y5 y6 y7 y8 y9 y10 y11 y12
    go_wp2
    refine bodyPost_ret (v := .tuple #[.agg #[.int .i32 0, .int .i32 0, .int .u8 0, .int .i64 0, .int .i32 0, .int .i32 0, .slice none 0 0, .int .i64 0, .int .i64 0, .int .i32 0, .int .i32 0], .int .i64 E]) (by simp [results, Try.results45, go_sem, *]) rfl ⟨none, 0, rfl, RdN.nil, ?_⟩
    have hb := HB1.out
    have hbs := hb.size
    go_grown
  · have q0 : w.heap.size < w1.heap.size := X1.out.lt
    have q1 : w.heap.size + 1 < w1.heap.size := Y1.out.lt
    subst hve
    subst hst
    obtain ⟨x0, x1, x2, x3, x4, x5, x6, x7, x8, x9, x10, x11, x12⟩ := X1.out
    dsimp only at x2 x3 x4 x5 x6 x7 x8 x9 x10 x11 x12
    obtain ⟨y0, y1, y2, y3, y4, y5, y6, y7, y8, y9, y10, y11, y12⟩ := Y1.out
    dsimp only at y2 y3 y4 y5 y6 y7 y8 y9 y10 y11 y12
    go_wp2
    refine bodyPost_ret (v := .tuple #[.agg #[.int .i32 0, .int .i32 0, .int .u8 0, .int .i64 0, .int .i32 0, .int .i32 0, .slice none 0 0, .int .i64 0, .int .i64 0, .int .i32 0, .int .i32 0], .int .i64 320]) (by simp [results, Try.results45, go_sem, *]) rfl ⟨none, 0, rfl, RdN.nil, ?_⟩
    have hb := HB1.out
    have hbs := hb.size
    go_grown
  · have q0 : w.heap.size < w1.heap.size := X1.out.lt
    have q1 : w.heap.size + 1 < w1.heap.size := Y1.out.lt
    subst hve
    subst hst
    obtain ⟨x0, x1, x2, x3, x4, x5, x6, x7, x8, x9, x10, x11, x12⟩ := X1.out
    dsimp only at x2 x3 x4 x5 x6 x7 x8 x9 x10 x11 x12
    go_wp2_with fail
    refine (HOV.out _ HB1.out).mono ?_
    rintro e w2 ⟨A', c', rfl, hrn, hb⟩
    have HRN2 : Hid (RdN w2 (w.heap.size + 1 + 1) A' _) := Lib.hid (hrn.mono (by omega))
    clear hrn
    have HB2 : Hid (Below w.heap.size w w2) := Lib.hid (HB1.out.trans ((hb).mono HB1.out.size))
    have X2 := Lib.hid (X1.out.next (hb))
    have Y2 := Lib.hid (Y1.out.next (hb))
    clear hb
    clear x0 x1 x2 x3 x4 x5 x6 x7 x8 x9 x10 x11 x12
    clear q0 q1
    have q0 : w.heap.size < w2.heap.size := X2.out.lt
    have q1 : w.heap.size + 1 < w2.heap.size := Y2.out.lt
    obtain ⟨x0, x1, x2, x3, x4, x5, x6, x7, x8, x9, x10, x11, x12⟩ := X2.out
    dsimp only at x2 x3 x4 x5 x6 x7 x8 x9 x10 x11 x12
    obtain ⟨y0, y1, y2, y3, y4, y5, y6, y7, y8, y9, y10, y11, y12⟩ := Y2.out
    dsimp only at y2 y3 y4 y5 y6 y7 y8 y9 y10 y11 y12
    go_wp2
    refine bodyPost_ret (v := .tuple #[.agg #[.int .i32 nd, .int .i32 nu, .int .u8 4, .int .i64 0, .int .i32 0, .int .i32 0, .slice A' 0 c', .int .i64 beat, .int .i64 pw, .int .i32 pl, .int .i32 pg], .int .i64 0]) (by simp [results, Try.results45, go_sem, *]) rfl ⟨A', c', rfl, ?_, ?_⟩
    · show RdN _ _ A' (sv ([] : List ByteArray))
      refine RdN.mono (B := w.heap.size + 1 + 1) ?_ (by omega)
      have HRN := HRN2
      repeat (with_reducible (first | exact HRN.out | refine RdN.set ?_ (by first | (simp; done) | (simp; omega) | omega) _ | refine RdN.alloc ?_ _))
    · have hb := HB2.out
      have hbs := hb.size
      go_grown
  · have q0 : w.heap.size < w1.heap.size := X1.out.lt
    have q1 : w.heap.size + 1 < w1.heap.size := Y1.out.lt
    subst hve
    subst hst
    obtain ⟨x0, x1, x2, x3, x4, x5, x6, x7, x8, x9, x10, x11, x12⟩ := X1.out
    dsimp only at x2 x3 x4 x5 x6 x7 x8 x9 x10 x11 x12
    go_wp2_with fail
    refine (HOV.out _ HB1.out).mono ?_
    rintro e w2 ⟨A', c', rfl, hrn, hb⟩
    have HRN2 : Hid (RdN w2 (w.heap.size + 1 + 1) A' _) := Lib.hid (hrn.mono (by omega))
    clear hrn
    have HB2 : Hid (Below w.heap.size w w2) := Lib.hid (HB1.out.trans ((hb).mono HB1.out.size))
    have X2 := Lib.hid (X1.out.next (hb))
    have Y2 := Lib.hid (Y1.out.next (hb))
    clear hb
    clear x0 x1 x2 x3 x4 x5 x6 x7 x8 x9 x10 x11 x12
    clear q0 q1
    have q0 : w.heap.size < w2.heap.size := X2.out.lt
    have q1 : w.heap.size + 1 < w2.heap.size := Y2.out.lt
    obtain ⟨x0, x1, x2, x3, x4, x5, x6, x7, x8, x9, x10, x11, x12⟩ := X2.out
    dsimp only at x2 x3 x4 x5 x6 x7 x8 x9 x10 x11 x12
    obtain ⟨y0, y1, y2, y3, y4, y5, y6, y7, y8, y9, y10, y11, y12⟩ := Y2.out
    dsimp only at y2 y3 y4 y5 y6 y7 y8 y9 y10 y11 y12
    go_wp2
    refine bodyPost_ret (v := .tuple #[.agg #[.int .i32 nd, .int .i32 nu, .int .u8 4, .int .i64 0, .int .i32 0, .int .i32 0, .slice A' 0 c', .int .i64 beat, .int .i64 pw, .int .i32 pl, .int .i32 pg], .int .i64 0]) (by simp [results, Try.results45, go_sem, *]) rfl ⟨A', c', rfl, ?_, ?_⟩
    · show RdN _ _ A' (sv ([] : List ByteArray))
      refine RdN.mono (B := w.heap.size + 1 + 1) ?_ (by omega)
      have HRN := HRN2
      repeat (with_reducible (first | exact HRN.out | refine RdN.set ?_ (by first | (simp; done) | (simp; omega) | omega) _ | refine RdN.alloc ?_ _))
    · have hb := HB2.out
      have hbs := hb.size
      go_grown
  · have q0 : w.heap.size < w1.heap.size := X1.out.lt
    have q1 : w.heap.size + 1 < w1.heap.size := Y1.out.lt
    subst hve
    subst hst
    obtain ⟨x0, x1, x2, x3, x4, x5, x6, x7, x8, x9, x10, x11, x12⟩ := X1.out
    dsimp only at x2 x3 x4 x5 x6 x7 x8 x9 x10 x11 x12
    go_wp2_with fail
    refine (HOV.out _ HB1.out).mono ?_
    rintro e w2 ⟨A', c', rfl, hrn, hb⟩
    have HRN2 : Hid (RdN w2 (w.heap.size + 1 + 1) A' _) := Lib.hid (hrn.mono (by omega))
    clear hrn
    have HB2 : Hid (Below w.heap.size w w2) := Lib.hid (HB1.out.trans ((hb).mono HB1.out.size))
    have X2 := Lib.hid (X1.out.next (hb))
    have Y2 := Lib.hid (Y1.out.next (hb))
    clear hb
    clear x0 x1 x2 x3 x4 x5 x6 x7 x8 x9 x10 x11 x12
    clear q0 q1
    have q0 : w.heap.size < w2.heap.size := X2.out.lt
    have q1 : w.heap.size + 1 < w2.heap.size := Y2.out.lt
    obtain ⟨x0, x1, x2, x3, x4, x5, x6, x7, x8, x9, x10, x11, x12⟩ := X2.out
    dsimp only at x2 x3 x4 x5 x6 x7 x8 x9 x10 x11 x12
    obtain ⟨y0, y1, y2, y3, y4, y5, y6, y7, y8, y9, y10, y11, y12⟩ := Y2.out
    dsimp only at y2 y3 y4 y5 y6 y7 y8 y9 y10 y11 y12
    go_wp2
    refine bodyPost_ret (v := .tuple #[.agg #[.int .i32 nd, .int .i32 nu, .int .u8 4, .int .i64 0, .int .i32 0, .int .i32 0, .slice A' 0 c', .int .i64 beat, .int .i64 pw, .int .i32 pl, .int .i32 pg], .int .i64 0]) (by simp [results, Try.results45, go_sem, *]) rfl ⟨A', c', rfl, ?_, ?_⟩
    · show RdN _ _ A' (sv ([] : List ByteArray))
      refine RdN.mono (B := w.heap.size + 1 + 1) ?_ (by omega)
      have HRN := HRN2
      repeat (with_reducible (first | exact HRN.out | refine RdN.set ?_ (by first | (simp; done) | (simp; omega) | omega) _ | refine RdN.alloc ?_ _))
    · have hb := HB2.out
      have hbs := hb.size
      go_grown
set_option maxHeartbeats 3200000 in
theorem rsettle_any (r : Rec) (a : Stp) (whole : Bool) (hl : fit r) (B : Nat) (w : World) (hr : Rd w B r.A (sv r.l)) (hB : B ≤ w.heap.size) (hn : r.n * 16 ≤ 140737488355328) :
    Calls Try.prog 48 #[r.v, stv a, .bool whole] w (OutR (settleO r a whole) (settleE r a) w) := by
  have hc := settle_cases r a whole
  have nb := chkR_st' (r := r)
  have h1 := fun W (h : Below w.heap.size w W) => rreccheck_any r hl B W (hr.below (h.mono hB)) (Nat.le_trans hB h.size)
  have HOV1 := Lib.hid (fun W => rover_any r W)
  have ho := fun W (h : Below w.heap.size w W) => with_any r 4 ⟨0, 0, 0⟩ none 0 0 [] rfl (by omega) 0 W Rd.nil (Nat.zero_le _)
  have hw := fun W (h : Below w.heap.size w W) => with_any r 3 r.at_ r.A r.n r.c r.l hl hn B W (hr.below (h.mono hB)) (Nat.le_trans hB h.size)
  generalize settleE r a = E at *
  generalize settleO r a whole = O at *
  generalize hve : chkR r = ve at *
  have HST := Lib.hid nb
  clear nb hve hl hr hn
  obtain ⟨nd, nu, st, ⟨aw, al, ag⟩, A, n, c, l, beat, ⟨pw, pl, pg⟩⟩ := r
  obtain ⟨mw, ml, mg⟩ := a
  have HOV : Hid (∀ W, Below w.heap.size w W → Calls _ _ _ W (fun e w' => ∃ A' c', e = .returned (.agg #[.int .i32 nd, .int .i32 nu, .int .u8 4, .int .i64 0, .int .i32 0, .int .i32 0, .slice A' 0 c', .int .i64 beat, .int .i64 pw, .int .i32 pl, .int .i32 pg]) ∧ RdN w' W.heap.size A' (sv []) ∧ Below W.heap.size W w')) := Lib.hid ho
  have HW : Hid (∀ W, Below w.heap.size w W → Calls _ _ _ W (fun e w' => ∃ A' c', e = .returned (.agg #[.int .i32 nd, .int .i32 nu, .int .u8 3, .int .i64 aw, .int .i32 al, .int .i32 ag, .slice A' n c', .int .i64 beat, .int .i64 pw, .int .i32 pl, .int .i32 pg]) ∧ RdN w' W.heap.size A' (sv l) ∧ Below W.heap.size W w')) := Lib.hid hw
  clear ho hw
  simp only at HST hc h1 ⊢
  have HC := Lib.hid hc; clear hc
  have H1 := Lib.hid h1; clear h1
  unfold Rec.v at *
  unfold stv at *
  simp only at H1 ⊢
  go_enter Try.func48, Try.ntmps48
  go_wp2_with fail
  refine (H1.out _ (by go_grown)).mono ?_
  rintro e w1 ⟨rfl, hb⟩
  have HB1 : Hid (Below w.heap.size w w1) := Below.go (by go_grown) hb (by go_size)
  have X1 := Lib.hid ((((BxQ.new w ⟨nd, nu, st, ⟨aw, al, ag⟩, A, n, c, l, beat, ⟨pw, pl, pg⟩⟩ 30).alloc _).alloc _).next hb)
  have S1 := Lib.hid (((BxS.new (w.alloc (.cells #[.int .i32 nd, .int .i32 nu, .int .u8 st, .int .i64 aw, .int .i32 al, .int .i32 ag, .slice A n c, .int .i64 beat, .int .i64 pw, .int .i32 pl, .int .i32 pg] 30)) ⟨mw, ml, mg⟩ 27).alloc _).next hb)
  have Y1 := Lib.hid ((BxQ.new ((w.alloc (.cells #[.int .i32 nd, .int .i32 nu, .int .u8 st, .int .i64 aw, .int .i32 al, .int .i32 ag, .slice A n c, .int .i64 beat, .int .i64 pw, .int .i32 pl, .int .i32 pg] 30)).alloc (.cells #[.int .i64 mw, .int .i32 ml, .int .i32 mg] 27)) ⟨0, 0, 0, ⟨0, 0, 0⟩, none, 0, 0, [], 0, ⟨0, 0, 0⟩⟩ 30).next hb)
  rw [World.size_alloc] at S1
  rw [World.size_alloc, World.size_alloc] at Y1
  clear hb H1
  rcases HC.out with ⟨hve, rfl, rfl⟩ | ⟨hve, hst, rfl, rfl⟩ | ⟨hve, hst, rfl, rfl⟩ | ⟨hve, hst, rfl, rfl⟩ | ⟨hve, hst, hat, rfl, rfl⟩ | ⟨hve, hst, hat, hwh, rfl, rfl⟩ | ⟨hve, hst, hat, hwh, rfl, rfl⟩
  all_goals clear HC
  · have q0 : w.heap.size < w1.heap.size := X1.out.lt
    have q1 : w.heap.size + 1 < w1.heap.size := S1.out.lt
    have q2 : w.heap.size + 1 + 1 < w1.heap.size := Y1.out.lt
    have hne : (E == 0) = false := by simpa using hve
    have hne2 : (E != 0) = true := by rw [bne, hne]; rfl
    obtain ⟨x0, x1, x2, x3, x4, x5, x6, x7, x8, x9, x10, x11, x12⟩ := X1.out
    dsimp only at x2 x3 x4 x5 x6 x7 x8 x9 x10 x11 x12
    obtain ⟨s0, s1, s2, s3, s4⟩ := S1.out
    dsimp only at s2 s3 s4
    obtain ⟨y0, y1, y2, y3, y4, y5, y6, y7, y8, y9, y10, y11, y12⟩ := Y1.out
    dsimp only at y2 y3 y4 y5 y6 y7 y8 y9 y10 y11 y12
    go_wp2
    refine bodyPost_ret (v := .tuple #[.agg #[.int .i32 0, .int .i32 0, .int .u8 0, .int .i64 0, .int .i32 0, .int .i32 0, .slice none 0 0, .int .i64 0, .int .i64 0, .int .i32 0, .int .i32 0], .int .i64 E]) (by simp [results, Try.results48, go_sem, *]) rfl ⟨none, 0, rfl, RdN.nil, ?_⟩
    have hb := HB1.out
    have hbs := hb.size
    go_grown
  · have q0 : w.heap.size < w1.heap.size := X1.out.lt
    have q1 : w.heap.size + 1 < w1.heap.size := S1.out.lt
    have q2 : w.heap.size + 1 + 1 < w1.heap.size := Y1.out.lt
    subst hve
    subst hst
    obtain ⟨x0, x1, x2, x3, x4, x5, x6, x7, x8, x9, x10, x11, x12⟩ := X1.out
    dsimp only at x2 x3 x4 x5 x6 x7 x8 x9 x10 x11 x12
    obtain ⟨s0, s1, s2, s3, s4⟩ := S1.out
    dsimp only at s2 s3 s4
    go_wp2_with fail
    refine (HOV1.out _).mono ?_
    rintro e w2 ⟨rfl, hb⟩
    have HB2 : Hid (Below w.heap.size w w2) := Lib.hid (HB1.out.trans ((hb).mono HB1.out.size))
    have X2 := Lib.hid (X1.out.next (hb))
    have S2 := Lib.hid (S1.out.next (hb))
    have Y2 := Lib.hid (Y1.out.next (hb))
    clear hb
    clear x0 x1 x2 x3 x4 x5 x6 x7 x8 x9 x10 x11 x12
    clear s0 s1 s2 s3 s4
    clear q0 q1 q2
    have q0 : w.heap.size < w2.heap.size := X2.out.lt
    have q1 : w.heap.size + 1 < w2.heap.size := S2.out.lt
    have q2 : w.heap.size + 1 + 1 < w2.heap.size := Y2.out.lt
    have er : overE 3 = 320 := rfl
    rw [er]
    clear er
    obtain ⟨x0, x1, x2, x3, x4, x5, x6, x7, x8, x9, x10, x11, x12⟩ := X2.out
    dsimp only at x2 x3 x4 x5 x6 x7 x8 x9 x10 x11 x12
    obtain ⟨s0, s1, s2, s3, s4⟩ := S2.out
    dsimp only at s2 s3 s4
    obtain ⟨y0, y1, y2, y3, y4, y5, y6, y7, y8, y9, y10, y11, y12⟩ := Y2.out
    dsimp only at y2 y3 y4 y5 y6 y7 y8 y9 y10 y11 y12
    go_wp2
    refine bodyPost_ret (v := .tuple #[.agg #[.int .i32 0, .int .i32 0, .int .u8 0, .int .i64 0, .int .i32 0, .int .i32 0, .slice none 0 0, .int .i64 0, .int .i64 0, .int .i32 0, .int .i32 0], .int .i64 320]) (by simp [results, Try.results48, go_sem, *]) rfl ⟨none, 0, rfl, RdN.nil, ?_⟩
    have hb := HB2.out
    have hbs := hb.size
    go_grown
  · have q0 : w.heap.size < w1.heap.size := X1.out.lt
    have q1 : w.heap.size + 1 < w1.heap.size := S1.out.lt
    have q2 : w.heap.size + 1 + 1 < w1.heap.size := Y1.out.lt
    subst hve
    subst hst
    obtain ⟨x0, x1, x2, x3, x4, x5, x6, x7, x8, x9, x10, x11, x12⟩ := X1.out
    dsimp only at x2 x3 x4 x5 x6 x7 x8 x9 x10 x11 x12
    obtain ⟨s0, s1, s2, s3, s4⟩ := S1.out
    dsimp only at s2 s3 s4
    go_wp2_with fail
    refine (HOV1.out _).mono ?_
    rintro e w2 ⟨rfl, hb⟩
    have HB2 : Hid (Below w.heap.size w w2) := Lib.hid (HB1.out.trans ((hb).mono HB1.out.size))
    have X2 := Lib.hid (X1.out.next (hb))
    have S2 := Lib.hid (S1.out.next (hb))
    have Y2 := Lib.hid (Y1.out.next (hb))
    clear hb
    clear x0 x1 x2 x3 x4 x5 x6 x7 x8 x9 x10 x11 x12
    clear s0 s1 s2 s3 s4
    clear q0 q1 q2
    have q0 : w.heap.size < w2.heap.size := X2.out.lt
    have q1 : w.heap.size + 1 < w2.heap.size := S2.out.lt
    have q2 : w.heap.size + 1 + 1 < w2.heap.size := Y2.out.lt
    have er : overE 4 = 14 := rfl
    rw [er]
    clear er
    obtain ⟨x0, x1, x2, x3, x4, x5, x6, x7, x8, x9, x10, x11, x12⟩ := X2.out
    dsimp only at x2 x3 x4 x5 x6 x7 x8 x9 x10 x11 x12
    obtain ⟨s0, s1, s2, s3, s4⟩ := S2.out
    dsimp only at s2 s3 s4
    obtain ⟨y0, y1, y2, y3, y4, y5, y6, y7, y8, y9, y10, y11, y12⟩ := Y2.out
    dsimp only at y2 y3 y4 y5 y6 y7 y8 y9 y10 y11 y12
    go_wp2
    refine bodyPost_ret (v := .tuple #[.agg #[.int .i32 0, .int .i32 0, .int .u8 0, .int .i64 0, .int .i32 0, .int .i32 0, .slice none 0 0, .int .i64 0, .int .i64 0, .int .i32 0, .int .i32 0], .int .i64 14]) (by simp [results, Try.results48, go_sem, *]) rfl ⟨none, 0, rfl, RdN.nil, ?_⟩
    have hb := HB2.out
    have hbs := hb.size
    go_grown
  · have q0 : w.heap.size < w1.heap.size := X1.out.lt
    have q1 : w.heap.size + 1 < w1.heap.size := S1.out.lt
    have q2 : w.heap.size + 1 + 1 < w1.heap.size := Y1.out.lt
    subst hve
    subst hst
    obtain ⟨x0, x1, x2, x3, x4, x5, x6, x7, x8, x9, x10, x11, x12⟩ := X1.out
    dsimp only at x2 x3 x4 x5 x6 x7 x8 x9 x10 x11 x12
    obtain ⟨s0, s1, s2, s3, s4⟩ := S1.out
    dsimp only at s2 s3 s4
    go_wp2_with fail
    refine (HOV1.out _).mono ?_
    rintro e w2 ⟨rfl, hb⟩
    have HB2 : Hid (Below w.heap.size w w2) := Lib.hid (HB1.out.trans ((hb).mono HB1.out.size))
    have X2 := Lib.hid (X1.out.next (hb))
    have S2 := Lib.hid (S1.out.next (hb))
    have Y2 := Lib.hid (Y1.out.next (hb))
    clear hb
    clear x0 x1 x2 x3 x4 x5 x6 x7 x8 x9 x10 x11 x12
    clear s0 s1 s2 s3 s4
    clear q0 q1 q2
    have q0 : w.heap.size < w2.heap.size := X2.out.lt
    have q1 : w.heap.size + 1 < w2.heap.size := S2.out.lt
    have q2 : w.heap.size + 1 + 1 < w2.heap.size := Y2.out.lt
    have er : overE 1 = 0 := rfl
    rw [er]
    clear er
    obtain ⟨x0, x1, x2, x3, x4, x5, x6, x7, x8, x9, x10, x11, x12⟩ := X2.out
    dsimp only at x2 x3 x4 x5 x6 x7 x8 x9 x10 x11 x12
    obtain ⟨s0, s1, s2, s3, s4⟩ := S2.out
    dsimp only at s2 s3 s4
    obtain ⟨y0, y1, y2, y3, y4, y5, y6, y7, y8, y9, y10, y11, y12⟩ := Y2.out
    dsimp only at y2 y3 y4 y5 y6 y7 y8 y9 y10 y11 y12
    go_wp2
    refine bodyPost_ret (v := .tuple #[.agg #[.int .i32 0, .int .i32 0, .int .u8 0, .int .i64 0, .int .i32 0, .int .i32 0, .slice none 0 0, .int .i64 0, .int .i64 0, .int .i32 0, .int .i32 0], .int .i64 10]) (by simp [results, Try.results48, go_sem, *]) rfl ⟨none, 0, rfl, RdN.nil, ?_⟩
    have hb := HB2.out
    have hbs := hb.size
    go_grown
  · have q0 : w.heap.size < w1.heap.size := X1.out.lt
    have q1 : w.heap.size + 1 < w1.heap.size := S1.out.lt
    have q2 : w.heap.size + 1 + 1 < w1.heap.size := Y1.out.lt
    subst hve
    subst hst
    obtain ⟨x0, x1, x2, x3, x4, x5, x6, x7, x8, x9, x10, x11, x12⟩ := X1.out
    dsimp only at x2 x3 x4 x5 x6 x7 x8 x9 x10 x11 x12
    obtain ⟨s0, s1, s2, s3, s4⟩ := S1.out
    dsimp only at s2 s3 s4
    go_wp2_with fail
    refine (HOV1.out _).mono ?_
    rintro e w2 ⟨rfl, hb⟩
    have HB2 : Hid (Below w.heap.size w w2) := Lib.hid (HB1.out.trans ((hb).mono HB1.out.size))
    have X2 := Lib.hid (X1.out.next (hb))
    have S2 := Lib.hid (S1.out.next (hb))
    have Y2 := Lib.hid (Y1.out.next (hb))
    clear hb
    clear x0 x1 x2 x3 x4 x5 x6 x7 x8 x9 x10 x11 x12
    clear s0 s1 s2 s3 s4
    clear q0 q1 q2
    have q0 : w.heap.size < w2.heap.size := X2.out.lt
    have q1 : w.heap.size + 1 < w2.heap.size := S2.out.lt
    have q2 : w.heap.size + 1 + 1 < w2.heap.size := Y2.out.lt
    have er : overE 2 = 0 := rfl
    rw [er]
    clear er
    obtain ⟨x0, x1, x2, x3, x4, x5, x6, x7, x8, x9, x10, x11, x12⟩ := X2.out
    dsimp only at x2 x3 x4 x5 x6 x7 x8 x9 x10 x11 x12
    obtain ⟨s0, s1, s2, s3, s4⟩ := S2.out
    dsimp only at s2 s3 s4
    obtain ⟨y0, y1, y2, y3, y4, y5, y6, y7, y8, y9, y10, y11, y12⟩ := Y2.out
    dsimp only at y2 y3 y4 y5 y6 y7 y8 y9 y10 y11 y12
    have hat : ¬ (aw = mw ∧ al = ml ∧ ag = mg) := fun h => hat (by obtain ⟨rfl, rfl, rfl⟩ := h; rfl)
    by_cases e1 : aw = mw
    · by_cases e2 : al = ml
      · have e3 : ag ≠ mg := fun h => hat ⟨e1, e2, h⟩
        subst e1 e2
        have zb : (ag == mg) = false := by simpa using e3
        clear hat e3
        go_wp2
        refine bodyPost_ret (v := .tuple #[.agg #[.int .i32 0, .int .i32 0, .int .u8 0, .int .i64 0, .int .i32 0, .int .i32 0, .slice none 0 0, .int .i64 0, .int .i64 0, .int .i32 0, .int .i32 0], .int .i64 10]) (by simp [results, Try.results48, go_sem, *]) rfl ⟨none, 0, rfl, RdN.nil, ?_⟩
        have hb := HB2.out
        have hbs := hb.size
        go_grown
      · subst e1
        have zb : (al == ml) = false := by simpa using e2
        clear hat e2
        go_wp2
        refine bodyPost_ret (v := .tuple #[.agg #[.int .i32 0, .int .i32 0, .int .u8 0, .int .i64 0, .int .i32 0, .int .i32 0, .slice none 0 0, .int .i64 0, .int .i64 0, .int .i32 0, .int .i32 0], .int .i64 10]) (by simp [results, Try.results48, go_sem, *]) rfl ⟨none, 0, rfl, RdN.nil, ?_⟩
        have hb := HB2.out
        have hbs := hb.size
        go_grown
    · have zb : (aw == mw) = false := by simpa using e1
      clear hat e1
      go_wp2
      refine bodyPost_ret (v := .tuple #[.agg #[.int .i32 0, .int .i32 0, .int .u8 0, .int .i64 0, .int .i32 0, .int .i32 0, .slice none 0 0, .int .i64 0, .int .i64 0, .int .i32 0, .int .i32 0], .int .i64 10]) (by simp [results, Try.results48, go_sem, *]) rfl ⟨none, 0, rfl, RdN.nil, ?_⟩
      have hb := HB2.out
      have hbs := hb.size
      go_grown
  · have q0 : w.heap.size < w1.heap.size := X1.out.lt
    have q1 : w.heap.size + 1 < w1.heap.size := S1.out.lt
    have q2 : w.heap.size + 1 + 1 < w1.heap.size := Y1.out.lt
    subst hve
    subst hst
    subst hwh
    obtain ⟨rfl, rfl, rfl⟩ : aw = mw ∧ al = ml ∧ ag = mg := by simpa using hat
    clear hat
    obtain ⟨x0, x1, x2, x3, x4, x5, x6, x7, x8, x9, x10, x11, x12⟩ := X1.out
    dsimp only at x2 x3 x4 x5 x6 x7 x8 x9 x10 x11 x12
    obtain ⟨s0, s1, s2, s3, s4⟩ := S1.out
    dsimp only at s2 s3 s4
    go_wp2_with fail
    refine (HOV1.out _).mono ?_
    rintro e w2 ⟨rfl, hb⟩
    have HB2 : Hid (Below w.heap.size w w2) := Lib.hid (HB1.out.trans ((hb).mono HB1.out.size))
    have X2 := Lib.hid (X1.out.next (hb))
    have S2 := Lib.hid (S1.out.next (hb))
    have Y2 := Lib.hid (Y1.out.next (hb))
    clear hb
    clear x0 x1 x2 x3 x4 x5 x6 x7 x8 x9 x10 x11 x12
    clear s0 s1 s2 s3 s4
    clear q0 q1 q2
    have q0 : w.heap.size < w2.heap.size := X2.out.lt
    have q1 : w.heap.size + 1 < w2.heap.size := S2.out.lt
    have q2 : w.heap.size + 1 + 1 < w2.heap.size := Y2.out.lt
    have er : overE 2 = 0 := rfl
    rw [er]
    clear er
    obtain ⟨x0, x1, x2, x3, x4, x5, x6, x7, x8, x9, x10, x11, x12⟩ := X2.out
    dsimp only at x2 x3 x4 x5 x6 x7 x8 x9 x10 x11 x12
    obtain ⟨s0, s1, s2, s3, s4⟩ := S2.out
    dsimp only at s2 s3 s4
    go_wp2_with fail
    refine (HW.out _ HB2.out).mono ?_
    rintro e w3 ⟨A', c', rfl, hrn, hb⟩
    have HRN3 : Hid (RdN w3 (w.heap.size + 1 + 1 + 1) A' _) := Lib.hid (hrn.mono (by omega))
    clear hrn
    have HB3 : Hid (Below w.heap.size w w3) := Lib.hid (HB2.out.trans ((hb).mono HB2.out.size))
    have X3 := Lib.hid (X2.out.next (hb))
    have S3 := Lib.hid (S2.out.next (hb))
    have Y3 := Lib.hid (Y2.out.next (hb))
    clear hb
    clear x0 x1 x2 x3 x4 x5 x6 x7 x8 x9 x10 x11 x12
    clear s0 s1 s2 s3 s4
    clear q0 q1 q2
    have q0 : w.heap.size < w3.heap.size := X3.out.lt
    have q1 : w.heap.size + 1 < w3.heap.size := S3.out.lt
    have q2 : w.heap.size + 1 + 1 < w3.heap.size := Y3.out.lt
    obtain ⟨x0, x1, x2, x3, x4, x5, x6, x7, x8, x9, x10, x11, x12⟩ := X3.out
    dsimp only at x2 x3 x4 x5 x6 x7 x8 x9 x10 x11 x12
    obtain ⟨s0, s1, s2, s3, s4⟩ := S3.out
    dsimp only at s2 s3 s4
    obtain ⟨y0, y1, y2, y3, y4, y5, y6, y7, y8, y9, y10, y11, y12⟩ := Y3.out
    dsimp only at y2 y3 y4 y5 y6 y7 y8 y9 y10 y11 y12
    go_wp2
    refine bodyPost_ret (v := .tuple #[.agg #[.int .i32 nd, .int .i32 nu, .int .u8 3, .int .i64 aw, .int .i32 al, .int .i32 ag, .slice A' n c', .int .i64 beat, .int .i64 pw, .int .i32 pl, .int .i32 pg], .int .i64 0]) (by simp [results, Try.results48, go_sem, *]) rfl ⟨A', c', rfl, ?_, ?_⟩
    · show RdN _ _ A' (sv l)
      refine RdN.mono (B := w.heap.size + 1 + 1 + 1) ?_ (by omega)
      have HRN := HRN3
      repeat (with_reducible (first | exact HRN.out | refine RdN.set ?_ (by first | (simp; done) | (simp; omega) | omega) _ | refine RdN.alloc ?_ _))
    · have hb := HB3.out
      have hbs := hb.size
      go_grown
  · have q0 : w.heap.size < w1.heap.size := X1.out.lt
    have q1 : w.heap.size + 1 < w1.heap.size := S1.out.lt
    have q2 : w.heap.size + 1 + 1 < w1.heap.size := Y1.out.lt
    subst hve
    subst hst
    subst hwh
    obtain ⟨rfl, rfl, rfl⟩ : aw = mw ∧ al = ml ∧ ag = mg := by simpa using hat
    clear hat
    obtain ⟨x0, x1, x2, x3, x4, x5, x6, x7, x8, x9, x10, x11, x12⟩ := X1.out
    dsimp only at x2 x3 x4 x5 x6 x7 x8 x9 x10 x11 x12
    obtain ⟨s0, s1, s2, s3, s4⟩ := S1.out
    dsimp only at s2 s3 s4
    go_wp2_with fail
    refine (HOV1.out _).mono ?_
    rintro e w2 ⟨rfl, hb⟩
    have HB2 : Hid (Below w.heap.size w w2) := Lib.hid (HB1.out.trans ((hb).mono HB1.out.size))
    have X2 := Lib.hid (X1.out.next (hb))
    have S2 := Lib.hid (S1.out.next (hb))
    have Y2 := Lib.hid (Y1.out.next (hb))
    clear hb
    clear x0 x1 x2 x3 x4 x5 x6 x7 x8 x9 x10 x11 x12
    clear s0 s1 s2 s3 s4
    clear q0 q1 q2
    have q0 : w.heap.size < w2.heap.size := X2.out.lt
    have q1 : w.heap.size + 1 < w2.heap.size := S2.out.lt
    have q2 : w.heap.size + 1 + 1 < w2.heap.size := Y2.out.lt
    have er : overE 2 = 0 := rfl
    rw [er]
    clear er
    obtain ⟨x0, x1, x2, x3, x4, x5, x6, x7, x8, x9, x10, x11, x12⟩ := X2.out
    dsimp only at x2 x3 x4 x5 x6 x7 x8 x9 x10 x11 x12
    obtain ⟨s0, s1, s2, s3, s4⟩ := S2.out
    dsimp only at s2 s3 s4
    go_wp2_with fail
    refine (HOV.out _ HB2.out).mono ?_
    rintro e w3 ⟨A', c', rfl, hrn, hb⟩
    have HRN3 : Hid (RdN w3 (w.heap.size + 1 + 1 + 1) A' _) := Lib.hid (hrn.mono (by omega))
    clear hrn
    have HB3 : Hid (Below w.heap.size w w3) := Lib.hid (HB2.out.trans ((hb).mono HB2.out.size))
    have X3 := Lib.hid (X2.out.next (hb))
    have S3 := Lib.hid (S2.out.next (hb))
    have Y3 := Lib.hid (Y2.out.next (hb))
    clear hb
    clear x0 x1 x2 x3 x4 x5 x6 x7 x8 x9 x10 x11 x12
    clear s0 s1 s2 s3 s4
    clear q0 q1 q2
    have q0 : w.heap.size < w3.heap.size := X3.out.lt
    have q1 : w.heap.size + 1 < w3.heap.size := S3.out.lt
    have q2 : w.heap.size + 1 + 1 < w3.heap.size := Y3.out.lt
    obtain ⟨x0, x1, x2, x3, x4, x5, x6, x7, x8, x9, x10, x11, x12⟩ := X3.out
    dsimp only at x2 x3 x4 x5 x6 x7 x8 x9 x10 x11 x12
    obtain ⟨s0, s1, s2, s3, s4⟩ := S3.out
    dsimp only at s2 s3 s4
    obtain ⟨y0, y1, y2, y3, y4, y5, y6, y7, y8, y9, y10, y11, y12⟩ := Y3.out
    dsimp only at y2 y3 y4 y5 y6 y7 y8 y9 y10 y11 y12
    go_wp2
    refine bodyPost_ret (v := .tuple #[.agg #[.int .i32 nd, .int .i32 nu, .int .u8 4, .int .i64 0, .int .i32 0, .int .i32 0, .slice A' 0 c', .int .i64 beat, .int .i64 pw, .int .i32 pl, .int .i32 pg], .int .i64 0]) (by simp [results, Try.results48, go_sem, *]) rfl ⟨A', c', rfl, ?_, ?_⟩
    · show RdN _ _ A' (sv ([] : List ByteArray))
      refine RdN.mono (B := w.heap.size + 1 + 1 + 1) ?_ (by omega)
      have HRN := HRN3
      repeat (with_reducible (first | exact HRN.out | refine RdN.set ?_ (by first | (simp; done) | (simp; omega) | omega) _ | refine RdN.alloc ?_ _))
    · have hb := HB3.out
      have hbs := hb.size
      go_grown
end Go.Proofs.Ythigmjcepbgljaa
