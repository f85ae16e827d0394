/- Walks: a record killed, by the document. -/
import Derived.Test.YthigmjcepbgljaaVi
namespace Go.Proofs.Ythigmjcepbgljaa
open Go.RowKit Go.St
set_option linter.unusedVariables false
set_option linter.unusedSimpArgs false
set_option maxRecDepth 100000
theorem kill_two (r : Rec) : (chkR r = 0 ∧ r.st = 2 ∧ killE r = 321 ∧ killO r = zeR) ∨ (chkR r = 0 ∧ (r.st == 2) = false ∧ killE r = abortE r ∧ killO r = abortO r) ∨ ((chkR r == 0) = false ∧ killE r = abortE r ∧ killO r = abortO r) := by
  by_cases h0 : chkR r = 0
  · by_cases h2 : r.st = 2
    · refine .inl ⟨h0, h2, ?_⟩
      simp [killO, killE, h0, h2]
    · refine .inr (.inl ⟨h0, by simpa using h2, ?_⟩)
      simp [killO, killE, abortO, abortE, h0, h2]
  · refine .inr (.inr ⟨by simpa using h0, ?_⟩)
    simp [killO, killE, abortO, abortE, h0]
set_option maxHeartbeats 3200000 in
theorem rkill_any (r : Rec) (hl : fit r) (B : Nat) (w : World) (hr : Rd w B r.A (sv r.l)) (hB : B ≤ w.heap.size) (hn : r.n * 16 ≤ 140737488355328) :
    Calls Try.prog 46 #[r.v] w (OutR (killO r) (killE r) w) := by
  have hc := kill_two r
  have h1 := fun W (h : Below w.heap.size w W) => rreccheck_any r hl B W (hr.below (h.mono hB)) (Nat.le_trans hB h.size)
  have h2 := fun W (h : Below w.heap.size w W) => rabort_any r hl B W (hr.below (h.mono hB)) (Nat.le_trans hB h.size) hn
  generalize abortE r = E at *
  generalize abortO r = O at *
  generalize killE r = E' at *
  generalize killO r = O' at *
  generalize hve : chkR r = ve at *
  clear hve hl hr hn
  obtain ⟨nd, nu, st, ⟨aw, al, ag⟩, A, n, c, l, beat, ⟨pw, pl, pg⟩⟩ := r
  have H2 : Hid (∀ W, Below w.heap.size w W → Calls _ _ _ W (OutR O E W)) := Lib.hid h2
  clear h2
  simp only at hc h1
  have HC := Lib.hid hc; clear hc
  have H1 := Lib.hid h1; clear h1
  unfold Rec.v at *
  simp only at H1 H2 ⊢
  go_enter Try.func46, Try.ntmps46
  go_wp2_with fail
  refine (H1.out _ (by go_grown)).mono ?_
  rintro e w1 ⟨rfl, hb⟩
  have HB1 : Hid (Below w.heap.size w w1) := Below.go (by go_grown) hb (by go_size)
  have X1 := Lib.hid (((BxQ.new w ⟨nd, nu, st, ⟨aw, al, ag⟩, A, n, c, l, beat, ⟨pw, pl, pg⟩⟩ 30).alloc _).next hb)
  have Y1 := Lib.hid ((BxQ.new (w.alloc (.cells #[.int .i32 nd, .int .i32 nu, .int .u8 st, .int .i64 aw, .int .i32 al, .int .i32 ag, .slice A n c, .int .i64 beat, .int .i64 pw, .int .i32 pl, .int .i32 pg] 30)) ⟨0, 0, 0, ⟨0, 0, 0⟩, none, 0, 0, [], 0, ⟨0, 0, 0⟩⟩ 30).next hb)
  rw [World.size_alloc] at Y1
  clear hb H1
  rcases HC.out with ⟨hve, hst, rfl, rfl⟩ | ⟨hve, hst, rfl, rfl⟩ | ⟨hve, rfl, rfl⟩
  all_goals clear HC
  · have q0 : w.heap.size < w1.heap.size := X1.out.lt
    have q1 : w.heap.size + 1 < w1.heap.size := Y1.out.lt
    subst hve
    subst hst
    obtain ⟨x0, x1, x2, x3, x4, x5, x6, x7, x8, x9, x10, x11, x12⟩ := X1.out
    dsimp only at x2 x3 x4 x5 x6 x7 x8 x9 x10 x11 x12
    obtain ⟨y0, y1, y2, y3, y4, y5, y6, y7, y8, y9, y10, y11, y12⟩ := Y1.out
    dsimp only at y2 y3 y4 y5 y6 y7 y8 y9 y10 y11 y12
    go_wp2
    refine bodyPost_ret (v := .tuple #[.agg #[.int .i32 0, .int .i32 0, .int .u8 0, .int .i64 0, .int .i32 0, .int .i32 0, .slice none 0 0, .int .i64 0, .int .i64 0, .int .i32 0, .int .i32 0], .int .i64 321]) (by simp [results, Try.results46, go_sem, *]) rfl ⟨none, 0, rfl, RdN.nil, ?_⟩
    have hb := HB1.out
    have hbs := hb.size
    go_grown
  · have q0 : w.heap.size < w1.heap.size := X1.out.lt
    have q1 : w.heap.size + 1 < w1.heap.size := Y1.out.lt
    subst hve
    obtain ⟨x0, x1, x2, x3, x4, x5, x6, x7, x8, x9, x10, x11, x12⟩ := X1.out
    dsimp only at x2 x3 x4 x5 x6 x7 x8 x9 x10 x11 x12
    go_wp2_with fail
    refine (H2.out _ HB1.out).mono ?_
    obtain ⟨ond, onu, ost, ⟨oaw, oal, oag⟩, oA, on, oc, ol, obeat, ⟨opw, opl, opg⟩⟩ := O'
    rintro e w2 ⟨A', c', he, hrn, hb⟩
    replace he : e = .returned (.tuple #[.agg #[.int .i32 ond, .int .i32 onu, .int .u8 ost, .int .i64 oaw, .int .i32 oal, .int .i32 oag, .slice A' on c', .int .i64 obeat, .int .i64 opw, .int .i32 opl, .int .i32 opg], .int .i64 E']) := he
    subst he
    have HRN2 : Hid (RdN w2 (w.heap.size + 1 + 1) A' (sv ol)) := Lib.hid (hrn.mono (by omega))
    clear hrn
    have HB2 : Hid (Below w.heap.size w w2) := Lib.hid (HB1.out.trans ((hb).mono HB1.out.size))
    have Y2 := Lib.hid (Y1.out.next (hb))
    clear hb H2
    clear x0 x1 x2 x3 x4 x5 x6 x7 x8 x9 x10 x11 x12
    clear q0 q1
    have q1 : w.heap.size + 1 < w2.heap.size := Y2.out.lt
    obtain ⟨y0, y1, y2, y3, y4, y5, y6, y7, y8, y9, y10, y11, y12⟩ := Y2.out
    dsimp only at y2 y3 y4 y5 y6 y7 y8 y9 y10 y11 y12
    go_wp2
    refine bodyPost_ret (v := .tuple #[.agg #[.int .i32 ond, .int .i32 onu, .int .u8 ost, .int .i64 oaw, .int .i32 oal, .int .i32 oag, .slice A' on c', .int .i64 obeat, .int .i64 opw, .int .i32 opl, .int .i32 opg], .int .i64 E']) (by simp [results, Try.results46, go_sem, *]) rfl ⟨A', c', rfl, ?_, ?_⟩
    · show RdN _ _ A' (sv ol)
      refine RdN.mono (B := w.heap.size + 1 + 1) ?_ (by omega)
      have HRN := HRN2
      repeat (with_reducible (first | exact HRN.out | refine RdN.set ?_ (by first | (simp; done) | (simp; omega) | omega) _ | refine RdN.alloc ?_ _))
    · have hb := HB2.out
      have hbs := hb.size
      go_grown
  · have q0 : w.heap.size < w1.heap.size := X1.out.lt
    have q1 : w.heap.size + 1 < w1.heap.size := Y1.out.lt
    obtain ⟨x0, x1, x2, x3, x4, x5, x6, x7, x8, x9, x10, x11, x12⟩ := X1.out
    dsimp only at x2 x3 x4 x5 x6 x7 x8 x9 x10 x11 x12
    go_wp2_with fail
    refine (H2.out _ HB1.out).mono ?_
    obtain ⟨ond, onu, ost, ⟨oaw, oal, oag⟩, oA, on, oc, ol, obeat, ⟨opw, opl, opg⟩⟩ := O'
    rintro e w2 ⟨A', c', he, hrn, hb⟩
    replace he : e = .returned (.tuple #[.agg #[.int .i32 ond, .int .i32 onu, .int .u8 ost, .int .i64 oaw, .int .i32 oal, .int .i32 oag, .slice A' on c', .int .i64 obeat, .int .i64 opw, .int .i32 opl, .int .i32 opg], .int .i64 E']) := he
    subst he
    have HRN2 : Hid (RdN w2 (w.heap.size + 1 + 1) A' (sv ol)) := Lib.hid (hrn.mono (by omega))
    clear hrn
    have HB2 : Hid (Below w.heap.size w w2) := Lib.hid (HB1.out.trans ((hb).mono HB1.out.size))
    have Y2 := Lib.hid (Y1.out.next (hb))
    clear hb H2
    clear x0 x1 x2 x3 x4 x5 x6 x7 x8 x9 x10 x11 x12
    clear q0 q1
    have q1 : w.heap.size + 1 < w2.heap.size := Y2.out.lt
    obtain ⟨y0, y1, y2, y3, y4, y5, y6, y7, y8, y9, y10, y11, y12⟩ := Y2.out
    dsimp only at y2 y3 y4 y5 y6 y7 y8 y9 y10 y11 y12
    go_wp2
    refine bodyPost_ret (v := .tuple #[.agg #[.int .i32 ond, .int .i32 onu, .int .u8 ost, .int .i64 oaw, .int .i32 oal, .int .i32 oag, .slice A' on c', .int .i64 obeat, .int .i64 opw, .int .i32 opl, .int .i32 opg], .int .i64 E']) (by simp [results, Try.results46, go_sem, *]) rfl ⟨A', c', rfl, ?_, ?_⟩
    · show RdN _ _ A' (sv ol)
      refine RdN.mono (B := w.heap.size + 1 + 1) ?_ (by omega)
      have HRN := HRN2
      repeat (with_reducible (first | exact HRN.out | refine RdN.set ?_ (by first | (simp; done) | (simp; omega) | omega) _ | refine RdN.alloc ?_ _))
    · have hb := HB2.out
      have hbs := hb.size
      go_grown
end Go.Proofs.Ythigmjcepbgljaa
