/- Walks: a record copied; a work made; its record told. -/
import Derived.Test.YthigmjcepbgljaaWd
import Derived.Deep.OwnRows
import Derived.Deep.RegionWith
namespace Go.Proofs.Ythigmjcepbgljaa
open Go.RowKit Go.St
set_option linter.unusedVariables false
set_option linter.unusedSimpArgs false
set_option maxRecDepth 100000

set_option maxHeartbeats 800000 in
theorem wcopied_any (r : Rec) (hl : fit r) (hn : r.n * 16 ≤ 140737488355328) (B : Nat) (w : World) (hr : Rd w B r.A (sv r.l)) (hB : B ≤ w.heap.size) :
    Calls Try.prog 61 #[r.v] w (OutQ (endR r r.st r.at_ r.n r.l) w) := by
  have H := Lib.hid (fun W (h : Below w.heap.size w W) => cloneN_any r.A r.n r.c B r.l hl hn W (hr.below (h.mono hB)) (Nat.le_trans hB h.size))
  clear hr hl
  obtain ⟨nd, nu, st, ⟨aw, al, ag⟩, A, n, c, l, beat, ⟨pw, pl, pg⟩⟩ := r
  unfold Rec.v endR
  simp only at H ⊢
  go_enter Try.func61, Try.ntmps61
  go_wp2_with fail
  refine (H.out _ (by go_grown)).mono ?_
  rintro e w1 ⟨A', c', rfl, hrn, hb⟩
  have hrn1 : RdN w1 (w.heap.size + 1 + 1) A' (sv l) := hrn.mono (by simp)
  have HRN := Lib.hid hrn1
  obtain ⟨hcw1, hfw1⟩ := bcell hb
  have HBw1 : Hid (Below w.heap.size w w1) := Below.go (by go_grown) hb (by go_size)
  have hx : Hid (BxQ w1 w.heap.size ⟨nd, nu, st, ⟨aw, al, ag⟩, A, n, c, l, beat, ⟨pw, pl, pg⟩⟩) := ((BxQ.new w _ 30).next ((Below.refl _ _).alloc (Nat.le_refl _) _)).next hb
  obtain ⟨x0, x1, x2, x3, x4, x5, x6, x7, x8, x9, x10, x11, x12⟩ := hx.out
  have hy : Hid (BxQ w1 (w.heap.size + 1) ⟨0, 0, 0, ⟨0, 0, 0⟩, none, 0, 0, [], 0, ⟨0, 0, 0⟩⟩) := by
    have h := (BxQ.new (w.alloc (.cells #[.int .i32 nd, .int .i32 nu, .int .u8 st, .int .i64 aw, .int .i32 al, .int .i32 ag, .slice A n c, .int .i64 beat, .int .i64 pw, .int .i32 pl, .int .i32 pg] 30)) ⟨0, 0, 0, ⟨0, 0, 0⟩, none, 0, 0, [], 0, ⟨0, 0, 0⟩⟩ 30).next hb
    rw [World.size_alloc] at h
    exact h
  obtain ⟨y0, y1, y2, y3, y4, y5, y6, y7, y8, y9, y10, y11, y12⟩ := hy.out
  dsimp only at x2 x3 x4 x5 x6 x7 x8 x9 x10 x11 x12 y2 y3 y4 y5 y6 y7 y8 y9 y10 y11 y12
  clear hb H hcw1 hfw1 hrn hrn1
  go_wp2
  refine bodyPost_ret (v := .agg #[.int .i32 nd, .int .i32 nu, .int .u8 st, .int .i64 aw, .int .i32 al, .int .i32 ag, .slice A' n c', .int .i64 beat, .int .i64 pw, .int .i32 pl, .int .i32 pg]) (by simp [results, Try.results61, go_sem, *]) rfl ⟨A', c', rfl, ?_, ?_⟩
  · refine RdN.mono (B := w.heap.size + 1 + 1) ?_ (by omega)
    repeat (with_reducible (first | exact HRN.out | refine RdN.set ?_ (by first | (simp; done) | (simp; omega) | omega) _ | refine RdN.alloc ?_ _))
  · have hb := HBw1.out
    have hbs := hb.size
    go_grown

/-- The work's record is told. -/
theorem wrec_any {lo hi b g : Nat} {r : Rec} {ans : List Int} (w : World) (h : WkB w lo hi b g r ans) : Calls Try.prog 15 #[.pointer (some ⟨b, 0, none⟩)] w (OutQ (endR r r.st r.at_ r.n r.l) w) := by
  have HW := Lib.hid h
  have H0 := Lib.hid (fun W (h : WkB W lo hi b g r ans) => none_any W h)
  have HC := Lib.hid (fun W (h : WkB W lo hi b g r ans) => wcopied_any r h.rl (by have := h.rn; omega) hi W h.rkey h.hh)
  clear h
  obtain ⟨nd, nu, st, ⟨aw, al, ag⟩, A, n, c, l, beat, ⟨pw, pl, pg⟩⟩ := r
  have HQ : Hid (∀ W, WkB W lo hi b g ⟨nd, nu, st, ⟨aw, al, ag⟩, A, n, c, l, beat, ⟨pw, pl, pg⟩⟩ ans → Calls Try.prog 61 #[.agg #[.int .i32 nd, .int .i32 nu, .int .u8 st, .int .i64 aw, .int .i32 al, .int .i32 ag, .slice A n c, .int .i64 beat, .int .i64 pw, .int .i32 pl, .int .i32 pg]] W (fun e w' => ∃ A' c', e = .returned (.agg #[.int .i32 nd, .int .i32 nu, .int .u8 st, .int .i64 aw, .int .i32 al, .int .i32 ag, .slice A' n c', .int .i64 beat, .int .i64 pw, .int .i32 pl, .int .i32 pg]) ∧ RdN w' W.heap.size A' (sv l) ∧ Below W.heap.size W w')) := Lib.hid HC.out
  clear HC
  unfold endR
  simp only
  have HW1 := Lib.hid (HW.out.next ((Below.refl _ _).alloc (Nat.le_refl _) (.cells #[.int .i32 0, .int .i32 0, .int .u8 0, .int .i64 0, .int .i32 0, .int .i32 0, .slice none 0 0, .int .i64 0, .int .i64 0, .int .i32 0, .int .i32 0] 30)))
  obtain ⟨x0, x1, x2, x3, x4, x5, x6, x7, x8, x9, x10, x11, x12⟩ := HW1.out.bx
  dsimp only at x2 x3 x4 x5 x6 x7 x8 x9 x10 x11 x12
  go_enter Try.func15, Try.ntmps15
  go_wp2_with fail
  refine (H0.out _ HW1.out).mono ?_
  rintro e w' ⟨rfl, rfl⟩
  go_wp2_with fail
  refine (HQ.out _ HW1.out).mono ?_
  rintro e w1 ⟨A', c', rfl, hrn, hb⟩
  have hrn1 : RdN w1 (w.heap.size + 1) A' (sv l) := hrn.mono (by simp)
  have HRN := Lib.hid hrn1
  have HBw1 : Hid (Below w.heap.size w w1) := Below.go (by go_grown) hb (by go_size)
  have hy := (BxQ.new w ⟨0, 0, 0, ⟨0, 0, 0⟩, none, 0, 0, [], 0, ⟨0, 0, 0⟩⟩ 30).next hb
  clear x0 x1 x2 x3 x4 x5 x6 x7 x8 x9 x10 x11 x12
  obtain ⟨y0, y1, y2, y3, y4, y5, y6, y7, y8, y9, y10, y11, y12⟩ := hy
  dsimp only at y2 y3 y4 y5 y6 y7 y8 y9 y10 y11 y12
  clear hb hrn hrn1 HQ H0 HW1 HW
  go_wp2
  refine bodyPost_ret (v := .agg #[.int .i32 nd, .int .i32 nu, .int .u8 st, .int .i64 aw, .int .i32 al, .int .i32 ag, .slice A' n c', .int .i64 beat, .int .i64 pw, .int .i32 pl, .int .i32 pg]) (by simp [results, Try.results15, go_sem, *]) rfl ⟨A', c', rfl, ?_, ?_⟩
  · show RdN _ _ A' (sv l)
    refine RdN.mono (B := w.heap.size + 1) ?_ (by omega)
    repeat (with_reducible (first | exact HRN.out | refine RdN.set ?_ (by first | (simp; done) | (simp; omega) | omega) _ | refine RdN.alloc ?_ _))
  · have hb := HBw1.out
    have hbs := hb.size
    go_grown
theorem wrec_nil ( w : World) : Calls Try.prog 15 #[.pointer none] w fun e w' => e = .returned zeR.v ∧ Below w.heap.size w w' := by
  have H0 := Lib.hid (fun (W : World) => none_nil W)
  unfold zeR Rec.v
  simp only
  go_enter Try.func15, Try.ntmps15
  go_wp2_with fail
  refine (H0.out _ ).mono ?_
  rintro e w' ⟨rfl, rfl⟩
  go_wp2
  refine bodyPost_ret (v := .agg #[.int .i32 0, .int .i32 0, .int .u8 0, .int .i64 0, .int .i32 0, .int .i32 0, .slice none 0 0, .int .i64 0, .int .i64 0, .int .i32 0, .int .i32 0]) (by simp [results, Try.results15, go_sem, *]) rfl ⟨rfl, ?_⟩
  go_grown
theorem wrec_zero (w0 w : World)(b : Nat) (h : w.cell? ⟨b, 11, none⟩ = some (.slice none 0 0)) (hb : b < w.heap.size) : Calls Try.prog 15 #[.pointer (some ⟨b, 0, none⟩)] w fun e w' => e = .returned zeR.v ∧ Below w.heap.size w w' := by
  have H0 := Lib.hid (fun (W : World)(h : W.cell? ⟨b, 11, none⟩ = some (.slice none 0 0)) => none_zero b W h)
  unfold zeR Rec.v
  simp only
  go_enter Try.func15, Try.ntmps15
  go_wp2_with fail
  refine (H0.out _ (by rw [World.cell?_alloc_lt _ _ _ hb]; exact h)).mono ?_
  rintro e w' ⟨rfl, rfl⟩
  go_wp2
  refine bodyPost_ret (v := .agg #[.int .i32 0, .int .i32 0, .int .u8 0, .int .i64 0, .int .i32 0, .int .i32 0, .slice none 0 0, .int .i64 0, .int .i64 0, .int .i32 0, .int .i32 0]) (by simp [results, Try.results15, go_sem, *]) rfl ⟨rfl, ?_⟩
  go_grown
end Go.Proofs.Ythigmjcepbgljaa
