/- Walks: whether a record that was lent is as it was. -/
import Derived.Test.YthigmjcepbgljaaVq
import Derived.Test.YthigmjcepbgljaaVm
import Derived.Test.YthigmjcepbgljaaVo
namespace Go.Proofs.Ythigmjcepbgljaa
open Go.RowKit Go.St
set_option linter.unusedVariables false
set_option linter.unusedSimpArgs false
set_option maxRecDepth 100000

set_option maxHeartbeats 1600000 in
theorem kept_yes (r : Rec) (g cx : Nat) (hl : fit r) (hn : r.n + 1 ≤ 140737488355328) (hc : r.n + 1 ≤ cx) (B : Nat) (w : World) (hr : Rd w B r.A (sv r.l)) (ho : Rd w B (some ⟨g, 0, none⟩) (sv r.l ++ [behind])) (hB : B ≤ w.heap.size) :
    Calls Try.prog 53 #[(r.to (some ⟨g, 0, none⟩) cx).v, r.v] w fun e w' => e = .returned (.bool true) ∧ Below w.heap.size w w' := by
  have hcell : w.cell? ⟨g, r.n, none⟩ = some behind := by
    obtain ⟨b, off, e, hb, h⟩ := ho (by simp)
    injection e with e
    injection e with e1 e2
    subst e1 e2
    have := h r.n behind (by rw [← hl]; simp [sv])
    simpa using this
  have hgl : g < w.heap.size := World.block_lt_of_cell? w _ hcell
  have hrt : Rd w B (some ⟨g, 0, none⟩) (sv r.l) := by
    have := ho.take (sv r.l).length
    rwa [List.take_left'] at this
    rfl
  have H0 := fun W (h : Below w.heap.size w W) => rsame_yes (r.to (some ⟨g, 0, none⟩) cx) r.A r.c hl (by show r.n ≤ _; omega) B W (hrt.below (h.mono hB)) (hr.below (h.mono hB)) (Nat.le_trans hB h.size)
  clear hr ho hl hrt
  obtain ⟨nd, nu, st, ⟨aw, al, ag⟩, A, n, c, l, beat, ⟨pw, pl, pg⟩⟩ := r
  unfold Rec.to Rec.v at *
  simp only at H0 hn hc hcell ⊢
  have H := Lib.hid H0
  clear H0
  have X0 := (BxQ.new w ⟨nd, nu, st, ⟨aw, al, ag⟩, some ⟨g, 0, none⟩, n, cx, l, beat, ⟨pw, pl, pg⟩⟩ 30).alloc (.cells #[.int .i32 nd, .int .i32 nu, .int .u8 st, .int .i64 aw, .int .i32 al, .int .i32 ag, .slice A n c, .int .i64 beat, .int .i64 pw, .int .i32 pl, .int .i32 pg] 30)
  have Y0 := BxQ.new (w.alloc (.cells #[.int .i32 nd, .int .i32 nu, .int .u8 st, .int .i64 aw, .int .i32 al, .int .i32 ag, .slice (some ⟨g, 0, none⟩) n cx, .int .i64 beat, .int .i64 pw, .int .i32 pl, .int .i32 pg] 30)) ⟨nd, nu, st, ⟨aw, al, ag⟩, A, n, c, l, beat, ⟨pw, pl, pg⟩⟩ 30
  rw [World.size_alloc] at Y0
  have HB0 : Hid (Below w.heap.size w ((w.alloc (.cells #[.int .i32 nd, .int .i32 nu, .int .u8 st, .int .i64 aw, .int .i32 al, .int .i32 ag, .slice (some ⟨g, 0, none⟩) n cx, .int .i64 beat, .int .i64 pw, .int .i32 pl, .int .i32 pg] 30)).alloc (.cells #[.int .i32 nd, .int .i32 nu, .int .u8 st, .int .i64 aw, .int .i32 al, .int .i32 ag, .slice A n c, .int .i64 beat, .int .i64 pw, .int .i32 pl, .int .i32 pg] 30))) := Lib.hid (by go_grown)
  dsimp only at X0 Y0
  go_enter Try.func53, Try.ntmps53
  go_upto_region 1 with (fail)
  generalize hW0 : ((w.alloc (.cells #[.int .i32 nd, .int .i32 nu, .int .u8 st, .int .i64 aw, .int .i32 al, .int .i32 ag, .slice (some ⟨g, 0, none⟩) n cx, .int .i64 beat, .int .i64 pw, .int .i32 pl, .int .i32 pg] 30)).alloc (.cells #[.int .i32 nd, .int .i32 nu, .int .u8 st, .int .i64 aw, .int .i32 al, .int .i32 ag, .slice A n c, .int .i64 beat, .int .i64 pw, .int .i32 pl, .int .i32 pg] 30)) = W0 at *
  clear hW0
  have hcell0 : W0.cell? ⟨g, n, none⟩ = some behind := (HB0.out.cell (p := ⟨g, n, none⟩) hgl).trans hcell
  unfold behind at hcell0
  have hg0 : g < W0.heap.size := Nat.lt_of_lt_of_le hgl HB0.out.size
  clear hcell
  obtain ⟨x0, x1, x2, x3, x4, x5, x6, x7, x8, x9, x10, x11, x12⟩ := X0
  obtain ⟨y0, y1, y2, y3, y4, y5, y6, y7, y8, y9, y10, y11, y12⟩ := Y0
  dsimp only at x2 x3 x4 x5 x6 x7 x8 x9 x10 x11 x12 y2 y3 y4 y5 y6 y7 y8 y9 y10 y11 y12
  have q0 : (0 : Int) ≤ (n : Int) + 1 := by omega
  have q1 : (n : Int) + 1 ≤ (cx : Int) := by omega
  have q2 : (0 : Int) ≤ (n : Int) := by omega
  have q3 : (n : Int) < (n : Int) + 1 := by omega
  have q4 : IntKind.i64.wrap ((n : Int) + 1) = (n : Int) + 1 := IntWalk.i64_in _ (by omega)
  have q5 : ((n : Int) + 1).toNat = n + 1 := by omega
  have q6 : n + 1 ≤ cx := hc
  refine wp_qall (by kernel_rfl) (by kernel_rfl) ?_
  intro hcg
  repeat (first | go_big_quiet_step (first | with_reducible exact Calls.reg (H.out _ (Below.goq HB0.out _ _ HB0.out.size))) | quiet_step (first | with_reducible exact Calls.reg (H.out _ (Below.goq HB0.out _ _ HB0.out.size))))
  refine wpQuiet_nil ?_
  intro wq hbwq hcwq hfwq
  clear hcg
  have HBq : Hid (Below w.heap.size w wq) := Lib.hid (HB0.out.trans (hbwq.mono HB0.out.size))
  clear hbwq hcwq hfwq q0 q1 q2 q3 q4 q5 q6 x1 x2 x3 x4 x5 x6 x7 x8 x9 x10 x11 x12 y1 y2 y3 y4 y5 y6 y7 y8 y9 y10 y11 y12 H
  go_wp2
  go_ret
  exact ⟨rfl, HBq.out⟩
end Go.Proofs.Ythigmjcepbgljaa
