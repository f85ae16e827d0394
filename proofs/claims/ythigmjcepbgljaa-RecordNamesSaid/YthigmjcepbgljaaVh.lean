/- Walks: a record aborted, killed, settled, pushed, kept alive. -/
import Derived.Test.YthigmjcepbgljaaVe2
namespace Go.Proofs.Ythigmjcepbgljaa
open Go.RowKit Go.St
set_option linter.unusedVariables false
set_option linter.unusedSimpArgs false
set_option maxRecDepth 100000
set_option maxHeartbeats 3200000 in
theorem abort_any (r : Rec) (hl : fit r) (B : Nat) (w : World) (hr : Rd w B r.A (sv r.l)) (hB : B ≤ w.heap.size) (hn : r.n * 16 ≤ 140737488355328) :
    Calls Try.prog 41 #[r.v] w (OutR (abortO r) (abortE r) w) := by
  have hc := abort_cases r
  have nb := chkR_st' (r := r)
  have h1 := fun W (h : Below w.heap.size w W) => reccheck_any r hl B W (hr.below (h.mono hB)) (Nat.le_trans hB h.size)
  have HREF := Lib.hid (fun A n c B (hl : 1 = n) W (h : Rd W B A (iv [3])) hB => refused_any r A n c B [3] hl (by omega) W h hB)
  have ho := fun W => over_any r W
  generalize abortE r = E at *
  generalize abortO r = O at *
  generalize hve : chkR r = ve at *
  have HST := Lib.hid nb
  clear nb hve hl hr hn
  obtain ⟨nd, nu, st, ⟨aw, al, ag⟩, A, n, c, l, beat, ⟨pw, pl, pg⟩⟩ := r

  have HOV : Hid (∀ W, Calls _ _ _ W (fun e w' => e = .returned (.agg #[.int .i32 nd, .int .i32 nu, .int .u8 4, .int .i64 0, .int .i32 0, .int .i32 0, .slice none 0 0, .int .i64 beat, .int .i64 pw, .int .i32 pl, .int .i32 pg]) ∧ Below W.heap.size W w')) := Lib.hid ho
  clear ho
  simp only at HST hc h1 ⊢
  have HC := Lib.hid hc; clear hc
  have H1 := Lib.hid h1; clear h1
  unfold Rec.v at *

  simp only at H1 ⊢
  go_enter Try.func41, Try.ntmps41
  go_wp2_with fail
  refine (H1.out _ (by go_grown)).mono ?_
  rintro e w1 ⟨rfl, hb⟩
  have HB1 : Hid (Below w.heap.size w w1) := Below.go (by go_grown) hb (by go_size)
  have X1 := Lib.hid (((BxQ.new w ⟨nd, nu, st, ⟨aw, al, ag⟩, A, n, c, l, beat, ⟨pw, pl, pg⟩⟩ 30).alloc _).next hb)
  have Y1 := Lib.hid ((BxQ.new (w.alloc (.cells #[.int .i32 nd, .int .i32 nu, .int .u8 st, .int .i64 aw, .int .i32 al, .int .i32 ag, .slice A n c, .int .i64 beat, .int .i64 pw, .int .i32 pl, .int .i32 pg] 30)) ⟨0, 0, 0, ⟨0, 0, 0⟩, none, 0, 0, [], 0, ⟨0, 0, 0⟩⟩ 30).next hb)
  rw [World.size_alloc] at Y1
  clear hb H1
  rcases HC.out with ⟨hve, rfl, rfl⟩ | ⟨hve, hst, rfl, rfl⟩ | ⟨hve, hst, rfl, rfl⟩ | ⟨hve, hst, rfl, rfl⟩ | ⟨hve, hst, rfl, rfl⟩
  all_goals clear HC
  · have q0 : w.heap.size < w1.heap.size := X1.out.lt
    have q1 : w.heap.size + 1 < w1.heap.size := Y1.out.lt
    have hne : (E == 0) = false := by simpa using hve
    have hne2 : (E != 0) = true := by rw [bne, hne]; rfl
    obtain ⟨x0, x1, x2, x3, x4, x5, x6, x7, x8, x9, x10, x11, x12⟩ := X1.out
    dsimp only at x2 x3 x4 x5 x6 x7 x8 x9 x10 x11 x12
    obtain ⟨y0, y1, y2, y3, y4, y5, y6, y7, y8, y9, y10, y11, y12⟩ := Y1.out
    dsimp only at y2 y3 y4 y5 y6 y7 y8 y9 y10 y11 y12
    go_wp2
    refine bodyPost_ret (v := .tuple #[.agg #[.int .i32 0, .int .i32 0, .int .u8 0, .int .i64 0, .int .i32 0, .int .i32 0, .slice none 0 0, .int .i64 0, .int .i64 0, .int .i32 0, .int .i32 0], .int .i64 E]) (by simp [results, Try.results41, go_sem, *]) rfl ⟨none, 0, rfl, RdN.nil, ?_⟩
    have hb := HB1.out
    have hbs := hb.size
    go_grown
  · have q0 : w.heap.size < w1.heap.size := X1.out.lt
    have q1 : w.heap.size + 1 < w1.heap.size := Y1.out.lt
    subst hve
    subst hst
    have RDN := Lib.hid (rd_new8a w1 3 25)
    obtain ⟨x0, x1, x2, x3, x4, x5, x6, x7, x8, x9, x10, x11, x12⟩ := X1.out
    dsimp only at x2 x3 x4 x5 x6 x7 x8 x9 x10 x11 x12
    go_wp2_with fail
    refine (HREF.out _ 1 1 _ rfl _ RDN.out (by simp)).mono ?_
    rintro e w2 ⟨rfl, hb⟩
    have hb := ((Below.refl w1.heap.size w1).alloc (Nat.le_refl _) _).trans (hb.mono (by simp))
    have HB2 : Hid (Below w.heap.size w w2) := Lib.hid (HB1.out.trans ((hb).mono HB1.out.size))
    have X2 := Lib.hid (X1.out.next (hb))
    have Y2 := Lib.hid (Y1.out.next (hb))
    clear hb
    clear x0 x1 x2 x3 x4 x5 x6 x7 x8 x9 x10 x11 x12
    clear q0 q1
    have q0 : w.heap.size < w2.heap.size := X2.out.lt
    have q1 : w.heap.size + 1 < w2.heap.size := Y2.out.lt
    have er : refE 3 [3] = 320 := rfl
    rw [er]
    clear er RDN
    obtain ⟨x0, x1, x2, x3, x4, x5, x6, x7, x8, x9, x10, x11, x12⟩ := X2.out
    dsimp only at x2 x3 x4 x5 x6 x7 x8 x9 x10 x11 x12
    obtain ⟨y0, y1, y2, y3, y4, y5, y6, y7, y8, y9, y10, y11, y12⟩ := Y2.out
    dsimp only at y2 y3 y4 y5 y6 y7 y8 y9 y10 y11 y12
    go_wp2
    refine bodyPost_ret (v := .tuple #[.agg #[.int .i32 0, .int .i32 0, .int .u8 0, .int .i64 0, .int .i32 0, .int .i32 0, .slice none 0 0, .int .i64 0, .int .i64 0, .int .i32 0, .int .i32 0], .int .i64 320]) (by simp [results, Try.results41, go_sem, *]) rfl ⟨none, 0, rfl, RdN.nil, ?_⟩
    have hb := HB2.out
    have hbs := hb.size
    go_grown
  · have q0 : w.heap.size < w1.heap.size := X1.out.lt
    have q1 : w.heap.size + 1 < w1.heap.size := Y1.out.lt
    subst hve
    subst hst
    have RDN := Lib.hid (rd_new8a w1 3 25)
    obtain ⟨x0, x1, x2, x3, x4, x5, x6, x7, x8, x9, x10, x11, x12⟩ := X1.out
    dsimp only at x2 x3 x4 x5 x6 x7 x8 x9 x10 x11 x12
    go_wp2_with fail
    refine (HREF.out _ 1 1 _ rfl _ RDN.out (by simp)).mono ?_
    rintro e w2 ⟨rfl, hb⟩
    have hb := ((Below.refl w1.heap.size w1).alloc (Nat.le_refl _) _).trans (hb.mono (by simp))
    have HB2 : Hid (Below w.heap.size w w2) := Lib.hid (HB1.out.trans ((hb).mono HB1.out.size))
    have X2 := Lib.hid (X1.out.next (hb))
    have Y2 := Lib.hid (Y1.out.next (hb))
    clear hb
    clear x0 x1 x2 x3 x4 x5 x6 x7 x8 x9 x10 x11 x12
    clear q0 q1
    have q0 : w.heap.size < w2.heap.size := X2.out.lt
    have q1 : w.heap.size + 1 < w2.heap.size := Y2.out.lt
    have er : refE 1 [3] = 0 := rfl
    rw [er]
    clear er RDN
    obtain ⟨x0, x1, x2, x3, x4, x5, x6, x7, x8, x9, x10, x11, x12⟩ := X2.out
    dsimp only at x2 x3 x4 x5 x6 x7 x8 x9 x10 x11 x12
    go_wp2_with fail
    refine (HOV.out _).mono ?_
    rintro e w3 ⟨rfl, hb⟩
    have HB3 : Hid (Below w.heap.size w w3) := Lib.hid (HB2.out.trans ((hb).mono HB2.out.size))
    have X3 := Lib.hid (X2.out.next (hb))
    have Y3 := Lib.hid (Y2.out.next (hb))
    clear hb
    clear x0 x1 x2 x3 x4 x5 x6 x7 x8 x9 x10 x11 x12
    clear q0 q1
    have q0 : w.heap.size < w3.heap.size := X3.out.lt
    have q1 : w.heap.size + 1 < w3.heap.size := Y3.out.lt
    obtain ⟨x0, x1, x2, x3, x4, x5, x6, x7, x8, x9, x10, x11, x12⟩ := X3.out
    dsimp only at x2 x3 x4 x5 x6 x7 x8 x9 x10 x11 x12
    obtain ⟨y0, y1, y2, y3, y4, y5, y6, y7, y8, y9, y10, y11, y12⟩ := Y3.out
    dsimp only at y2 y3 y4 y5 y6 y7 y8 y9 y10 y11 y12
    go_wp2
    refine bodyPost_ret (v := .tuple #[.agg #[.int .i32 nd, .int .i32 nu, .int .u8 4, .int .i64 0, .int .i32 0, .int .i32 0, .slice none 0 0, .int .i64 beat, .int .i64 pw, .int .i32 pl, .int .i32 pg], .int .i64 0]) (by simp [results, Try.results41, go_sem, *]) rfl ⟨none, 0, rfl, RdN.nil, ?_⟩
    have hb := HB3.out
    have hbs := hb.size
    go_grown
  · have q0 : w.heap.size < w1.heap.size := X1.out.lt
    have q1 : w.heap.size + 1 < w1.heap.size := Y1.out.lt
    subst hve
    subst hst
    have RDN := Lib.hid (rd_new8a w1 3 25)
    obtain ⟨x0, x1, x2, x3, x4, x5, x6, x7, x8, x9, x10, x11, x12⟩ := X1.out
    dsimp only at x2 x3 x4 x5 x6 x7 x8 x9 x10 x11 x12
    go_wp2_with fail
    refine (HREF.out _ 1 1 _ rfl _ RDN.out (by simp)).mono ?_
    rintro e w2 ⟨rfl, hb⟩
    have hb := ((Below.refl w1.heap.size w1).alloc (Nat.le_refl _) _).trans (hb.mono (by simp))
    have HB2 : Hid (Below w.heap.size w w2) := Lib.hid (HB1.out.trans ((hb).mono HB1.out.size))
    have X2 := Lib.hid (X1.out.next (hb))
    have Y2 := Lib.hid (Y1.out.next (hb))
    clear hb
    clear x0 x1 x2 x3 x4 x5 x6 x7 x8 x9 x10 x11 x12
    clear q0 q1
    have q0 : w.heap.size < w2.heap.size := X2.out.lt
    have q1 : w.heap.size + 1 < w2.heap.size := Y2.out.lt
    have er : refE 2 [3] = 0 := rfl
    rw [er]
    clear er RDN
    obtain ⟨x0, x1, x2, x3, x4, x5, x6, x7, x8, x9, x10, x11, x12⟩ := X2.out
    dsimp only at x2 x3 x4 x5 x6 x7 x8 x9 x10 x11 x12
    go_wp2_with fail
    refine (HOV.out _).mono ?_
    rintro e w3 ⟨rfl, hb⟩
    have HB3 : Hid (Below w.heap.size w w3) := Lib.hid (HB2.out.trans ((hb).mono HB2.out.size))
    have X3 := Lib.hid (X2.out.next (hb))
    have Y3 := Lib.hid (Y2.out.next (hb))
    clear hb
    clear x0 x1 x2 x3 x4 x5 x6 x7 x8 x9 x10 x11 x12
    clear q0 q1
    have q0 : w.heap.size < w3.heap.size := X3.out.lt
    have q1 : w.heap.size + 1 < w3.heap.size := Y3.out.lt
    obtain ⟨x0, x1, x2, x3, x4, x5, x6, x7, x8, x9, x10, x11, x12⟩ := X3.out
    dsimp only at x2 x3 x4 x5 x6 x7 x8 x9 x10 x11 x12
    obtain ⟨y0, y1, y2, y3, y4, y5, y6, y7, y8, y9, y10, y11, y12⟩ := Y3.out
    dsimp only at y2 y3 y4 y5 y6 y7 y8 y9 y10 y11 y12
    go_wp2
    refine bodyPost_ret (v := .tuple #[.agg #[.int .i32 nd, .int .i32 nu, .int .u8 4, .int .i64 0, .int .i32 0, .int .i32 0, .slice none 0 0, .int .i64 beat, .int .i64 pw, .int .i32 pl, .int .i32 pg], .int .i64 0]) (by simp [results, Try.results41, go_sem, *]) rfl ⟨none, 0, rfl, RdN.nil, ?_⟩
    have hb := HB3.out
    have hbs := hb.size
    go_grown
  · have q0 : w.heap.size < w1.heap.size := X1.out.lt
    have q1 : w.heap.size + 1 < w1.heap.size := Y1.out.lt
    subst hve
    subst hst
    have RDN := Lib.hid (rd_new8a w1 3 25)
    obtain ⟨x0, x1, x2, x3, x4, x5, x6, x7, x8, x9, x10, x11, x12⟩ := X1.out
    dsimp only at x2 x3 x4 x5 x6 x7 x8 x9 x10 x11 x12
    go_wp2_with fail
    refine (HREF.out _ 1 1 _ rfl _ RDN.out (by simp)).mono ?_
    rintro e w2 ⟨rfl, hb⟩
    have hb := ((Below.refl w1.heap.size w1).alloc (Nat.le_refl _) _).trans (hb.mono (by simp))
    have HB2 : Hid (Below w.heap.size w w2) := Lib.hid (HB1.out.trans ((hb).mono HB1.out.size))
    have X2 := Lib.hid (X1.out.next (hb))
    have Y2 := Lib.hid (Y1.out.next (hb))
    clear hb
    clear x0 x1 x2 x3 x4 x5 x6 x7 x8 x9 x10 x11 x12
    clear q0 q1
    have q0 : w.heap.size < w2.heap.size := X2.out.lt
    have q1 : w.heap.size + 1 < w2.heap.size := Y2.out.lt
    have er : refE 4 [3] = 0 := rfl
    rw [er]
    clear er RDN
    obtain ⟨x0, x1, x2, x3, x4, x5, x6, x7, x8, x9, x10, x11, x12⟩ := X2.out
    dsimp only at x2 x3 x4 x5 x6 x7 x8 x9 x10 x11 x12
    go_wp2_with fail
    refine (HOV.out _).mono ?_
    rintro e w3 ⟨rfl, hb⟩
    have HB3 : Hid (Below w.heap.size w w3) := Lib.hid (HB2.out.trans ((hb).mono HB2.out.size))
    have X3 := Lib.hid (X2.out.next (hb))
    have Y3 := Lib.hid (Y2.out.next (hb))
    clear hb
    clear x0 x1 x2 x3 x4 x5 x6 x7 x8 x9 x10 x11 x12
    clear q0 q1
    have q0 : w.heap.size < w3.heap.size := X3.out.lt
    have q1 : w.heap.size + 1 < w3.heap.size := Y3.out.lt
    obtain ⟨x0, x1, x2, x3, x4, x5, x6, x7, x8, x9, x10, x11, x12⟩ := X3.out
    dsimp only at x2 x3 x4 x5 x6 x7 x8 x9 x10 x11 x12
    obtain ⟨y0, y1, y2, y3, y4, y5, y6, y7, y8, y9, y10, y11, y12⟩ := Y3.out
    dsimp only at y2 y3 y4 y5 y6 y7 y8 y9 y10 y11 y12
    go_wp2
    refine bodyPost_ret (v := .tuple #[.agg #[.int .i32 nd, .int .i32 nu, .int .u8 4, .int .i64 0, .int .i32 0, .int .i32 0, .slice none 0 0, .int .i64 beat, .int .i64 pw, .int .i32 pl, .int .i32 pg], .int .i64 0]) (by simp [results, Try.results41, go_sem, *]) rfl ⟨none, 0, rfl, RdN.nil, ?_⟩
    have hb := HB3.out
    have hbs := hb.size
    go_grown
set_option maxHeartbeats 3200000 in
theorem kill_any (r : Rec) (hl : fit r) (B : Nat) (w : World) (hr : Rd w B r.A (sv r.l)) (hB : B ≤ w.heap.size) (hn : r.n * 16 ≤ 140737488355328) :
    Calls Try.prog 40 #[r.v] w (OutR (killO r) (killE r) w) := by
  have hc := kill_cases r
  have nb := chkR_st' (r := r)
  have h1 := fun W (h : Below w.heap.size w W) => reccheck_any r hl B W (hr.below (h.mono hB)) (Nat.le_trans hB h.size)
  have HREF := Lib.hid (fun A n c B (hl : 2 = n) W (h : Rd W B A (iv [3, 2])) hB => refused_any r A n c B [3, 2] hl (by omega) W h hB)
  have ho := fun W => over_any r W
  generalize killE r = E at *
  generalize killO r = O at *
  generalize hve : chkR r = ve at *
  have HST := Lib.hid nb
  clear nb hve hl hr hn
  obtain ⟨nd, nu, st, ⟨aw, al, ag⟩, A, n, c, l, beat, ⟨pw, pl, pg⟩⟩ := r

  have HOV : Hid (∀ W, Calls _ _ _ W (fun e w' => e = .returned (.agg #[.int .i32 nd, .int .i32 nu, .int .u8 4, .int .i64 0, .int .i32 0, .int .i32 0, .slice none 0 0, .int .i64 beat, .int .i64 pw, .int .i32 pl, .int .i32 pg]) ∧ Below W.heap.size W w')) := Lib.hid ho
  clear ho
  simp only at HST hc h1 ⊢
  have HC := Lib.hid hc; clear hc
  have H1 := Lib.hid h1; clear h1
  unfold Rec.v at *

  simp only at H1 ⊢
  go_enter Try.func40, Try.ntmps40
  go_wp2_with fail
  refine (H1.out _ (by go_grown)).mono ?_
  rintro e w1 ⟨rfl, hb⟩
  have HB1 : Hid (Below w.heap.size w w1) := Below.go (by go_grown) hb (by go_size)
  have X1 := Lib.hid (((BxQ.new w ⟨nd, nu, st, ⟨aw, al, ag⟩, A, n, c, l, beat, ⟨pw, pl, pg⟩⟩ 30).alloc _).next hb)
  have Y1 := Lib.hid ((BxQ.new (w.alloc (.cells #[.int .i32 nd, .int .i32 nu, .int .u8 st, .int .i64 aw, .int .i32 al, .int .i32 ag, .slice A n c, .int .i64 beat, .int .i64 pw, .int .i32 pl, .int .i32 pg] 30)) ⟨0, 0, 0, ⟨0, 0, 0⟩, none, 0, 0, [], 0, ⟨0, 0, 0⟩⟩ 30).next hb)
  rw [World.size_alloc] at Y1
  clear hb H1
  rcases HC.out with ⟨hve, rfl, rfl⟩ | ⟨hve, hst, rfl, rfl⟩ | ⟨hve, hst, rfl, rfl⟩ | ⟨hve, hst, rfl, rfl⟩ | ⟨hve, hst, rfl, rfl⟩
  all_goals clear HC
  · have q0 : w.heap.size < w1.heap.size := X1.out.lt
    have q1 : w.heap.size + 1 < w1.heap.size := Y1.out.lt
    have hne : (E == 0) = false := by simpa using hve
    have hne2 : (E != 0) = true := by rw [bne, hne]; rfl
    obtain ⟨x0, x1, x2, x3, x4, x5, x6, x7, x8, x9, x10, x11, x12⟩ := X1.out
    dsimp only at x2 x3 x4 x5 x6 x7 x8 x9 x10 x11 x12
    obtain ⟨y0, y1, y2, y3, y4, y5, y6, y7, y8, y9, y10, y11, y12⟩ := Y1.out
    dsimp only at y2 y3 y4 y5 y6 y7 y8 y9 y10 y11 y12
    go_wp2
    refine bodyPost_ret (v := .tuple #[.agg #[.int .i32 0, .int .i32 0, .int .u8 0, .int .i64 0, .int .i32 0, .int .i32 0, .slice none 0 0, .int .i64 0, .int .i64 0, .int .i32 0, .int .i32 0], .int .i64 E]) (by simp [results, Try.results40, go_sem, *]) rfl ⟨none, 0, rfl, RdN.nil, ?_⟩
    have hb := HB1.out
    have hbs := hb.size
    go_grown
  · have q0 : w.heap.size < w1.heap.size := X1.out.lt
    have q1 : w.heap.size + 1 < w1.heap.size := Y1.out.lt
    subst hve
    subst hst
    have RDN := Lib.hid (rd_new8 w1 3 2 25)
    obtain ⟨x0, x1, x2, x3, x4, x5, x6, x7, x8, x9, x10, x11, x12⟩ := X1.out
    dsimp only at x2 x3 x4 x5 x6 x7 x8 x9 x10 x11 x12
    go_wp2_with fail
    refine (HREF.out _ 2 2 _ rfl _ RDN.out (by simp)).mono ?_
    rintro e w2 ⟨rfl, hb⟩
    have hb := ((Below.refl w1.heap.size w1).alloc (Nat.le_refl _) _).trans (hb.mono (by simp))
    have HB2 : Hid (Below w.heap.size w w2) := Lib.hid (HB1.out.trans ((hb).mono HB1.out.size))
    have X2 := Lib.hid (X1.out.next (hb))
    have Y2 := Lib.hid (Y1.out.next (hb))
    clear hb
    clear x0 x1 x2 x3 x4 x5 x6 x7 x8 x9 x10 x11 x12
    clear q0 q1
    have q0 : w.heap.size < w2.heap.size := X2.out.lt
    have q1 : w.heap.size + 1 < w2.heap.size := Y2.out.lt
    have er : refE 3 [3, 2] = 320 := rfl
    rw [er]
    clear er RDN
    obtain ⟨x0, x1, x2, x3, x4, x5, x6, x7, x8, x9, x10, x11, x12⟩ := X2.out
    dsimp only at x2 x3 x4 x5 x6 x7 x8 x9 x10 x11 x12
    obtain ⟨y0, y1, y2, y3, y4, y5, y6, y7, y8, y9, y10, y11, y12⟩ := Y2.out
    dsimp only at y2 y3 y4 y5 y6 y7 y8 y9 y10 y11 y12
    go_wp2
    refine bodyPost_ret (v := .tuple #[.agg #[.int .i32 0, .int .i32 0, .int .u8 0, .int .i64 0, .int .i32 0, .int .i32 0, .slice none 0 0, .int .i64 0, .int .i64 0, .int .i32 0, .int .i32 0], .int .i64 320]) (by simp [results, Try.results40, go_sem, *]) rfl ⟨none, 0, rfl, RdN.nil, ?_⟩
    have hb := HB2.out
    have hbs := hb.size
    go_grown
  · have q0 : w.heap.size < w1.heap.size := X1.out.lt
    have q1 : w.heap.size + 1 < w1.heap.size := Y1.out.lt
    subst hve
    subst hst
    have RDN := Lib.hid (rd_new8 w1 3 2 25)
    obtain ⟨x0, x1, x2, x3, x4, x5, x6, x7, x8, x9, x10, x11, x12⟩ := X1.out
    dsimp only at x2 x3 x4 x5 x6 x7 x8 x9 x10 x11 x12
    go_wp2_with fail
    refine (HREF.out _ 2 2 _ rfl _ RDN.out (by simp)).mono ?_
    rintro e w2 ⟨rfl, hb⟩
    have hb := ((Below.refl w1.heap.size w1).alloc (Nat.le_refl _) _).trans (hb.mono (by simp))
    have HB2 : Hid (Below w.heap.size w w2) := Lib.hid (HB1.out.trans ((hb).mono HB1.out.size))
    have X2 := Lib.hid (X1.out.next (hb))
    have Y2 := Lib.hid (Y1.out.next (hb))
    clear hb
    clear x0 x1 x2 x3 x4 x5 x6 x7 x8 x9 x10 x11 x12
    clear q0 q1
    have q0 : w.heap.size < w2.heap.size := X2.out.lt
    have q1 : w.heap.size + 1 < w2.heap.size := Y2.out.lt
    have er : refE 2 [3, 2] = 321 := rfl
    rw [er]
    clear er RDN
    obtain ⟨x0, x1, x2, x3, x4, x5, x6, x7, x8, x9, x10, x11, x12⟩ := X2.out
    dsimp only at x2 x3 x4 x5 x6 x7 x8 x9 x10 x11 x12
    obtain ⟨y0, y1, y2, y3, y4, y5, y6, y7, y8, y9, y10, y11, y12⟩ := Y2.out
    dsimp only at y2 y3 y4 y5 y6 y7 y8 y9 y10 y11 y12
    go_wp2
    refine bodyPost_ret (v := .tuple #[.agg #[.int .i32 0, .int .i32 0, .int .u8 0, .int .i64 0, .int .i32 0, .int .i32 0, .slice none 0 0, .int .i64 0, .int .i64 0, .int .i32 0, .int .i32 0], .int .i64 321]) (by simp [results, Try.results40, go_sem, *]) rfl ⟨none, 0, rfl, RdN.nil, ?_⟩
    have hb := HB2.out
    have hbs := hb.size
    go_grown
  · have q0 : w.heap.size < w1.heap.size := X1.out.lt
    have q1 : w.heap.size + 1 < w1.heap.size := Y1.out.lt
    subst hve
    subst hst
    have RDN := Lib.hid (rd_new8 w1 3 2 25)
    obtain ⟨x0, x1, x2, x3, x4, x5, x6, x7, x8, x9, x10, x11, x12⟩ := X1.out
    dsimp only at x2 x3 x4 x5 x6 x7 x8 x9 x10 x11 x12
    go_wp2_with fail
    refine (HREF.out _ 2 2 _ rfl _ RDN.out (by simp)).mono ?_
    rintro e w2 ⟨rfl, hb⟩
    have hb := ((Below.refl w1.heap.size w1).alloc (Nat.le_refl _) _).trans (hb.mono (by simp))
    have HB2 : Hid (Below w.heap.size w w2) := Lib.hid (HB1.out.trans ((hb).mono HB1.out.size))
    have X2 := Lib.hid (X1.out.next (hb))
    have Y2 := Lib.hid (Y1.out.next (hb))
    clear hb
    clear x0 x1 x2 x3 x4 x5 x6 x7 x8 x9 x10 x11 x12
    clear q0 q1
    have q0 : w.heap.size < w2.heap.size := X2.out.lt
    have q1 : w.heap.size + 1 < w2.heap.size := Y2.out.lt
    have er : refE 1 [3, 2] = 0 := rfl
    rw [er]
    clear er RDN
    obtain ⟨x0, x1, x2, x3, x4, x5, x6, x7, x8, x9, x10, x11, x12⟩ := X2.out
    dsimp only at x2 x3 x4 x5 x6 x7 x8 x9 x10 x11 x12
    go_wp2_with fail
    refine (HOV.out _).mono ?_
    rintro e w3 ⟨rfl, hb⟩
    have HB3 : Hid (Below w.heap.size w w3) := Lib.hid (HB2.out.trans ((hb).mono HB2.out.size))
    have X3 := Lib.hid (X2.out.next (hb))
    have Y3 := Lib.hid (Y2.out.next (hb))
    clear hb
    clear x0 x1 x2 x3 x4 x5 x6 x7 x8 x9 x10 x11 x12
    clear q0 q1
    have q0 : w.heap.size < w3.heap.size := X3.out.lt
    have q1 : w.heap.size + 1 < w3.heap.size := Y3.out.lt
    obtain ⟨x0, x1, x2, x3, x4, x5, x6, x7, x8, x9, x10, x11, x12⟩ := X3.out
    dsimp only at x2 x3 x4 x5 x6 x7 x8 x9 x10 x11 x12
    obtain ⟨y0, y1, y2, y3, y4, y5, y6, y7, y8, y9, y10, y11, y12⟩ := Y3.out
    dsimp only at y2 y3 y4 y5 y6 y7 y8 y9 y10 y11 y12
    go_wp2
    refine bodyPost_ret (v := .tuple #[.agg #[.int .i32 nd, .int .i32 nu, .int .u8 4, .int .i64 0, .int .i32 0, .int .i32 0, .slice none 0 0, .int .i64 beat, .int .i64 pw, .int .i32 pl, .int .i32 pg], .int .i64 0]) (by simp [results, Try.results40, go_sem, *]) rfl ⟨none, 0, rfl, RdN.nil, ?_⟩
    have hb := HB3.out
    have hbs := hb.size
    go_grown
  · have q0 : w.heap.size < w1.heap.size := X1.out.lt
    have q1 : w.heap.size + 1 < w1.heap.size := Y1.out.lt
    subst hve
    subst hst
    have RDN := Lib.hid (rd_new8 w1 3 2 25)
    obtain ⟨x0, x1, x2, x3, x4, x5, x6, x7, x8, x9, x10, x11, x12⟩ := X1.out
    dsimp only at x2 x3 x4 x5 x6 x7 x8 x9 x10 x11 x12
    go_wp2_with fail
    refine (HREF.out _ 2 2 _ rfl _ RDN.out (by simp)).mono ?_
    rintro e w2 ⟨rfl, hb⟩
    have hb := ((Below.refl w1.heap.size w1).alloc (Nat.le_refl _) _).trans (hb.mono (by simp))
    have HB2 : Hid (Below w.heap.size w w2) := Lib.hid (HB1.out.trans ((hb).mono HB1.out.size))
    have X2 := Lib.hid (X1.out.next (hb))
    have Y2 := Lib.hid (Y1.out.next (hb))
    clear hb
    clear x0 x1 x2 x3 x4 x5 x6 x7 x8 x9 x10 x11 x12
    clear q0 q1
    have q0 : w.heap.size < w2.heap.size := X2.out.lt
    have q1 : w.heap.size + 1 < w2.heap.size := Y2.out.lt
    have er : refE 4 [3, 2] = 0 := rfl
    rw [er]
    clear er RDN
    obtain ⟨x0, x1, x2, x3, x4, x5, x6, x7, x8, x9, x10, x11, x12⟩ := X2.out
    dsimp only at x2 x3 x4 x5 x6 x7 x8 x9 x10 x11 x12
    go_wp2_with fail
    refine (HOV.out _).mono ?_
    rintro e w3 ⟨rfl, hb⟩
    have HB3 : Hid (Below w.heap.size w w3) := Lib.hid (HB2.out.trans ((hb).mono HB2.out.size))
    have X3 := Lib.hid (X2.out.next (hb))
    have Y3 := Lib.hid (Y2.out.next (hb))
    clear hb
    clear x0 x1 x2 x3 x4 x5 x6 x7 x8 x9 x10 x11 x12
    clear q0 q1
    have q0 : w.heap.size < w3.heap.size := X3.out.lt
    have q1 : w.heap.size + 1 < w3.heap.size := Y3.out.lt
    obtain ⟨x0, x1, x2, x3, x4, x5, x6, x7, x8, x9, x10, x11, x12⟩ := X3.out
    dsimp only at x2 x3 x4 x5 x6 x7 x8 x9 x10 x11 x12
    obtain ⟨y0, y1, y2, y3, y4, y5, y6, y7, y8, y9, y10, y11, y12⟩ := Y3.out
    dsimp only at y2 y3 y4 y5 y6 y7 y8 y9 y10 y11 y12
    go_wp2
    refine bodyPost_ret (v := .tuple #[.agg #[.int .i32 nd, .int .i32 nu, .int .u8 4, .int .i64 0, .int .i32 0, .int .i32 0, .slice none 0 0, .int .i64 beat, .int .i64 pw, .int .i32 pl, .int .i32 pg], .int .i64 0]) (by simp [results, Try.results40, go_sem, *]) rfl ⟨none, 0, rfl, RdN.nil, ?_⟩
    have hb := HB3.out
    have hbs := hb.size
    go_grown
end Go.Proofs.Ythigmjcepbgljaa
