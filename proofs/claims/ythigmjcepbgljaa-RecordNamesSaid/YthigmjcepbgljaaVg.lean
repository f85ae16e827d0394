/- Walks: a record staged, or committed. -/
import Derived.Test.YthigmjcepbgljaaVg0
namespace Go.Proofs.Ythigmjcepbgljaa
open Go.RowKit Go.St
set_option linter.unusedVariables false
set_option linter.unusedSimpArgs false
set_option maxRecDepth 100000
set_option maxHeartbeats 3200000 in
theorem rstage_any (r : Rec) (a : Stp) (A2 : Option Addr) (n2 c2 : Nat) (l2 : List ByteArray) (wall : Int) (hl : fit r) (hl2 : l2.length = n2) (hn : n2 * 16 ≤ 140737488355328) (B : Nat) (w : World) (hr : Rd w B r.A (sv r.l)) (hr2 : Rd w B A2 (sv l2)) (hB : B ≤ w.heap.size) :
    Calls Try.prog 33 #[r.v, stv a, .slice A2 n2 c2, .int .i64 wall] w (OutR (stageO r a n2 l2 wall) (stageE r a n2 l2 wall) w) := by
  have HN := Lib.hid hn
  have hc := stage_cases r a n2 l2 wall
  have h1 := fun W (h : Below w.heap.size w W) => with_any r 2 a A2 n2 c2 l2 hl2 hn B W (hr2.below (h.mono hB)) (Nat.le_trans hB h.size)
  have h2 := fun A c W (h : Below w.heap.size w W) (hx : Rd W W.heap.size A (sv l2)) => rboth_any r ((stgR r a n2 l2 wall).to A c) hl hl2 W.heap.size W ((hr.below (h.mono hB)).more (Nat.le_trans hB h.size)) hx (Nat.le_refl _)
  have he : ∀ A c, bothE r ((stgR r a n2 l2 wall).to A c) = bothE r (stgR r a n2 l2 wall) := fun _ _ => rfl
  simp only [he] at h2
  have nb := bothE_st (r := r) (x := (stgR r a n2 l2 wall))
  have nl := hl
  generalize stageE r a n2 l2 wall = E at *
  generalize stageO r a n2 l2 wall = O at *
  generalize hve : bothE r (stgR r a n2 l2 wall) = ve at *
  unfold fit at nl
  have hn24 : ve = 0 → r.n ≤ 24 := fun h => (nb h).2
  have hst4 : ve = 0 → r.st = 1 ∨ r.st = 2 ∨ r.st = 3 ∨ r.st = 4 := fun h => (nb h).1
  have NL := Lib.hid nl; have HN24 := Lib.hid hn24; have HST := Lib.hid hst4
  have HR := Lib.hid (fun W (h : Below w.heap.size w W) => hr.below (h.mono hB)); have HR2 := Lib.hid (fun W (h : Below w.heap.size w W) => hr2.below (h.mono hB))
  have HL2 := Lib.hid hl2
  have H3 := Lib.hid (fun A n c B (hl : 2 = n) W (h : Rd W B A (iv [3, 4])) hB => refused_any r A n c B [3, 4] hl (by omega) W h hB)
  have H5 := Lib.hid (fun W => pushed_any r a W)
  have H6 := Lib.hid (fun W => hcompare_any a r.at_ W)
  have HZ := Lib.hid (cmp_neg a r.at_)
  have H7 := Lib.hid (fun W => rless_any r.pu a W)
  have H8 := Lib.hid (fun W => rless_any a r.at_ W)
  clear nb nl hn24 hst4 hve he hl hl2 hr hr2 hn
  obtain ⟨nd, nu, st, ⟨aw, al, ag⟩, A, n, c, l, beat, ⟨pw, pl, pg⟩⟩ := r
  obtain ⟨mw, ml, mg⟩ := a
  have H1 : Hid (∀ W, Below w.heap.size w W → Calls _ _ _ W (fun e w' => ∃ A' c', e = .returned (.agg #[.int .i32 nd, .int .i32 nu, .int .u8 2, .int .i64 mw, .int .i32 ml, .int .i32 mg, .slice A' n2 c', .int .i64 beat, .int .i64 pw, .int .i32 pl, .int .i32 pg]) ∧ RdN w' W.heap.size A' (sv l2) ∧ Below W.heap.size W w')) := Lib.hid h1
  have H2 : Hid (∀ A' c' W, Below w.heap.size w W → Rd W W.heap.size A' (sv l2) → Calls Try.prog _ #[.agg #[.int .i32 nd, .int .i32 nu, .int .u8 st, .int .i64 aw, .int .i32 al, .int .i32 ag, .slice A n c, .int .i64 beat, .int .i64 pw, .int .i32 pl, .int .i32 pg], .agg #[.int .i32 nd, .int .i32 nu, .int .u8 2, .int .i64 mw, .int .i32 ml, .int .i32 mg, .slice A' n2 c', .int .i64 wall, .int .i64 pw, .int .i32 pl, .int .i32 pg]] W (fun e w' => e = .returned (.int .i64 ve) ∧ Below W.heap.size W w')) := Lib.hid h2
  clear h1 h2
  unfold Rec.v stv at *
  simp only at H3 H5 H6 HZ H7 H8 HR NL HN24 HST hc ⊢
  have HC := Lib.hid hc; clear hc
  go_enter Try.func33, Try.ntmps33
  go_wp2_with fail
  refine (H1.out _ (by go_grown)).mono ?_
  rintro e w1 ⟨A', c', rfl, hrn, hb⟩
  have HRN : Hid (RdN w1 (w.heap.size + 1 + 1 + 1) A' (sv l2)) := Lib.hid (hrn.mono (by simp))
  have HB1 : Hid (Below w.heap.size w w1) := Below.go (by go_grown) hb (by go_size)
  have X1 := Lib.hid ((((BxQ.new w ⟨nd, nu, st, ⟨aw, al, ag⟩, A, n, c, l, beat, ⟨pw, pl, pg⟩⟩ 30).alloc _).alloc _).next hb)
  have S1 := Lib.hid ((((BxS.new (w.alloc (.cells #[.int .i32 nd, .int .i32 nu, .int .u8 st, .int .i64 aw, .int .i32 al, .int .i32 ag, .slice A n c, .int .i64 beat, .int .i64 pw, .int .i32 pl, .int .i32 pg] 30)) ⟨mw, ml, mg⟩ 27)).alloc _).next hb)
  have Y1 := Lib.hid ((BxQ.new ((w.alloc (.cells #[.int .i32 nd, .int .i32 nu, .int .u8 st, .int .i64 aw, .int .i32 al, .int .i32 ag, .slice A n c, .int .i64 beat, .int .i64 pw, .int .i32 pl, .int .i32 pg] 30)).alloc (.cells #[.int .i64 mw, .int .i32 ml, .int .i32 mg] 27)) ⟨0, 0, 0, ⟨0, 0, 0⟩, none, 0, 0, [], 0, ⟨0, 0, 0⟩⟩ 30).next hb)
  rw [World.size_alloc] at S1
  rw [World.size_alloc, World.size_alloc] at Y1
  have hz : w.heap.size + 1 + 1 < w1.heap.size := Y1.out.lt
  clear hb hrn
  have L2 : Hid (Below w1.heap.size w1 (w1.alloc (.cells #[.int .i32 nd, .int .i32 nu, .int .u8 2, .int .i64 mw, .int .i32 ml, .int .i32 mg, .slice A' n2 c', .int .i64 wall, .int .i64 pw, .int .i32 pl, .int .i32 pg] 30))) := Lib.hid ((Below.refl w1.heap.size w1).alloc (Nat.le_refl _) _)
  have K2 := Lib.hid (BxQ.new w1 ⟨nd, nu, 2, ⟨mw, ml, mg⟩, A', n2, c', l2, wall, ⟨pw, pl, pg⟩⟩ 30)
  dsimp only at K2
  have z0 : w.heap.size < w1.heap.size := by omega
  have z1 : w.heap.size + 1 < w1.heap.size := by omega
  obtain ⟨x0, x1, x2, x3, x4, x5, x6, x7, x8, x9, x10, x11, x12⟩ := X1.out
  dsimp only at x2 x3 x4 x5 x6 x7 x8 x9 x10 x11 x12
  go_wp2_with fail
  have HB2 := Lib.hid (HB1.out.trans (L2.out.mono HB1.out.size))
  have HRN2 := Lib.hid (HRN.out.next L2.out)
  have X2 := Lib.hid (X1.out.next L2.out)
  have Y2 := Lib.hid (Y1.out.next L2.out)
  have S2 := Lib.hid (S1.out.next L2.out)
  have hz2 : w1.heap.size < (w1.alloc (.cells #[.int .i32 nd, .int .i32 nu, .int .u8 2, .int .i64 mw, .int .i32 ml, .int .i32 mg, .slice A' n2 c', .int .i64 wall, .int .i64 pw, .int .i32 pl, .int .i32 pg] 30)).heap.size := by simp
  clear x0 x1 x2 x3 x4 x5 x6 x7 x8 x9 x10 x11 x12 X1 Y1 S1 HRN L2 HB1
  generalize hw2 : (w1.alloc (.cells #[.int .i32 nd, .int .i32 nu, .int .u8 2, .int .i64 mw, .int .i32 ml, .int .i32 mg, .slice A' n2 c', .int .i64 wall, .int .i64 pw, .int .i32 pl, .int .i32 pg] 30)) = w2 at *
  clear hw2
  refine (H2.out _ _ _ HB2.out HRN2.out.rd).mono ?_
  rintro e w3 ⟨rfl, hb⟩
  have HB3 : Hid (Below w.heap.size w w3) := Lib.hid (HB2.out.trans (hb.mono HB2.out.size))
  have HRN3 := Lib.hid (HRN2.out.next hb)
  have X3 := Lib.hid (X2.out.next hb)
  have Y3 := Lib.hid (Y2.out.next hb)
  have S3 := Lib.hid (S2.out.next hb)
  have K3 := Lib.hid (K2.out.next hb)
  generalize hbx : w1.heap.size = bx at *
  have z3 : bx < w3.heap.size := K3.out.lt
  clear hb X2 Y2 S2 K2 HRN2 HB2 H1 H2 hz2 hbx
  rcases HC.out with ⟨hve, rfl, rfl⟩ | ⟨hve, hst, rfl, rfl⟩ | ⟨hve, hst, rfl, rfl⟩ | ⟨hve, hst, hat, rfl, rfl⟩ | ⟨hve, hst, hat, hq, rfl, rfl⟩ | ⟨hve, hst, hat, hq, rfl, rfl⟩ | ⟨hve, hst, hls, rfl, rfl⟩ | ⟨hve, hst, hls, rfl, rfl⟩
  all_goals clear HC
  · have hne : (E == 0) = false := by simpa using hve
    have hne2 : (E != 0) = true := by rw [bne, hne]; rfl
    have q0 : w.heap.size < w3.heap.size := X3.out.lt
    have q1 : w.heap.size + 1 < w3.heap.size := S3.out.lt
    have q2 : w.heap.size + 1 + 1 < w3.heap.size := Y3.out.lt
    obtain ⟨y0, y1, y2, y3, y4, y5, y6, y7, y8, y9, y10, y11, y12⟩ := Y3.out
    dsimp only at y2 y3 y4 y5 y6 y7 y8 y9 y10 y11 y12
    go_wp2
    refine bodyPost_ret (v := .tuple #[.agg #[.int .i32 0, .int .i32 0, .int .u8 0, .int .i64 0, .int .i32 0, .int .i32 0, .slice none 0 0, .int .i64 0, .int .i64 0, .int .i32 0, .int .i32 0], .int .i64 E]) (by simp [results, Try.results33, go_sem, *]) rfl ⟨none, 0, rfl, RdN.nil, ?_⟩
    have hb := HB3.out
    have hbs := hb.size
    go_grown
  · subst hve
    subst hst
    have q0 : w.heap.size < w3.heap.size := X3.out.lt
    have q1 : w.heap.size + 1 < w3.heap.size := S3.out.lt
    have q2 : w.heap.size + 1 + 1 < w3.heap.size := Y3.out.lt
    obtain ⟨x0, x1, x2, x3, x4, x5, x6, x7, x8, x9, x10, x11, x12⟩ := X3.out
    dsimp only at x2 x3 x4 x5 x6 x7 x8 x9 x10 x11 x12
    obtain ⟨s0, s1, s2, s3, s4⟩ := S3.out
    dsimp only at s2 s3 s4
    obtain ⟨y0, y1, y2, y3, y4, y5, y6, y7, y8, y9, y10, y11, y12⟩ := Y3.out
    dsimp only at y2 y3 y4 y5 y6 y7 y8 y9 y10 y11 y12
    go_wp2
    refine bodyPost_ret (v := .tuple #[.agg #[.int .i32 0, .int .i32 0, .int .u8 0, .int .i64 0, .int .i32 0, .int .i32 0, .slice none 0 0, .int .i64 0, .int .i64 0, .int .i32 0, .int .i32 0], .int .i64 320]) (by simp [results, Try.results33, go_sem, *]) rfl ⟨none, 0, rfl, RdN.nil, ?_⟩
    have hb := HB3.out
    have hbs := hb.size
    go_grown
  · subst hve
    subst hst
    have q0 : w.heap.size < w3.heap.size := X3.out.lt
    have q1 : w.heap.size + 1 < w3.heap.size := S3.out.lt
    have q2 : w.heap.size + 1 + 1 < w3.heap.size := Y3.out.lt
    obtain ⟨x0, x1, x2, x3, x4, x5, x6, x7, x8, x9, x10, x11, x12⟩ := X3.out
    dsimp only at x2 x3 x4 x5 x6 x7 x8 x9 x10 x11 x12
    obtain ⟨s0, s1, s2, s3, s4⟩ := S3.out
    dsimp only at s2 s3 s4
    obtain ⟨y0, y1, y2, y3, y4, y5, y6, y7, y8, y9, y10, y11, y12⟩ := Y3.out
    dsimp only at y2 y3 y4 y5 y6 y7 y8 y9 y10 y11 y12
    go_wp2
    refine bodyPost_ret (v := .tuple #[.agg #[.int .i32 0, .int .i32 0, .int .u8 0, .int .i64 0, .int .i32 0, .int .i32 0, .slice none 0 0, .int .i64 0, .int .i64 0, .int .i32 0, .int .i32 0], .int .i64 14]) (by simp [results, Try.results33, go_sem, *]) rfl ⟨none, 0, rfl, RdN.nil, ?_⟩
    have hb := HB3.out
    have hbs := hb.size
    go_grown
  · subst hve
    subst hst
    have q0 : w.heap.size < w3.heap.size := X3.out.lt
    have q1 : w.heap.size + 1 < w3.heap.size := S3.out.lt
    have q2 : w.heap.size + 1 + 1 < w3.heap.size := Y3.out.lt
    obtain ⟨x0, x1, x2, x3, x4, x5, x6, x7, x8, x9, x10, x11, x12⟩ := X3.out
    dsimp only at x2 x3 x4 x5 x6 x7 x8 x9 x10 x11 x12
    obtain ⟨s0, s1, s2, s3, s4⟩ := S3.out
    dsimp only at s2 s3 s4
    obtain ⟨y0, y1, y2, y3, y4, y5, y6, y7, y8, y9, y10, y11, y12⟩ := Y3.out
    dsimp only at y2 y3 y4 y5 y6 y7 y8 y9 y10 y11 y12
    have hat : ¬ (aw = mw ∧ al = ml ∧ ag = mg) := fun h => hat (by obtain ⟨rfl, rfl, rfl⟩ := h; rfl)
    by_cases e1 : aw = mw
    · by_cases e2 : al = ml
      · have e3 : ag ≠ mg := fun h => hat ⟨e1, e2, h⟩
        subst e1 e2
        have zb : (ag == mg) = false := by simpa using e3
        clear hat e3
        go_wp2
        refine bodyPost_ret (v := .tuple #[.agg #[.int .i32 0, .int .i32 0, .int .u8 0, .int .i64 0, .int .i32 0, .int .i32 0, .slice none 0 0, .int .i64 0, .int .i64 0, .int .i32 0, .int .i32 0], .int .i64 10]) (by simp [results, Try.results33, go_sem, *]) rfl ⟨none, 0, rfl, RdN.nil, ?_⟩
        have hb := HB3.out
        have hbs := hb.size
        go_grown
      · subst e1
        have zb : (al == ml) = false := by simpa using e2
        clear hat e2
        go_wp2
        refine bodyPost_ret (v := .tuple #[.agg #[.int .i32 0, .int .i32 0, .int .u8 0, .int .i64 0, .int .i32 0, .int .i32 0, .slice none 0 0, .int .i64 0, .int .i64 0, .int .i32 0, .int .i32 0], .int .i64 10]) (by simp [results, Try.results33, go_sem, *]) rfl ⟨none, 0, rfl, RdN.nil, ?_⟩
        have hb := HB3.out
        have hbs := hb.size
        go_grown
    · have zb : (aw == mw) = false := by simpa using e1
      clear hat e1
      go_wp2
      refine bodyPost_ret (v := .tuple #[.agg #[.int .i32 0, .int .i32 0, .int .u8 0, .int .i64 0, .int .i32 0, .int .i32 0, .slice none 0 0, .int .i64 0, .int .i64 0, .int .i32 0, .int .i32 0], .int .i64 10]) (by simp [results, Try.results33, go_sem, *]) rfl ⟨none, 0, rfl, RdN.nil, ?_⟩
      have hb := HB3.out
      have hbs := hb.size
      go_grown
  · subst hve
    subst hst
    obtain ⟨rfl, rfl, rfl⟩ : aw = mw ∧ al = ml ∧ ag = mg := by simpa using hat
    clear hat
    have q0 : w.heap.size < w3.heap.size := X3.out.lt
    have q1 : w.heap.size + 1 < w3.heap.size := S3.out.lt
    have q2 : w.heap.size + 1 + 1 < w3.heap.size := Y3.out.lt
    obtain ⟨x0, x1, x2, x3, x4, x5, x6, x7, x8, x9, x10, x11, x12⟩ := X3.out
    dsimp only at x2 x3 x4 x5 x6 x7 x8 x9 x10 x11 x12
    obtain ⟨s0, s1, s2, s3, s4⟩ := S3.out
    dsimp only at s2 s3 s4
    have HQ := Lib.hid (fun W (h : Below w.heap.size w W) => rsames_any A A2 n n2 c c2 B B l l2 NL.out HL2.out (by have := HN24.out (by first | rfl | trivial); omega) W (HR.out W h) (HR2.out W h))
    simp only [hq] at HQ
    clear hq
    go_wp2_with fail
    refine (HQ.out _ HB3.out).mono ?_
    rintro e w4 ⟨rfl, m, hw4⟩
    have hb : Below w3.heap.size w3 w4 := by rw [hw4]; exact bel_dn (Below.refl _ _) m
    clear hw4
    have HB4 : Hid (Below w.heap.size w w4) := Lib.hid (HB3.out.trans ((hb).mono HB3.out.size))
    have HRN4 := Lib.hid (HRN3.out.next (hb))
    have X4 := Lib.hid (X3.out.next (hb))
    have Y4 := Lib.hid (Y3.out.next (hb))
    have S4 := Lib.hid (S3.out.next (hb))
    have K4 := Lib.hid (K3.out.next (hb))
    clear hb HQ
    clear x0 x1 x2 x3 x4 x5 x6 x7 x8 x9 x10 x11 x12
    clear s0 s1 s2 s3 s4
    clear q0 q1 q2
    have q0 : w.heap.size < w4.heap.size := X4.out.lt
    have q1 : w.heap.size + 1 < w4.heap.size := S4.out.lt
    have q2 : w.heap.size + 1 + 1 < w4.heap.size := Y4.out.lt
    obtain ⟨x0, x1, x2, x3, x4, x5, x6, x7, x8, x9, x10, x11, x12⟩ := X4.out
    dsimp only at x2 x3 x4 x5 x6 x7 x8 x9 x10 x11 x12
    obtain ⟨s0, s1, s2, s3, s4⟩ := S4.out
    dsimp only at s2 s3 s4
    obtain ⟨y0, y1, y2, y3, y4, y5, y6, y7, y8, y9, y10, y11, y12⟩ := Y4.out
    dsimp only at y2 y3 y4 y5 y6 y7 y8 y9 y10 y11 y12
    go_wp2
    refine bodyPost_ret (v := .tuple #[.agg #[.int .i32 0, .int .i32 0, .int .u8 0, .int .i64 0, .int .i32 0, .int .i32 0, .slice none 0 0, .int .i64 0, .int .i64 0, .int .i32 0, .int .i32 0], .int .i64 10]) (by simp [results, Try.results33, go_sem, *]) rfl ⟨none, 0, rfl, RdN.nil, ?_⟩
    have hb := HB4.out
    have hbs := hb.size
    go_grown
  · subst hve
    subst hst
    obtain ⟨rfl, rfl, rfl⟩ : aw = mw ∧ al = ml ∧ ag = mg := by simpa using hat
    clear hat
    have q0 : w.heap.size < w3.heap.size := X3.out.lt
    have q1 : w.heap.size + 1 < w3.heap.size := S3.out.lt
    have q2 : w.heap.size + 1 + 1 < w3.heap.size := Y3.out.lt
    obtain ⟨x0, x1, x2, x3, x4, x5, x6, x7, x8, x9, x10, x11, x12⟩ := X3.out
    dsimp only at x2 x3 x4 x5 x6 x7 x8 x9 x10 x11 x12
    obtain ⟨s0, s1, s2, s3, s4⟩ := S3.out
    dsimp only at s2 s3 s4
    have HQ := Lib.hid (fun W (h : Below w.heap.size w W) => rsames_any A A2 n n2 c c2 B B l l2 NL.out HL2.out (by have := HN24.out (by first | rfl | trivial); omega) W (HR.out W h) (HR2.out W h))
    simp only [hq] at HQ
    clear hq
    go_wp2_with fail
    refine (HQ.out _ HB3.out).mono ?_
    rintro e w4 ⟨rfl, m, hw4⟩
    have hb : Below w3.heap.size w3 w4 := by rw [hw4]; exact bel_dn (Below.refl _ _) m
    clear hw4
    have HB4 : Hid (Below w.heap.size w w4) := Lib.hid (HB3.out.trans ((hb).mono HB3.out.size))
    have HRN4 := Lib.hid (HRN3.out.next (hb))
    have X4 := Lib.hid (X3.out.next (hb))
    have Y4 := Lib.hid (Y3.out.next (hb))
    have S4 := Lib.hid (S3.out.next (hb))
    have K4 := Lib.hid (K3.out.next (hb))
    clear hb HQ
    clear x0 x1 x2 x3 x4 x5 x6 x7 x8 x9 x10 x11 x12
    clear s0 s1 s2 s3 s4
    clear q0 q1 q2
    have q0 : w.heap.size < w4.heap.size := X4.out.lt
    have q1 : w.heap.size + 1 < w4.heap.size := S4.out.lt
    have q2 : w.heap.size + 1 + 1 < w4.heap.size := Y4.out.lt
    obtain ⟨x0, x1, x2, x3, x4, x5, x6, x7, x8, x9, x10, x11, x12⟩ := X4.out
    dsimp only at x2 x3 x4 x5 x6 x7 x8 x9 x10 x11 x12
    obtain ⟨s0, s1, s2, s3, s4⟩ := S4.out
    dsimp only at s2 s3 s4
    obtain ⟨y0, y1, y2, y3, y4, y5, y6, y7, y8, y9, y10, y11, y12⟩ := Y4.out
    dsimp only at y2 y3 y4 y5 y6 y7 y8 y9 y10 y11 y12
    obtain ⟨k0, k1, k2, k3, k4, k5, k6, k7, k8, k9, k10, k11, k12⟩ := K4.out
    dsimp only at k2 k3 k4 k5 k6 k7 k8 k9 k10 k11 k12
    have far0 := far_store (p := w.heap.size + 1 + 1) (q := bx) (by omega)
    go_wp2
    refine bodyPost_ret (v := .tuple #[.agg #[.int .i32 nd, .int .i32 nu, .int .u8 2, .int .i64 aw, .int .i32 al, .int .i32 ag, .slice A' n2 c', .int .i64 wall, .int .i64 pw, .int .i32 pl, .int .i32 pg], .int .i64 0]) (by simp [results, Try.results33, go_sem, *]) rfl ⟨A', c', rfl, ?_, ?_⟩
    · show RdN _ _ A' (sv l2)
      refine RdN.mono (B := w.heap.size + 1 + 1 + 1) ?_ (by omega)
      have HRN := HRN4
      repeat (with_reducible (first | exact HRN.out | refine RdN.set ?_ (by first | (simp; done) | (simp; omega) | omega) _ | refine RdN.alloc ?_ _))
    · have hb := HB4.out
      have hbs := hb.size
      go_grown
  · subst hve
    subst hst
    have q0 : w.heap.size < w3.heap.size := X3.out.lt
    have q1 : w.heap.size + 1 < w3.heap.size := S3.out.lt
    have q2 : w.heap.size + 1 + 1 < w3.heap.size := Y3.out.lt
    simp only [hls] at H7
    clear hls
    obtain ⟨x0, x1, x2, x3, x4, x5, x6, x7, x8, x9, x10, x11, x12⟩ := X3.out
    dsimp only at x2 x3 x4 x5 x6 x7 x8 x9 x10 x11 x12
    obtain ⟨s0, s1, s2, s3, s4⟩ := S3.out
    dsimp only at s2 s3 s4
    go_wp2_with fail
    refine (H7.out _).mono ?_
    rintro e w4 ⟨rfl, hb⟩
    have HB4 : Hid (Below w.heap.size w w4) := Lib.hid (HB3.out.trans ((hb).mono HB3.out.size))
    have HRN4 := Lib.hid (HRN3.out.next (hb))
    have X4 := Lib.hid (X3.out.next (hb))
    have Y4 := Lib.hid (Y3.out.next (hb))
    have S4 := Lib.hid (S3.out.next (hb))
    have K4 := Lib.hid (K3.out.next (hb))
    clear hb
    clear x0 x1 x2 x3 x4 x5 x6 x7 x8 x9 x10 x11 x12
    clear s0 s1 s2 s3 s4
    clear q0 q1 q2
    have q0 : w.heap.size < w4.heap.size := X4.out.lt
    have q1 : w.heap.size + 1 < w4.heap.size := S4.out.lt
    have q2 : w.heap.size + 1 + 1 < w4.heap.size := Y4.out.lt
    obtain ⟨x0, x1, x2, x3, x4, x5, x6, x7, x8, x9, x10, x11, x12⟩ := X4.out
    dsimp only at x2 x3 x4 x5 x6 x7 x8 x9 x10 x11 x12
    obtain ⟨s0, s1, s2, s3, s4⟩ := S4.out
    dsimp only at s2 s3 s4
    obtain ⟨y0, y1, y2, y3, y4, y5, y6, y7, y8, y9, y10, y11, y12⟩ := Y4.out
    dsimp only at y2 y3 y4 y5 y6 y7 y8 y9 y10 y11 y12
    go_wp2
    refine bodyPost_ret (v := .tuple #[.agg #[.int .i32 0, .int .i32 0, .int .u8 0, .int .i64 0, .int .i32 0, .int .i32 0, .slice none 0 0, .int .i64 0, .int .i64 0, .int .i32 0, .int .i32 0], .int .i64 322]) (by simp [results, Try.results33, go_sem, *]) rfl ⟨none, 0, rfl, RdN.nil, ?_⟩
    have hb := HB4.out
    have hbs := hb.size
    go_grown
  · subst hve
    subst hst
    have q0 : w.heap.size < w3.heap.size := X3.out.lt
    have q1 : w.heap.size + 1 < w3.heap.size := S3.out.lt
    have q2 : w.heap.size + 1 + 1 < w3.heap.size := Y3.out.lt
    simp only [hls] at H7
    clear hls
    obtain ⟨x0, x1, x2, x3, x4, x5, x6, x7, x8, x9, x10, x11, x12⟩ := X3.out
    dsimp only at x2 x3 x4 x5 x6 x7 x8 x9 x10 x11 x12
    obtain ⟨s0, s1, s2, s3, s4⟩ := S3.out
    dsimp only at s2 s3 s4
    go_wp2_with fail
    refine (H7.out _).mono ?_
    rintro e w4 ⟨rfl, hb⟩
    have HB4 : Hid (Below w.heap.size w w4) := Lib.hid (HB3.out.trans ((hb).mono HB3.out.size))
    have HRN4 := Lib.hid (HRN3.out.next (hb))
    have X4 := Lib.hid (X3.out.next (hb))
    have Y4 := Lib.hid (Y3.out.next (hb))
    have S4 := Lib.hid (S3.out.next (hb))
    have K4 := Lib.hid (K3.out.next (hb))
    clear hb
    clear x0 x1 x2 x3 x4 x5 x6 x7 x8 x9 x10 x11 x12
    clear s0 s1 s2 s3 s4
    clear q0 q1 q2
    have q0 : w.heap.size < w4.heap.size := X4.out.lt
    have q1 : w.heap.size + 1 < w4.heap.size := S4.out.lt
    have q2 : w.heap.size + 1 + 1 < w4.heap.size := Y4.out.lt
    obtain ⟨x0, x1, x2, x3, x4, x5, x6, x7, x8, x9, x10, x11, x12⟩ := X4.out
    dsimp only at x2 x3 x4 x5 x6 x7 x8 x9 x10 x11 x12
    obtain ⟨s0, s1, s2, s3, s4⟩ := S4.out
    dsimp only at s2 s3 s4
    obtain ⟨y0, y1, y2, y3, y4, y5, y6, y7, y8, y9, y10, y11, y12⟩ := Y4.out
    dsimp only at y2 y3 y4 y5 y6 y7 y8 y9 y10 y11 y12
    obtain ⟨k0, k1, k2, k3, k4, k5, k6, k7, k8, k9, k10, k11, k12⟩ := K4.out
    dsimp only at k2 k3 k4 k5 k6 k7 k8 k9 k10 k11 k12
    have far0 := far_store (p := w.heap.size + 1 + 1) (q := bx) (by omega)
    go_wp2
    refine bodyPost_ret (v := .tuple #[.agg #[.int .i32 nd, .int .i32 nu, .int .u8 2, .int .i64 mw, .int .i32 ml, .int .i32 mg, .slice A' n2 c', .int .i64 wall, .int .i64 pw, .int .i32 pl, .int .i32 pg], .int .i64 0]) (by simp [results, Try.results33, go_sem, *]) rfl ⟨A', c', rfl, ?_, ?_⟩
    · show RdN _ _ A' (sv l2)
      refine RdN.mono (B := w.heap.size + 1 + 1 + 1) ?_ (by omega)
      have HRN := HRN4
      repeat (with_reducible (first | exact HRN.out | refine RdN.set ?_ (by first | (simp; done) | (simp; omega) | omega) _ | refine RdN.alloc ?_ _))
    · have hb := HB4.out
      have hbs := hb.size
      go_grown
end Go.Proofs.Ythigmjcepbgljaa
