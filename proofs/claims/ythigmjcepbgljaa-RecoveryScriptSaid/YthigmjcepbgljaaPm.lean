/- Walks: a record that is settled. -/
import Derived.Test.YthigmjcepbgljaaPk
import Derived.Deep.RegionWith
namespace Go.Proofs.Ythigmjcepbgljaa
open Go.RowKit Go.St
set_option linter.unusedVariables false
set_option linter.unusedSimpArgs false
set_option maxRecDepth 100000

theorem kept {W w4 : World} (hb : Below W.heap.size W w4) {p : Addr} {v : Value} (h : W.cell? p = some v) : w4.cell? p = some v := (hb.cell (World.block_lt_of_cell? _ _ h)).trans h

/-- A record's status, stamp and keys stored. -/
def set5 (W : World) (b : Nat) (s : Int) (a : Stp) (A : Option Addr) (n c : Nat) : World := ((((W.setCell ⟨b, 2, none⟩ (.int .u8 s)).setCell ⟨b, 3, none⟩ (.int .i64 a.wall)).setCell ⟨b, 4, none⟩ (.int .i32 a.logic)).setCell ⟨b, 5, none⟩ (.int .i32 a.tag)).setCell ⟨b, 6, none⟩ (.slice A n c)
theorem BxQ.set5 {W : World} {b : Nat} {r : Rec} (h : BxQ W b r) (s : Int) (a : Stp) (A : Option Addr) (n c : Nat) : BxQ (Go.Proofs.Ythigmjcepbgljaa.set5 W b s a A n c) b ⟨r.nd, r.nu, s, a, A, n, c, r.l, r.beat, r.pu⟩ := by
  obtain ⟨x0, x1, x2, x3, x4, x5, x6, x7, x8, x9, x10, x11, x12⟩ := h
  unfold Go.Proofs.Ythigmjcepbgljaa.set5
  constructor <;> first | (intro o; simp [x1]) | simp [go_sem, *]
theorem BxQ.set5o {W : World} {b : Nat} {r : Rec} (h : BxQ W b r) {b' : Nat} (hb : b' ≠ b) (s : Int) (a : Stp) (A : Option Addr) (n c : Nat) : BxQ (Go.Proofs.Ythigmjcepbgljaa.set5 W b' s a A n c) b r := by
  obtain ⟨x0, x1, x2, x3, x4, x5, x6, x7, x8, x9, x10, x11, x12⟩ := h
  unfold Go.Proofs.Ythigmjcepbgljaa.set5
  have hf := fun (W : World) (i j : Nat) (v : Value) => far_store hb W i j v
  constructor <;> first | (intro o; simp [x1]) | simp [hf, *]
theorem bel_set5 {B : Nat} {w W : World} (h : Below B w W) {b : Nat} (hb : B ≤ b) (s : Int) (a : Stp) (A : Option Addr) (n c : Nat) : Below B w (Go.Proofs.Ythigmjcepbgljaa.set5 W b s a A n c) := by
  unfold Go.Proofs.Ythigmjcepbgljaa.set5
  exact ((((h.setCell hb _).setCell hb _).setCell hb _).setCell hb _).setCell hb _

set_option maxHeartbeats 3200000 in
theorem ended_any (r : Rec) (s : Int) (a : Stp) (A2 : Option Addr) (n2 c2 : Nat) (l2 : List ByteArray) (hl : l2.length = n2) (hn : n2 ≤ 100000) (B : Nat) (w : World) (hr : Rd w B A2 (sv l2)) (hB : B ≤ w.heap.size) :
    Calls Try.prog 66 #[r.v, .int .u8 s, stv a, .slice A2 n2 c2] w fun e w' => ∃ A' c', e = .returned (Rec.v { r with st := s, at_ := a, A := A', n := n2, c := c' }) ∧ Below w.heap.size w w' := by
  have H := Lib.hid (fun W (h : Below w.heap.size w W) => clone_any A2 n2 c2 B l2 hl hn W (hr.below (h.mono hB)) (Nat.le_trans hB h.size))
  clear hr hl
  obtain ⟨nd, nu, st, ⟨aw, al, ag⟩, A, n, c, l, beat, ⟨pw, pl, pg⟩⟩ := r
  obtain ⟨mw, ml, mg⟩ := a
  unfold Rec.v stv
  simp only at H ⊢
  go_enter Try.func66, Try.ntmps66
  go_wp2
  go_region_with (go_at_call 83; refine (H.out _ (by first | assumption | (refine Below.drew ?_; go_grown; done) | (go_grown; done))).mono ?_; rintro e w4 ⟨A', c', rfl, hb4⟩; have k9 : Below w.heap.size w w4 := Below.go (by first | assumption | (refine Below.drew ?_; go_grown; done) | (go_grown; done)) hb4 (by go_size); have k9s := k9.size; have k0 := kept hb4 (p := ⟨w.heap.size + 1, 0, none⟩) (v := .int .i64 mw) (by go_simp); have k1 := kept hb4 (p := ⟨w.heap.size + 1, 1, none⟩) (v := .int .i32 ml) (by go_simp); have k2 := kept hb4 (p := ⟨w.heap.size + 1, 2, none⟩) (v := .int .i32 mg) (by go_simp); obtain ⟨hc4, hf4⟩ := bcell hb4; have z0 : w.heap.size < w4.heap.size := (by have hz4 := hb4.size; simp at hz4; omega); have z1 : w.heap.size + 1 < w4.heap.size := (by have hz4 := hb4.size; simp at hz4; omega); have z2 : w.heap.size + 1 + 1 < w4.heap.size := (by have hz4 := hb4.size; simp at hz4; omega))
  all_goals
    have X4 : BxQ w4 w.heap.size ⟨nd, nu, st, ⟨aw, al, ag⟩, A, n, c, l, beat, ⟨pw, pl, pg⟩⟩ := by
      first
        | exact ((((BxQ.new w ⟨nd, nu, st, ⟨aw, al, ag⟩, A, n, c, l, beat, ⟨pw, pl, pg⟩⟩ 30).next ((Below.refl _ _).alloc (Nat.le_refl _) _)).next ((Below.refl _ _).alloc (Nat.le_refl _) _)).next (Below.drew (Below.refl _ _))).next hb4
        | exact (((BxQ.new w ⟨nd, nu, st, ⟨aw, al, ag⟩, A, n, c, l, beat, ⟨pw, pl, pg⟩⟩ 30).next ((Below.refl _ _).alloc (Nat.le_refl _) _)).next ((Below.refl _ _).alloc (Nat.le_refl _) _)).next hb4
    have Y0 := BxQ.new ((w.alloc (.cells #[.int .i32 nd, .int .i32 nu, .int .u8 st, .int .i64 aw, .int .i32 al, .int .i32 ag, .slice A n c, .int .i64 beat, .int .i64 pw, .int .i32 pl, .int .i32 pg] 30)).alloc (.cells #[.int .i64 mw, .int .i32 ml, .int .i32 mg] 27)) ⟨0, 0, 0, ⟨0, 0, 0⟩, none, 0, 0, [], 0, ⟨0, 0, 0⟩⟩ 30
    rw [World.size_alloc, World.size_alloc] at Y0
    have Y4 : BxQ w4 (w.heap.size + 1 + 1) ⟨0, 0, 0, ⟨0, 0, 0⟩, none, 0, 0, [], 0, ⟨0, 0, 0⟩⟩ := by
      first
        | exact (Y0.next (Below.drew (Below.refl _ _))).next hb4
        | exact Y0.next hb4
    clear Y0
    have K5 := Lib.hid (bel_set5 k9 (Nat.le_refl _) s ⟨mw, ml, mg⟩ A' n2 c')
    have X5 := X4.set5 s ⟨mw, ml, mg⟩ A' n2 c'
    have Y5 := Y4.set5o (b' := w.heap.size) (by omega) s ⟨mw, ml, mg⟩ A' n2 c'
    change Exit.then _ _ _ _ (set5 w4 w.heap.size s ⟨mw, ml, mg⟩ A' n2 c')
    clear hc4 hf4 hb4 k9 k9s k0 k1 k2 z0 z1 z2 X4 Y4 H
    generalize set5 w4 w.heap.size s ⟨mw, ml, mg⟩ A' n2 c' = w5 at *
    obtain ⟨x0, x1, x2, x3, x4, x5, x6, x7, x8, x9, x10, x11, x12⟩ := X5
    obtain ⟨y0, y1, y2, y3, y4, y5, y6, y7, y8, y9, y10, y11, y12⟩ := Y5
    dsimp only at x2 x3 x4 x5 x6 x7 x8 x9 x10 x11 x12 y2 y3 y4 y5 y6 y7 y8 y9 y10 y11 y12
    go_wp2
    refine bodyPost_ret (v := .agg #[.int .i32 nd, .int .i32 nu, .int .u8 s, .int .i64 mw, .int .i32 ml, .int .i32 mg, .slice A' n2 c', .int .i64 beat, .int .i64 pw, .int .i32 pl, .int .i32 pg]) (by simp [results, Try.results66, go_sem, *]) rfl ⟨A', c', rfl, ?_⟩
    have hb := K5.out
    have hbs := hb.size
    go_grown

set_option maxHeartbeats 3200000 in
theorem settle_true (r : Rec) (hl : r.l.length = r.n) (hn : r.n ≤ 100000) (B : Nat) (hc : chkR r = 0) (h2 : r.st = 2) (w : World) (hr : Rd w B r.A (sv r.l)) (hB : B ≤ w.heap.size) :
    Calls Try.prog 27 #[r.v, stv r.at_, .bool true] w fun e w' => ∃ A' c', e = .returned (.tuple #[Rec.v { r with st := 3, A := A', c := c' }, .int .i64 0]) ∧ Below w.heap.size w w' := by
  have H1 := Lib.hid (fun W (h : Below w.heap.size w W) => by
    have := reccheck_any r hl B W (hr.below (h.mono hB)) (Nat.le_trans hB h.size)
    rw [hc] at this
    exact this)
  have H3 := Lib.hid (fun A n c B (hl : 2 = n) W (h : Rd W B A (iv [3, 4])) hB => refused_no r A n c B [3, 4] hl (by omega) (by rw [h2]; decide) W h hB)
  have H4 := Lib.hid (fun W (h : Below w.heap.size w W) => ended_any r 3 r.at_ r.A r.n r.c r.l hl hn B W (hr.below (h.mono hB)) (Nat.le_trans hB h.size))
  clear hr hl hc
  obtain ⟨nd, nu, st, ⟨aw, al, ag⟩, A, n, c, l, beat, ⟨pw, pl, pg⟩⟩ := r
  simp only at h2
  subst h2
  unfold Rec.v stv at *
  simp only at H1 H3 H4 ⊢
  go_enter Try.func27, Try.ntmps27
  go_wp2_with fail
  refine (H1.out _ (by go_grown)).mono ?_
  rintro e w1 ⟨rfl, hb⟩
  obtain ⟨hcw1, hfw1⟩ := bcell hb
  have HBw1 : Hid (Below w.heap.size w w1) := Below.go (by go_grown) hb (by go_size)
  have hzw10 : w.heap.size < w1.heap.size := by have := hb.size; (try simp at this); omega
  have hzw11 : w.heap.size + 1 < w1.heap.size := by have := hb.size; (try simp at this); omega
  have hzw12 : w.heap.size + 1 + 1 < w1.heap.size := by have := hb.size; (try simp at this); omega
  have HEw1 := Lib.hid hb
  clear hb
  have rdn := rd_new8 w1 3 4 25
  have RDN := Lib.hid rdn; clear rdn
  go_wp2_with fail
  refine (H3.out _ 2 2 _ rfl _ RDN.out (by simp)).mono ?_
  rintro e w2 ⟨rfl, hb⟩
  obtain ⟨hcw2, hfw2⟩ := bcell hb
  have HBw2 : Hid (Below w.heap.size w w2) := Below.go (by have hpre := HBw1.out; have hps := hpre.size; go_grown) hb (by have hpre := HBw1.out; have hps := hpre.size; go_size)
  have hzw20 : w.heap.size < w2.heap.size := by have := hb.size; (try simp at this); omega
  have hzw21 : w.heap.size + 1 < w2.heap.size := by have := hb.size; (try simp at this); omega
  have hzw22 : w.heap.size + 1 + 1 < w2.heap.size := by have := hb.size; (try simp at this); omega
  have HEw2 := Lib.hid hb
  clear hb
  go_wp2_with fail
  refine (H4.out _ HBw2.out).mono ?_
  rintro e w3 ⟨A', c', rfl, hb⟩
  have HBw3 : Hid (Below w.heap.size w w3) := Below.go HBw2.out hb HBw2.out.size
  have z3 : w.heap.size + 1 + 1 < w3.heap.size := by have := hb.size; omega
  have Y3 : BxQ w3 (w.heap.size + 1 + 1) ⟨0, 0, 0, ⟨0, 0, 0⟩, none, 0, 0, [], 0, ⟨0, 0, 0⟩⟩ := by
    have h := (BxQ.new ((w.alloc (.cells #[.int .i32 nd, .int .i32 nu, .int .u8 2, .int .i64 aw, .int .i32 al, .int .i32 ag, .slice A n c, .int .i64 beat, .int .i64 pw, .int .i32 pl, .int .i32 pg] 30)).alloc (.cells #[.int .i64 aw, .int .i32 al, .int .i32 ag] 27)) ⟨0, 0, 0, ⟨0, 0, 0⟩, none, 0, 0, [], 0, ⟨0, 0, 0⟩⟩ 30).next HEw1.out
    have h2 := (h.next ((Below.refl _ _).alloc (Nat.le_refl _) _)).next HEw2.out
    rw [World.size_alloc, World.size_alloc] at h2
    exact h2.next hb
  obtain ⟨y0, y1, y2, y3, y4, y5, y6, y7, y8, y9, y10, y11, y12⟩ := Y3
  dsimp only at y2 y3 y4 y5 y6 y7 y8 y9 y10 y11 y12
  clear hb H1 H3 H4 hcw1 hfw1 hcw2 hfw2
  go_wp2
  refine bodyPost_ret (v := .tuple #[.agg #[.int .i32 nd, .int .i32 nu, .int .u8 3, .int .i64 aw, .int .i32 al, .int .i32 ag, .slice A' n c', .int .i64 beat, .int .i64 pw, .int .i32 pl, .int .i32 pg], .int .i64 0]) (by simp [results, Try.results27, go_sem, *]) rfl ⟨A', c', rfl, ?_⟩
  have hb := HBw3.out
  have hbs := hb.size
  go_grown

set_option maxHeartbeats 3200000 in
theorem settle_false (r : Rec) (hl : r.l.length = r.n) (hn : r.n ≤ 100000) (B : Nat) (hc : chkR r = 0) (h2 : r.st = 2) (w : World) (hr : Rd w B r.A (sv r.l)) (hB : B ≤ w.heap.size) :
    Calls Try.prog 27 #[r.v, stv r.at_, .bool false] w fun e w' => e = .returned (.tuple #[(overR r).v, .int .i64 0]) ∧ Below w.heap.size w w' := by
  have H1 := Lib.hid (fun W (h : Below w.heap.size w W) => by
    have := reccheck_any r hl B W (hr.below (h.mono hB)) (Nat.le_trans hB h.size)
    rw [hc] at this
    exact this)
  have H3 := Lib.hid (fun A n c B (hl : 2 = n) W (h : Rd W B A (iv [3, 4])) hB => refused_no r A n c B [3, 4] hl (by omega) (by rw [h2]; decide) W h hB)
  have H4 := Lib.hid (fun W => over_any r W)
  clear hr hl hc
  obtain ⟨nd, nu, st, ⟨aw, al, ag⟩, A, n, c, l, beat, ⟨pw, pl, pg⟩⟩ := r
  simp only at h2
  subst h2
  unfold Rec.v stv overR at *
  simp only at H1 H3 H4 ⊢
  go_enter Try.func27, Try.ntmps27
  go_wp2_with fail
  refine (H1.out _ (by go_grown)).mono ?_
  rintro e w1 ⟨rfl, hb⟩
  obtain ⟨hcw1, hfw1⟩ := bcell hb
  have HBw1 : Hid (Below w.heap.size w w1) := Below.go (by go_grown) hb (by go_size)
  have hzw10 : w.heap.size < w1.heap.size := by have := hb.size; (try simp at this); omega
  have hzw11 : w.heap.size + 1 < w1.heap.size := by have := hb.size; (try simp at this); omega
  have hzw12 : w.heap.size + 1 + 1 < w1.heap.size := by have := hb.size; (try simp at this); omega
  have HEw1 := Lib.hid hb
  clear hb
  have rdn := rd_new8 w1 3 4 25
  have RDN := Lib.hid rdn; clear rdn
  go_wp2_with fail
  refine (H3.out _ 2 2 _ rfl _ RDN.out (by simp)).mono ?_
  rintro e w2 ⟨rfl, hb⟩
  obtain ⟨hcw2, hfw2⟩ := bcell hb
  have HBw2 : Hid (Below w.heap.size w w2) := Below.go (by have hpre := HBw1.out; have hps := hpre.size; go_grown) hb (by have hpre := HBw1.out; have hps := hpre.size; go_size)
  have hzw20 : w.heap.size < w2.heap.size := by have := hb.size; (try simp at this); omega
  have hzw21 : w.heap.size + 1 < w2.heap.size := by have := hb.size; (try simp at this); omega
  have hzw22 : w.heap.size + 1 + 1 < w2.heap.size := by have := hb.size; (try simp at this); omega
  have HEw2 := Lib.hid hb
  clear hb
  go_wp2_with fail
  refine (H4.out _).mono ?_
  rintro e w3 ⟨rfl, hb⟩
  have HBw3 : Hid (Below w.heap.size w w3) := Below.go HBw2.out hb HBw2.out.size
  have z3 : w.heap.size + 1 + 1 < w3.heap.size := by have := hb.size; omega
  have Y3 : BxQ w3 (w.heap.size + 1 + 1) ⟨0, 0, 0, ⟨0, 0, 0⟩, none, 0, 0, [], 0, ⟨0, 0, 0⟩⟩ := by
    have h := (BxQ.new ((w.alloc (.cells #[.int .i32 nd, .int .i32 nu, .int .u8 2, .int .i64 aw, .int .i32 al, .int .i32 ag, .slice A n c, .int .i64 beat, .int .i64 pw, .int .i32 pl, .int .i32 pg] 30)).alloc (.cells #[.int .i64 aw, .int .i32 al, .int .i32 ag] 27)) ⟨0, 0, 0, ⟨0, 0, 0⟩, none, 0, 0, [], 0, ⟨0, 0, 0⟩⟩ 30).next HEw1.out
    have h2 := (h.next ((Below.refl _ _).alloc (Nat.le_refl _) _)).next HEw2.out
    rw [World.size_alloc, World.size_alloc] at h2
    exact h2.next hb
  obtain ⟨y0, y1, y2, y3, y4, y5, y6, y7, y8, y9, y10, y11, y12⟩ := Y3
  dsimp only at y2 y3 y4 y5 y6 y7 y8 y9 y10 y11 y12
  clear hb H1 H3 H4 hcw1 hfw1 hcw2 hfw2
  go_wp2
  refine bodyPost_ret (v := .tuple #[.agg #[.int .i32 nd, .int .i32 nu, .int .u8 4, .int .i64 0, .int .i32 0, .int .i32 0, .slice none 0 0, .int .i64 beat, .int .i64 pw, .int .i32 pl, .int .i32 pg], .int .i64 0]) (by simp [results, Try.results27, go_sem, *]) rfl ⟨rfl, ?_⟩
  have hb := HBw3.out
  have hbs := hb.size
  go_grown

end Go.Proofs.Ythigmjcepbgljaa
