/- Walks: keys copied; a record pushed. -/
import Derived.Test.YthigmjcepbgljaaPj
namespace Go.Proofs.Ythigmjcepbgljaa
open Go.RowKit Go.St
set_option linter.unusedVariables false
set_option linter.unusedSimpArgs false
set_option maxRecDepth 100000

/-- A record in a block. -/
structure BxQ (W : World) (b : Nat) (r : Rec) : Prop where
  lt : b < W.heap.size
  fz : ∀ o, W.frozen? ⟨b, o, none⟩ = false
  c0 : W.cell? ⟨b, 0, none⟩ = some (.int .i32 r.nd)
  c1 : W.cell? ⟨b, 1, none⟩ = some (.int .i32 r.nu)
  c2 : W.cell? ⟨b, 2, none⟩ = some (.int .u8 r.st)
  c3 : W.cell? ⟨b, 3, none⟩ = some (.int .i64 r.at_.wall)
  c4 : W.cell? ⟨b, 4, none⟩ = some (.int .i32 r.at_.logic)
  c5 : W.cell? ⟨b, 5, none⟩ = some (.int .i32 r.at_.tag)
  c6 : W.cell? ⟨b, 6, none⟩ = some (.slice r.A r.n r.c)
  c7 : W.cell? ⟨b, 7, none⟩ = some (.int .i64 r.beat)
  c8 : W.cell? ⟨b, 8, none⟩ = some (.int .i64 r.pu.wall)
  c9 : W.cell? ⟨b, 9, none⟩ = some (.int .i32 r.pu.logic)
  c10 : W.cell? ⟨b, 10, none⟩ = some (.int .i32 r.pu.tag)
theorem BxQ.next {W W' : World} {b : Nat} {r : Rec} (h : BxQ W b r) (hb : Below W.heap.size W W') : BxQ W' b r :=
  ⟨Nat.lt_of_lt_of_le h.lt hb.size, fun o => (hb.frozen (p := ⟨b, o, none⟩) h.lt).trans (h.fz o), (hb.cell (p := ⟨b, 0, none⟩) h.lt).trans h.c0, (hb.cell (p := ⟨b, 1, none⟩) h.lt).trans h.c1, (hb.cell (p := ⟨b, 2, none⟩) h.lt).trans h.c2, (hb.cell (p := ⟨b, 3, none⟩) h.lt).trans h.c3, (hb.cell (p := ⟨b, 4, none⟩) h.lt).trans h.c4, (hb.cell (p := ⟨b, 5, none⟩) h.lt).trans h.c5, (hb.cell (p := ⟨b, 6, none⟩) h.lt).trans h.c6, (hb.cell (p := ⟨b, 7, none⟩) h.lt).trans h.c7, (hb.cell (p := ⟨b, 8, none⟩) h.lt).trans h.c8, (hb.cell (p := ⟨b, 9, none⟩) h.lt).trans h.c9, (hb.cell (p := ⟨b, 10, none⟩) h.lt).trans h.c10⟩

theorem BxQ.new (W : World) (r : Rec) (t : TypeId) : BxQ (W.alloc (.cells #[.int .i32 r.nd, .int .i32 r.nu, .int .u8 r.st, .int .i64 r.at_.wall, .int .i32 r.at_.logic, .int .i32 r.at_.tag, .slice r.A r.n r.c, .int .i64 r.beat, .int .i64 r.pu.wall, .int .i32 r.pu.logic, .int .i32 r.pu.tag] t)) W.heap.size r := by
  constructor <;> first | (intro o; simp) | simp
/-- A record stored. -/
def setR (W : World) (b : Nat) (r : Rec) : World := ((((((((((W.setCell ⟨b, 0, none⟩ (.int .i32 r.nd)).setCell ⟨b, 1, none⟩ (.int .i32 r.nu)).setCell ⟨b, 2, none⟩ (.int .u8 r.st)).setCell ⟨b, 3, none⟩ (.int .i64 r.at_.wall)).setCell ⟨b, 4, none⟩ (.int .i32 r.at_.logic)).setCell ⟨b, 5, none⟩ (.int .i32 r.at_.tag)).setCell ⟨b, 6, none⟩ (.slice r.A r.n r.c)).setCell ⟨b, 7, none⟩ (.int .i64 r.beat)).setCell ⟨b, 8, none⟩ (.int .i64 r.pu.wall)).setCell ⟨b, 9, none⟩ (.int .i32 r.pu.logic)).setCell ⟨b, 10, none⟩ (.int .i32 r.pu.tag)
theorem BxQ.setR {W : World} {b : Nat} {r0 : Rec} (h : BxQ W b r0) (r : Rec) : BxQ (setR W b r) b r := by
  obtain ⟨x0, x1, x2, x3, x4, x5, x6, x7, x8, x9, x10, x11, x12⟩ := h
  unfold Go.Proofs.Ythigmjcepbgljaa.setR
  constructor <;> first | (intro o; simp [x1]) | simp [go_sem, *]
theorem BxQ.setO {W : World} {b : Nat} {r : Rec} (h : BxQ W b r) (b' : Nat) (hb : b' ≠ b) (r' : Rec) : BxQ (Go.Proofs.Ythigmjcepbgljaa.setR W b' r') b r := by
  obtain ⟨x0, x1, x2, x3, x4, x5, x6, x7, x8, x9, x10, x11, x12⟩ := h
  unfold Go.Proofs.Ythigmjcepbgljaa.setR
  have hf := fun (W : World) (i j : Nat) (v : Value) => far_store hb W i j v
  constructor <;> first | (intro o; simp [x1]) | simp [hf, *]
theorem bel_setR {B : Nat} {w W : World} (h : Below B w W) {b : Nat} (hb : B ≤ b) (r : Rec) : Below B w (Go.Proofs.Ythigmjcepbgljaa.setR W b r) := by
  unfold Go.Proofs.Ythigmjcepbgljaa.setR
  exact ((((((((((h.setCell hb _).setCell hb _).setCell hb _).setCell hb _).setCell hb _).setCell hb _).setCell hb _).setCell hb _).setCell hb _).setCell hb _).setCell hb _
theorem sty55 : STy Try.prog 28 9 1 16 (.string { data := #[] }) := ⟨Try.underlying28, ⟨_, rfl, by kernel_rfl, by kernel_rfl, by kernel_rfl⟩, rfl, by decide⟩
theorem sv_one (l : List ByteArray) : ∀ u ∈ sv l, u.oneCell' = true := by
  intro u hu
  obtain ⟨_, _, rfl⟩ := List.mem_map.1 hu
  rfl
set_option maxHeartbeats 800000 in
theorem clone_any (A : Option Addr) (n c B : Nat) (l : List ByteArray) (hl : l.length = n) (hn : n ≤ 100000) (w : World) (hr : Rd w B A (sv l)) (hB : B ≤ w.heap.size) :
    Calls Try.prog 83 #[.slice A n c] w fun e w' => ∃ A' c', e = .returned (.slice A' n c') ∧ Below w.heap.size w w' := by
  cases A with
  | none =>
    have h0 : n = 0 := by
      rcases Nat.eq_zero_or_pos n with h | h
      · exact h
      · obtain ⟨_, _, e, _⟩ := hr.at_ (sv_get l 0 (by omega))
        cases e
    subst h0
    have hq := fun W => Lib.run_eql_slice_nil (P := Try.prog) W 28 9 none 0 c 0 0 Try.underlying28
    clear hr hl
    go_enter Try.func83, Try.ntmps83
    go_wp2
    go_ret
    exact ⟨none, 0, rfl, Below.refl _ _⟩
  | some a =>
    have HR := Lib.hid hr; have HL := Lib.hid hl
    have hq := fun W => Lib.run_eql_slice_nil (P := Try.prog) W 28 9 (some a) n c 0 0 Try.underlying28
    clear hr hl
    go_enter Try.func83, Try.ntmps83
    go_wp2_with (at_builtin; refine wpList_app sty55 (.tmp 5) (.tmp 6) rfl rfl w.heap.size (World.ownsRow_lit w #[] 0 (Nat.le_refl _) (by decide) rfl) rfl n c (HR.out.alloc hB _) rfl (by rw [sv_length, HL.out]; omega) (sv_one _) (by unfold maxLen; omega) (by omega) (by simp) ?_; intro v1 w1 own1 gr1 nil1 at1)
    have hb1 : Hid (Below w.heap.size w w1) := ((Below.refl _ _).alloc (Nat.le_refl _) _).grown gr1 (by simp) (by simp [Value.ownBlock])
    obtain ⟨A', c', rfl, -⟩ := own_rd own1
    go_ret
    exact ⟨⟨A', c', by simp⟩, hb1.out⟩

set_option maxHeartbeats 800000 in
theorem copied_any (r : Rec) (hl : r.l.length = r.n) (hn : r.n ≤ 100000) (B : Nat) (w : World) (hr : Rd w B r.A (sv r.l)) (hB : B ≤ w.heap.size) :
    Calls Try.prog 72 #[r.v] w fun e w' => ∃ A' c', e = .returned (Rec.v { r with A := A', c := c' }) ∧ Below w.heap.size w w' := by
  have H := Lib.hid (fun W (h : Below w.heap.size w W) => clone_any r.A r.n r.c B r.l hl hn W (hr.below (h.mono hB)) (Nat.le_trans hB h.size))
  clear hr hl
  obtain ⟨nd, nu, st, ⟨aw, al, ag⟩, A, n, c, l, beat, ⟨pw, pl, pg⟩⟩ := r
  unfold Rec.v
  simp only at H ⊢
  go_enter Try.func72, Try.ntmps72
  go_wp2_with fail
  refine (H.out _ (by go_grown)).mono ?_
  rintro e w1 ⟨A', c', rfl, hb⟩
  obtain ⟨hcw1, hfw1⟩ := bcell hb
  have HBw1 : Hid (Below w.heap.size w w1) := Below.go (by go_grown) hb (by go_size)
  have hx : Hid (BxQ w1 w.heap.size ⟨nd, nu, st, ⟨aw, al, ag⟩, A, n, c, l, beat, ⟨pw, pl, pg⟩⟩) := ((BxQ.new w _ 30).next ((Below.refl _ _).alloc (Nat.le_refl _) _)).next hb
  obtain ⟨x0, x1, x2, x3, x4, x5, x6, x7, x8, x9, x10, x11, x12⟩ := hx.out
  have hy : Hid (BxQ w1 (w.heap.size + 1) ⟨0, 0, 0, ⟨0, 0, 0⟩, none, 0, 0, [], 0, ⟨0, 0, 0⟩⟩) := by
    have h := (BxQ.new (w.alloc (.cells #[.int .i32 nd, .int .i32 nu, .int .u8 st, .int .i64 aw, .int .i32 al, .int .i32 ag, .slice A n c, .int .i64 beat, .int .i64 pw, .int .i32 pl, .int .i32 pg] 30)) ⟨0, 0, 0, ⟨0, 0, 0⟩, none, 0, 0, [], 0, ⟨0, 0, 0⟩⟩ 30).next hb
    rw [World.size_alloc] at h
    exact h
  obtain ⟨y0, y1, y2, y3, y4, y5, y6, y7, y8, y9, y10, y11, y12⟩ := hy.out
  dsimp only at x2 x3 x4 x5 x6 x7 x8 x9 x10 x11 x12 y2 y3 y4 y5 y6 y7 y8 y9 y10 y11 y12
  clear hb H hcw1 hfw1
  go_wp2
  refine bodyPost_ret (v := .agg #[.int .i32 nd, .int .i32 nu, .int .u8 st, .int .i64 aw, .int .i32 al, .int .i32 ag, .slice A' n c', .int .i64 beat, .int .i64 pw, .int .i32 pl, .int .i32 pg]) (by simp [results, Try.results72, go_sem, *]) rfl ⟨A', c', rfl, ?_⟩
  have hb := HBw1.out
  have hbs := hb.size
  go_grown

set_option maxHeartbeats 1600000 in
theorem push_ok (r : Rec) (m : Stp) (hl : r.l.length = r.n) (hn : r.n ≤ 100000) (B : Nat) (hc : chkR r = 0) (hm : chk m = 0) (h3 : r.st ≠ 3) (h4 : r.st ≠ 4) (h2 : r.st ≠ 2) (w : World) (hr : Rd w B r.A (sv r.l)) (hB : B ≤ w.heap.size) :
    Calls Try.prog 39 #[r.v, stv m] w fun e w' => ∃ A' c', e = .returned (.tuple #[Rec.v { r with A := A', c := c', pu := maxS r.pu m }, .int .i64 0]) ∧ Below w.heap.size w w' := by
  have H1 := Lib.hid (fun W (h : Below w.heap.size w W) => by
    have := reccheck_any r hl B W (hr.below (h.mono hB)) (Nat.le_trans hB h.size)
    rw [hc] at this
    exact this)
  have H2 := Lib.hid (fun W => by
    have := hcheck_any m W
    rw [hm] at this
    exact this)
  have H3 := Lib.hid (fun A n c B (hl : 3 = n) W (h : Rd W B A (iv [3, 4, 2])) hB => refused_no r A n c B [3, 4, 2] hl (by omega) (by simp; exact ⟨h3, h4, h2⟩) W h hB)
  have H4 := Lib.hid (fun W (h : Below w.heap.size w W) => copied_any r hl hn B W (hr.below (h.mono hB)) (Nat.le_trans hB h.size))
  have H5 := Lib.hid (fun W => hmax_any r.pu m W)
  clear hr hl hc hm h3 h4 h2
  obtain ⟨nd, nu, st, ⟨aw, al, ag⟩, A, n, c, l, beat, ⟨pw, pl, pg⟩⟩ := r
  obtain ⟨mw, ml, mg⟩ := m
  unfold Rec.v stv at *
  simp only at H1 H2 H3 H4 H5 ⊢
  generalize maxS ⟨pw, pl, pg⟩ ⟨mw, ml, mg⟩ = x at *
  obtain ⟨xw, xl, xg⟩ := x
  simp only at H5 ⊢
  go_enter Try.func39, Try.ntmps39
  go_wp2_with fail
  refine (H1.out _ (by go_grown)).mono ?_
  rintro e w1 ⟨rfl, hb⟩
  obtain ⟨hcw1, hfw1⟩ := bcell hb
  have HBw1 : Hid (Below w.heap.size w w1) := Below.go (by go_grown) hb (by go_size)
  have hzw10 : w.heap.size < w1.heap.size := by have := hb.size; (try simp at this); omega
  have hzw11 : w.heap.size + 1 < w1.heap.size := by have := hb.size; (try simp at this); omega
  have hzw12 : w.heap.size + 1 + 1 < w1.heap.size := by have := hb.size; (try simp at this); omega
  have HEw1 := Lib.hid hb
  clear hb
  have X1 : Hid (BxQ w1 w.heap.size ⟨nd, nu, st, ⟨aw, al, ag⟩, A, n, c, l, beat, ⟨pw, pl, pg⟩⟩) := (((BxQ.new w _ 30).next ((Below.refl _ _).alloc (Nat.le_refl _) _)).next ((Below.refl _ _).alloc (Nat.le_refl _) _)).next HEw1.out
  have S1 : Hid (∀ o, w1.cell? ⟨w.heap.size + 1, o, none⟩ = (#[Value.int .i64 mw, .int .i32 ml, .int .i32 mg] : Array Value)[o]?) := fun o => by rw [hcw1 _ _ (by simp)]; simp [go_sem]
  have Y1 : Hid (BxQ w1 (w.heap.size + 1 + 1) ⟨0, 0, 0, ⟨0, 0, 0⟩, none, 0, 0, [], 0, ⟨0, 0, 0⟩⟩) := by
    have h := (BxQ.new ((w.alloc (.cells #[.int .i32 nd, .int .i32 nu, .int .u8 st, .int .i64 aw, .int .i32 al, .int .i32 ag, .slice A n c, .int .i64 beat, .int .i64 pw, .int .i32 pl, .int .i32 pg] 30)).alloc (.cells #[.int .i64 mw, .int .i32 ml, .int .i32 mg] 27)) ⟨0, 0, 0, ⟨0, 0, 0⟩, none, 0, 0, [], 0, ⟨0, 0, 0⟩⟩ 30).next HEw1.out
    rw [World.size_alloc, World.size_alloc] at h
    exact h
  clear hcw1 hfw1
  have m0 := S1.out 0; have m1 := S1.out 1; have m2 := S1.out 2
  simp only [List.getElem?_toArray, List.getElem?_cons_zero, List.getElem?_cons_succ] at m0 m1 m2
  go_wp2_with fail
  refine (H2.out _).mono ?_
  rintro e w2 ⟨rfl, hb⟩
  obtain ⟨hcw2, hfw2⟩ := bcell hb
  have HBw2 : Hid (Below w.heap.size w w2) := Below.go (by have hpre := HBw1.out; have hps := hpre.size; go_grown) hb (by have hpre := HBw1.out; have hps := hpre.size; go_size)
  have hzw20 : w.heap.size < w2.heap.size := by have := hb.size; (try simp at this); omega
  have hzw21 : w.heap.size + 1 < w2.heap.size := by have := hb.size; (try simp at this); omega
  have hzw22 : w.heap.size + 1 + 1 < w2.heap.size := by have := hb.size; (try simp at this); omega
  have HEw2 := Lib.hid hb
  clear hb
  have X2 := Lib.hid (X1.out.next HEw2.out)
  have Y2 := Lib.hid (Y1.out.next HEw2.out)
  have S2 : Hid (∀ o, w2.cell? ⟨w.heap.size + 1, o, none⟩ = (#[Value.int .i64 mw, .int .i32 ml, .int .i32 mg] : Array Value)[o]?) := fun o => by rw [hcw2 _ _ hzw11]; exact S1.out o
  clear hcw2 hfw2 m0 m1 m2 X1 Y1 S1
  obtain ⟨x0, x1, x2, x3, x4, x5, x6, x7, x8, x9, x10, x11, x12⟩ := X2.out
  dsimp only at x2 x3 x4 x5 x6 x7 x8 x9 x10 x11 x12
  have rdn := rd_new8c w2 3 4 2 25
  have RDN := Lib.hid rdn; clear rdn
  go_wp2_with fail
  refine (H3.out _ 3 3 _ rfl _ RDN.out (by simp)).mono ?_
  rintro e w3 ⟨rfl, hb⟩
  obtain ⟨hcw3, hfw3⟩ := bcell hb
  have HBw3 : Hid (Below w.heap.size w w3) := Below.go (by have hpre := HBw2.out; have hps := hpre.size; go_grown) hb (by have hpre := HBw2.out; have hps := hpre.size; go_size)
  have hzw30 : w.heap.size < w3.heap.size := by have := hb.size; (try simp at this); omega
  have hzw31 : w.heap.size + 1 < w3.heap.size := by have := hb.size; (try simp at this); omega
  have hzw32 : w.heap.size + 1 + 1 < w3.heap.size := by have := hb.size; (try simp at this); omega
  have HEw3 := Lib.hid hb
  clear hb
  have hb23 : Below w2.heap.size w2 w3 := Below.go ((Below.refl _ _).alloc (Nat.le_refl _) _) HEw3.out (by simp)
  have X3 := Lib.hid (X2.out.next hb23)
  have Y3 := Lib.hid (Y2.out.next hb23)
  have S3 : Hid (∀ o, w3.cell? ⟨w.heap.size + 1, o, none⟩ = (#[Value.int .i64 mw, .int .i32 ml, .int .i32 mg] : Array Value)[o]?) := fun o => ((hb23.cell (p := ⟨w.heap.size + 1, o, none⟩) hzw21)).trans (S2.out o)
  clear hcw3 hfw3 x0 x1 x2 x3 x4 x5 x6 x7 x8 x9 x10 x11 x12 X2 Y2 S2 hb23
  obtain ⟨x0, x1, x2, x3, x4, x5, x6, x7, x8, x9, x10, x11, x12⟩ := X3.out
  dsimp only at x2 x3 x4 x5 x6 x7 x8 x9 x10 x11 x12
  go_wp2_with fail
  refine (H4.out _ HBw3.out).mono ?_
  rintro e w4 ⟨A', c', rfl, hb⟩
  have HBw4 : Hid (Below w.heap.size w w4) := Below.go HBw3.out hb HBw3.out.size
  have X4 := Lib.hid (X3.out.next hb)
  have Y4 := Lib.hid (Y3.out.next hb)
  have S4 : Hid (∀ o, w4.cell? ⟨w.heap.size + 1, o, none⟩ = (#[Value.int .i64 mw, .int .i32 ml, .int .i32 mg] : Array Value)[o]?) := fun o => ((hb.cell (p := ⟨w.heap.size + 1, o, none⟩) hzw31)).trans (S3.out o)
  have z41 : w.heap.size + 1 < w4.heap.size := by have := hb.size; omega
  clear hb H1 H2 H3 H4 RDN x0 x1 x2 x3 x4 x5 x6 x7 x8 x9 x10 x11 x12 X3 Y3 S3
  obtain ⟨x0, x1, x2, x3, x4, x5, x6, x7, x8, x9, x10, x11, x12⟩ := X4.out
  dsimp only at x2 x3 x4 x5 x6 x7 x8 x9 x10 x11 x12
  have m0 := S4.out 0; have m1 := S4.out 1; have m2 := S4.out 2
  simp only [List.getElem?_toArray, List.getElem?_cons_zero, List.getElem?_cons_succ] at m0 m1 m2
  go_wp2_with fail
  have BS : Hid (Below w.heap.size w (setR w4 w.heap.size ⟨nd, nu, st, ⟨aw, al, ag⟩, A', n, c', l, beat, ⟨pw, pl, pg⟩⟩)) := bel_setR HBw4.out (Nat.le_refl _) _
  have XS := Lib.hid (X4.out.setR ⟨nd, nu, st, ⟨aw, al, ag⟩, A', n, c', l, beat, ⟨pw, pl, pg⟩⟩)
  have YS := Lib.hid (Y4.out.setO w.heap.size (by omega) ⟨nd, nu, st, ⟨aw, al, ag⟩, A', n, c', l, beat, ⟨pw, pl, pg⟩⟩)
  change Calls _ _ _ (setR w4 w.heap.size ⟨nd, nu, st, ⟨aw, al, ag⟩, A', n, c', l, beat, ⟨pw, pl, pg⟩⟩) _
  clear x0 x1 x2 x3 x4 x5 x6 x7 x8 x9 x10 x11 x12 X4 Y4 m0 m1 m2 S4
  generalize setR w4 w.heap.size ⟨nd, nu, st, ⟨aw, al, ag⟩, A', n, c', l, beat, ⟨pw, pl, pg⟩⟩ = w4' at *
  refine (H5.out _).mono ?_
  rintro e w5 ⟨rfl, hb⟩
  have HBw5 : Hid (Below w.heap.size w w5) := Below.go BS.out hb BS.out.size
  have X5 := Lib.hid (XS.out.next hb)
  have Y5 := Lib.hid (YS.out.next hb)
  clear hb H5 XS YS BS
  obtain ⟨x0, x1, x2, x3, x4, x5, x6, x7, x8, x9, x10, x11, x12⟩ := X5.out
  obtain ⟨y0, y1, y2, y3, y4, y5, y6, y7, y8, y9, y10, y11, y12⟩ := Y5.out
  dsimp only at x2 x3 x4 x5 x6 x7 x8 x9 x10 x11 x12 y2 y3 y4 y5 y6 y7 y8 y9 y10 y11 y12
  have far0 := far_store (p := w.heap.size) (q := w.heap.size + 1 + 1) (by omega)
  have far1 := far_store (p := w.heap.size + 1 + 1) (q := w.heap.size) (by omega)
  go_wp2
  refine bodyPost_ret (v := .tuple #[.agg #[.int .i32 nd, .int .i32 nu, .int .u8 st, .int .i64 aw, .int .i32 al, .int .i32 ag, .slice A' n c', .int .i64 beat, .int .i64 xw, .int .i32 xl, .int .i32 xg], .int .i64 0]) (by simp [results, Try.results39, go_sem, *]) rfl ⟨A', c', rfl, ?_⟩
  have hb := HBw5.out
  have hbs := hb.size
  go_grown
end Go.Proofs.Ythigmjcepbgljaa
