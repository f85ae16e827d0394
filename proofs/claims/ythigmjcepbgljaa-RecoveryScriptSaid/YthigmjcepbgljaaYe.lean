/- Walks: keys told in new memory that may be written; a work's record told so. -/
import Derived.Test.YthigmjcepbgljaaWe
namespace Go.Proofs.Ythigmjcepbgljaa
open Go.RowKit Go.St
set_option linter.unusedVariables false
set_option linter.unusedSimpArgs false
set_option maxRecDepth 100000
/-- Reads as cells that lie at block B0 or above and may be written. -/
def RdF (w : World) (B0 : Nat) (A : Option Addr) (xs : List Value) : Prop :=
  xs ≠ [] → ∃ b off, A = some ⟨b, off, none⟩ ∧ B0 ≤ b ∧ b < w.heap.size ∧ ∀ i v, xs[i]? = some v → w.cell? ⟨b, off + i, none⟩ = some v ∧ w.frozen? ⟨b, off + i, none⟩ = false
theorem RdF.nil {w : World} {B : Nat} {A : Option Addr} : RdF w B A [] := fun h => absurd rfl h
theorem RdF.rdn {w : World} {B : Nat} {A : Option Addr} {xs : List Value} (h : RdF w B A xs) : RdN w B A xs := fun hn => by
  obtain ⟨b, off, e, h0, h1, hc⟩ := h hn
  exact ⟨b, off, e, h0, h1, fun i v hv => (hc i v hv).1⟩
theorem RdF.next {w w' : World} {B : Nat} {A : Option Addr} {xs : List Value} (h : RdF w B A xs) (hb : Below w.heap.size w w') : RdF w' B A xs := fun hn => by
  obtain ⟨b, off, e, h0, h1, hc⟩ := h hn
  exact ⟨b, off, e, h0, Nat.lt_of_lt_of_le h1 hb.size, fun i v hv => ⟨(hb.cell (p := ⟨b, off + i, none⟩) h1).trans (hc i v hv).1, (hb.frozen (p := ⟨b, off + i, none⟩) h1).trans (hc i v hv).2⟩⟩
theorem RdF.mono {w : World} {B B' : Nat} {A : Option Addr} {xs : List Value} (h : RdF w B A xs) (hB : B' ≤ B) : RdF w B' A xs := fun hn => by
  obtain ⟨b, off, e, h0, h1, hc⟩ := h hn
  exact ⟨b, off, e, Nat.le_trans hB h0, h1, hc⟩
theorem RdF.set {w : World} {B : Nat} {A : Option Addr} {xs : List Value} (h : RdF w B A xs) {p : Addr} (hp : p.block < B) (u : Value) : RdF (w.setCell p u) B A xs := fun hn => by
  obtain ⟨b, off, e, h0, h1, hc⟩ := h hn
  exact ⟨b, off, e, h0, by simpa [World.setCell] using h1, fun i v hv => ⟨(World.cell?_setCell_other w p _ u (fun e => by subst e; simp only at hp; omega)).trans (hc i v hv).1, by simpa using (hc i v hv).2⟩⟩
theorem RdF.alloc {w : World} {B : Nat} {A : Option Addr} {xs : List Value} (h : RdF w B A xs) (o : Obj) : RdF (w.alloc o) B A xs := h.next ((Below.refl _ _).alloc (Nat.le_refl _) _)
theorem own_rdf {w : World} {base : Nat} {e : TypeId} {v : Value} {n : Nat} {xs : List Value} (h : w.ownsRow base e 1 v n xs) : ∃ A c, v = .slice A n c ∧ RdF w base A xs := by
  obtain ⟨A, c, rfl, hr⟩ := own_rdn h
  refine ⟨A, c, rfl, fun hn => ?_⟩
  have hlen := h.1
  have h0 : 0 < n := by
    rcases Nat.eq_zero_or_pos n with h0 | h0
    · subst h0
      exact absurd (List.eq_nil_of_length_eq_zero (by simpa using hlen)) hn
    · exact h0
  obtain ⟨g, c', e0, _, _, hb, hlt⟩ := own_blk h h0
  obtain ⟨b, off, e2, hb1, hb2, hc⟩ := hr hn
  have hl : xs.length = n := by simpa using hlen
  injection e0 with e1 e9 e8
  subst e1 e8
  injection e2 with e3
  injection e3 with e4 e5
  subst e4 e5
  refine ⟨g, 0, rfl, hb1, hb2, fun i v hv => ⟨hc i v hv, ?_⟩⟩
  have hi : i < n := by
    have := (List.getElem?_eq_some_iff.1 hv).1
    omega
  have hf := h.frozenAt i
  rw [Nat.zero_add]
  exact hf
/-- A list of keys is told that lies in new memory and may be written. -/
def OutSF (n : Nat) (l : List ByteArray) (w : World) (e : Ending) (w' : World) : Prop := ∃ A c, e = .returned (.slice A n c) ∧ RdF w' w.heap.size A (sv l) ∧ Below w.heap.size w w'
def OutQF (r : Rec) (w : World) (e : Ending) (w' : World) : Prop :=
  ∃ A c, e = .returned (r.to A c).v ∧ RdF w' w.heap.size A (sv r.l) ∧ Below w.heap.size w w'
set_option maxHeartbeats 800000 in
theorem cloneF_any (A : Option Addr) (n c B : Nat) (l : List ByteArray) (hl : l.length = n) (hn : n * 16 ≤ 140737488355328) (w : World) (hr : Rd w B A (sv l)) (hB : B ≤ w.heap.size) :
    Calls Try.prog 83 #[.slice A n c] w (OutSF n l w) := by
  cases A with
  | none =>
    have h0 : n = 0 := by
      rcases Nat.eq_zero_or_pos n with h | h
      · exact h
      · obtain ⟨_, _, e, _⟩ := hr.at_ (sv_get l 0 (by omega))
        cases e
    subst h0
    obtain rfl : l = [] := List.eq_nil_of_length_eq_zero hl
    have hq := fun W => Lib.run_eql_slice_nil (P := Try.prog) W 28 9 none 0 c 0 0 Try.underlying28
    clear hr hl
    go_enter Try.func83, Try.ntmps83
    go_wp2
    go_ret
    exact ⟨none, 0, rfl, RdF.nil, Below.refl _ _⟩
  | some a =>
    have HR := Lib.hid hr; have HL := Lib.hid hl
    have hq := fun W => Lib.run_eql_slice_nil (P := Try.prog) W 28 9 (some a) n c 0 0 Try.underlying28
    clear hr hl
    go_enter Try.func83, Try.ntmps83
    go_wp2_with (at_builtin; refine wpList_app sty55 (.tmp 5) (.tmp 6) rfl rfl w.heap.size (World.ownsRow_lit w #[] 0 (Nat.le_refl _) (by decide) rfl) rfl n c (HR.out.alloc hB _) rfl (by rw [sv_length, HL.out]; omega) (sv_one _) (by unfold maxLen; omega) (by omega) (by simp) ?_; intro v1 w1 own1 gr1 nil1 at1)
    have hb1 : Hid (Below w.heap.size w w1) := ((Below.refl _ _).alloc (Nat.le_refl _) _).grown gr1 (by simp) (by simp [Value.ownBlock])
    obtain ⟨A', c', rfl, hrn⟩ := own_rdf own1
    have HRN := Lib.hid hrn; clear hrn own1
    go_ret
    exact ⟨A', c', by simp, by simpa using HRN.out, hb1.out⟩

set_option maxHeartbeats 800000 in
theorem wcopiedF_any (r : Rec) (hl : fit r) (hn : r.n * 16 ≤ 140737488355328) (B : Nat) (w : World) (hr : Rd w B r.A (sv r.l)) (hB : B ≤ w.heap.size) :
    Calls Try.prog 61 #[r.v] w (OutQF (endR r r.st r.at_ r.n r.l) w) := by
  have H := Lib.hid (fun W (h : Below w.heap.size w W) => cloneF_any r.A r.n r.c B r.l hl hn W (hr.below (h.mono hB)) (Nat.le_trans hB h.size))
  clear hr hl
  obtain ⟨nd, nu, st, ⟨aw, al, ag⟩, A, n, c, l, beat, ⟨pw, pl, pg⟩⟩ := r
  unfold Rec.v endR
  simp only at H ⊢
  go_enter Try.func61, Try.ntmps61
  go_wp2_with fail
  refine (H.out _ (by go_grown)).mono ?_
  rintro e w1 ⟨A', c', rfl, hrn, hb⟩
  have hrn1 : RdF w1 (w.heap.size + 1 + 1) A' (sv l) := hrn.mono (by simp)
  have HRN := Lib.hid hrn1
  obtain ⟨hcw1, hfw1⟩ := bcell hb
  have HBw1 : Hid (Below w.heap.size w w1) := Below.go (by go_grown) hb (by go_size)
  have hx : Hid (BxQ w1 w.heap.size ⟨nd, nu, st, ⟨aw, al, ag⟩, A, n, c, l, beat, ⟨pw, pl, pg⟩⟩) := ((BxQ.new w _ 30).next ((Below.refl _ _).alloc (Nat.le_refl _) _)).next hb
  obtain ⟨x0, x1, x2, x3, x4, x5, x6, x7, x8, x9, x10, x11, x12⟩ := hx.out
  have hy : Hid (BxQ w1 (w.heap.size + 1) ⟨0, 0, 0, ⟨0, 0, 0⟩, none, 0, 0, [], 0, ⟨0, 0, 0⟩⟩) := by
    have h := (BxQ.new (w.alloc (.cells #[.int .i32 nd, .int .i32 nu, .int .u8 st, .int .i64 aw, .int .i32 al, .int .i32 ag, .slice A n c, .int .i64 beat, .int .i64 pw, .int .i32 pl, .int .i32 pg] 30)) ⟨0, 0, 0, ⟨0, 0, 0⟩, none, 0, 0, [], 0, ⟨0, 0, 0⟩⟩ 30).next hb
    rw [World.size_alloc] at h
    exact h
  obtain ⟨y0, y1, y2, y3, y4, y5, y6, y7, y8, y9, y10, y11, y12⟩ := hy.out
  dsimp only at x2 x3 x4 x5 x6 x7 x8 x9 x10 x11 x12 y2 y3 y4 y5 y6 y7 y8 y9 y10 y11 y12
  clear hb H hcw1 hfw1 hrn hrn1
  go_wp2
  refine bodyPost_ret (v := .agg #[.int .i32 nd, .int .i32 nu, .int .u8 st, .int .i64 aw, .int .i32 al, .int .i32 ag, .slice A' n c', .int .i64 beat, .int .i64 pw, .int .i32 pl, .int .i32 pg]) (by simp [results, Try.results61, go_sem, *]) rfl ⟨A', c', rfl, ?_, ?_⟩
  · refine RdF.mono (B := w.heap.size + 1 + 1) ?_ (by omega)
    repeat (with_reducible (first | exact HRN.out | refine RdF.set ?_ (by first | (simp; done) | (simp; omega) | omega) _ | refine RdF.alloc ?_ _))
  · have hb := HBw1.out
    have hbs := hb.size
    go_grown

/-- The work's record is told. -/
theorem wrecF_any {lo hi b g : Nat} {r : Rec} {ans : List Int} (w : World) (h : WkB w lo hi b g r ans) : Calls Try.prog 15 #[.pointer (some ⟨b, 0, none⟩)] w (OutQF (endR r r.st r.at_ r.n r.l) w) := by
  have HW := Lib.hid h
  have H0 := Lib.hid (fun W (h : WkB W lo hi b g r ans) => none_any W h)
  have HC := Lib.hid (fun W (h : WkB W lo hi b g r ans) => wcopiedF_any r h.rl (by have := h.rn; omega) hi W h.rkey h.hh)
  clear h
  obtain ⟨nd, nu, st, ⟨aw, al, ag⟩, A, n, c, l, beat, ⟨pw, pl, pg⟩⟩ := r
  have HQ : Hid (∀ W, WkB W lo hi b g ⟨nd, nu, st, ⟨aw, al, ag⟩, A, n, c, l, beat, ⟨pw, pl, pg⟩⟩ ans → Calls Try.prog 61 #[.agg #[.int .i32 nd, .int .i32 nu, .int .u8 st, .int .i64 aw, .int .i32 al, .int .i32 ag, .slice A n c, .int .i64 beat, .int .i64 pw, .int .i32 pl, .int .i32 pg]] W (fun e w' => ∃ A' c', e = .returned (.agg #[.int .i32 nd, .int .i32 nu, .int .u8 st, .int .i64 aw, .int .i32 al, .int .i32 ag, .slice A' n c', .int .i64 beat, .int .i64 pw, .int .i32 pl, .int .i32 pg]) ∧ RdF w' W.heap.size A' (sv l) ∧ Below W.heap.size W w')) := Lib.hid HC.out
  clear HC
  unfold endR
  simp only
  have HW1 := Lib.hid (HW.out.next ((Below.refl _ _).alloc (Nat.le_refl _) (.cells #[.int .i32 0, .int .i32 0, .int .u8 0, .int .i64 0, .int .i32 0, .int .i32 0, .slice none 0 0, .int .i64 0, .int .i64 0, .int .i32 0, .int .i32 0] 30)))
  obtain ⟨x0, x1, x2, x3, x4, x5, x6, x7, x8, x9, x10, x11, x12⟩ := HW1.out.bx
  dsimp only at x2 x3 x4 x5 x6 x7 x8 x9 x10 x11 x12
  go_enter Try.func15, Try.ntmps15
  go_wp2_with fail
  refine (H0.out _ HW1.out).mono ?_
  rintro e w' ⟨rfl, rfl⟩
  go_wp2_with fail
  refine (HQ.out _ HW1.out).mono ?_
  rintro e w1 ⟨A', c', rfl, hrn, hb⟩
  have hrn1 : RdF w1 (w.heap.size + 1) A' (sv l) := hrn.mono (by simp)
  have HRN := Lib.hid hrn1
  have HBw1 : Hid (Below w.heap.size w w1) := Below.go (by go_grown) hb (by go_size)
  have hy := (BxQ.new w ⟨0, 0, 0, ⟨0, 0, 0⟩, none, 0, 0, [], 0, ⟨0, 0, 0⟩⟩ 30).next hb
  clear x0 x1 x2 x3 x4 x5 x6 x7 x8 x9 x10 x11 x12
  obtain ⟨y0, y1, y2, y3, y4, y5, y6, y7, y8, y9, y10, y11, y12⟩ := hy
  dsimp only at y2 y3 y4 y5 y6 y7 y8 y9 y10 y11 y12
  clear hb hrn hrn1 HQ H0 HW1 HW
  go_wp2
  refine bodyPost_ret (v := .agg #[.int .i32 nd, .int .i32 nu, .int .u8 st, .int .i64 aw, .int .i32 al, .int .i32 ag, .slice A' n c', .int .i64 beat, .int .i64 pw, .int .i32 pl, .int .i32 pg]) (by simp [results, Try.results15, go_sem, *]) rfl ⟨A', c', rfl, ?_, ?_⟩
  · show RdF _ _ A' (sv l)
    refine RdF.mono (B := w.heap.size + 1) ?_ (by omega)
    repeat (with_reducible (first | exact HRN.out | refine RdF.set ?_ (by first | (simp; done) | (simp; omega) | omega) _ | refine RdF.alloc ?_ _))
  · have hb := HBw1.out
    have hbs := hb.size
    go_grown
end Go.Proofs.Ythigmjcepbgljaa
