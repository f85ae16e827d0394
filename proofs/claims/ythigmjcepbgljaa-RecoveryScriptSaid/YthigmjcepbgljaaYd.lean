/- Walks: the document's work made. -/
import Derived.Test.YthigmjcepbgljaaYc
import Derived.Deep.OwnRows
import Derived.Deep.RegionHeld3
namespace Go.Proofs.Ythigmjcepbgljaa
open Go.RowKit Go.St
set_option linter.unusedVariables false
set_option linter.unusedSimpArgs false
set_option maxRecDepth 100000

theorem own29_any (A : Option Addr) (n c B : Nat) (l : List ByteArray) (hl : l.length = n) (hn : n * 16 ≤ 140737488355328) (w : World) (hr : Rd w B A (sv l)) (hB : B ≤ w.heap.size) :
    Calls Try.prog 63 #[.slice A n c] w (OutS n l w) := by
  have HR := Lib.hid hr; have HL := Lib.hid hl
  clear hr hl
  go_enter Try.func63, Try.ntmps63
  go_wp2_with (at_builtin; refine wpList_app sty55 (.tmp 4) (.tmp 5) rfl rfl w.heap.size (World.ownsRow_nil _ _ _ _) rfl n c HR.out rfl (by rw [sv_length, HL.out]; omega) (sv_one _) (by unfold maxLen; omega) (by omega) (by simp) ?_; intro v1 w1 own1 gr1 nil1 at1)
  have hb1 : Hid (Below w.heap.size w w1) := Lib.hid ((Below.refl _ _).grown gr1 (by simp) (by simp [Value.ownBlock]))
  obtain ⟨A', c', rfl, hrn⟩ := own_rdn (own_eq own1 (Nat.zero_add n) (List.nil_append _))
  have HRN := Lib.hid hrn; clear hrn own1
  go_ret
  exact ⟨A', c', by simp, HRN.out, hb1.out⟩
theorem made_bl (n j : Nat) (h : j < n) : (madeCells #[Value.bool false] n)[j]? = some (.bool false) := by
  have h1 := toList_madeCells_one (.bool false) n
  rw [← Array.getElem?_toList, h1, List.getElem?_replicate, if_pos h]
/-- A work is told, with no answers yet. -/
def NewR (r : Rec) (w : World) (e : Ending) (w' : World) : Prop :=
  ∃ b g y A c, e = .returned (.tuple #[.pointer (some ⟨b, 0, none⟩), .int .i64 0]) ∧ RkB w' w.heap.size w'.heap.size b g y (r.to A c) (List.replicate r.n 0) ∧ Below w.heap.size w w'
theorem RkB.lay {W : World} {lo g y : Nat} {r : Rec} {t : TypeId} (hg0 : lo ≤ g) (hg : g < W.heap.size) (hy0 : lo ≤ y) (hy : y < W.heap.size) (hgy : g ≠ y) (hgf : ∀ o, W.frozen? ⟨g, o, none⟩ = false) (hyf : ∀ o, W.frozen? ⟨y, o, none⟩ = false)
    (hgc : ∀ i, i < r.n → W.cell? ⟨g, i, none⟩ = some (.bool false)) (hyc : ∀ i, i < r.n → W.cell? ⟨y, i, none⟩ = some (.bool false))
    (hrn : 0 < r.n ∧ r.n ≤ 24) (hrl : fit r) {kb off : Nat} (hA : r.A = some ⟨kb, off, none⟩) (h1 : lo ≤ kb) (h2 : kb < W.heap.size) (h3 : kb ≠ g) (h4 : kb ≠ y) (hk : ∀ i v, (sv r.l)[i]? = some v → W.cell? ⟨kb, off + i, none⟩ = some v) :
    RkB (W.alloc (.cells (Value.bool true :: (r.cells ++ [Value.slice (some ⟨g, 0, none⟩) r.n r.n, Value.slice (some ⟨y, 0, none⟩) r.n r.n])).toArray t)) lo (W.heap.size + 1) W.heap.size g y r (List.replicate r.n 0) := by
  have hbl := (Below.refl W.heap.size W).alloc (Nat.le_refl _) (.cells (Value.bool true :: (r.cells ++ [Value.slice (some ⟨g, 0, none⟩) r.n r.n, Value.slice (some ⟨y, 0, none⟩) r.n r.n])).toArray t)
  have far := fun k (hk : k < W.heap.size) o => hbl.cell (p := ⟨k, o, none⟩) hk
  have farf := fun k (hk : k < W.heap.size) o => hbl.frozen (p := ⟨k, o, none⟩) hk
  refine ⟨by simp, ⟨by omega, by omega⟩, ⟨hg0, by omega⟩, ⟨hy0, by omega⟩, by omega, by omega, hgy, by rw [World.cell?_alloc_mark]; rfl, fun i v hv => ?_, by rw [World.cell?_alloc_mark]; rfl, by rw [World.cell?_alloc_mark]; rfl, fun o => (farf g hg o).trans (hgf o), fun o => (farf y hy o).trans (hyf o), fun i v hv => ?_, fun v hv => .inl (List.eq_of_mem_replicate hv), by simp, hrn, hrl, kb, off, hA, h1, by omega, h3, h4, fun i v e => (far kb h2 _).trans (hk i v e)⟩
  · rw [World.cell?_alloc_mark]
    have : i < r.cells.length := (List.getElem?_eq_some_iff.1 hv).1
    simp only [List.getElem?_toArray, List.getElem?_cons_succ]
    rw [List.getElem?_append_left this]
    exact hv
  · rw [List.getElem?_replicate] at hv
    split at hv
    · rename_i hi
      injection hv with hv
      subst hv
      exact ⟨(far g hg i).trans (hgc i hi), (far y hy i).trans (hyc i hi)⟩
    · cases hv
theorem rnew_no (r : Rec) (hl : fit r) (B : Nat) (w : World) (hr : Rd w B r.A (sv r.l)) (hB : B ≤ w.heap.size) (hE : newE r ≠ 0) :
    Calls Try.prog 21 #[r.v] w fun e w' => e = .returned (.tuple #[.pointer none, .int .i64 (newE r)]) ∧ Below w.heap.size w w' := by
  have H1 := Lib.hid (rreccheck_any r hl B)
  have HR := Lib.hid (fun W (h : Below w.heap.size w W) => hr.below (h.mono hB))
  have H1 := Lib.hid (fun W (h : Below w.heap.size w W) => rreccheck_any r hl B W (hr.below (h.mono hB)) (Nat.le_trans hB h.size))
  have hN : newE r = if chkR r ≠ 0 then chkR r else if r.st = 2 then 0 else 2 := rfl
  generalize newE r = E at *
  generalize chkR r = ve at *
  clear hl hr HR
  obtain ⟨nd, nu, st, ⟨aw, al, ag⟩, A, n, c, l, beat, ⟨pw, pl, pg⟩⟩ := r
  unfold Rec.v at *
  simp only at H1 hN ⊢
  by_cases hv : ve = 0
  · subst hv
    rw [if_neg (fun h => h rfl)] at hN
    have hs : st ≠ 2 := fun h => by rw [if_pos h] at hN; exact hE hN
    rw [if_neg hs] at hN
    subst hN
    have zb : (st == 2) = false := by simpa using hs
    clear hs hE
    go_enter Try.func21, Try.ntmps21
    go_wp2_with fail
    refine (H1.out _ (by go_grown)).mono ?_
    rintro e w1 ⟨rfl, hb⟩
    obtain ⟨hcw1, hfw1⟩ := bcell hb
    have HBw1 : Hid (Below w.heap.size w w1) := Below.go (by go_grown) hb (by go_size)
    have hzw10 : w.heap.size < w1.heap.size := by have := hb.size; (try simp at this); omega
    have HEw1 := Lib.hid hb
    clear hb
    go_wp2
    go_ret2
    exact ⟨rfl, HBw1.out⟩
  · rw [if_pos hv] at hN
    subst hN
    have hne : (E == 0) = false := by simpa using hv
    have hne2 : (E != 0) = true := by rw [bne, hne]; rfl
    clear hv hE
    go_enter Try.func21, Try.ntmps21
    go_wp2_with fail
    refine (H1.out _ (by go_grown)).mono ?_
    rintro e w1 ⟨rfl, hb⟩
    obtain ⟨hcw1, hfw1⟩ := bcell hb
    have HBw1 : Hid (Below w.heap.size w w1) := Below.go (by go_grown) hb (by go_size)
    have hzw10 : w.heap.size < w1.heap.size := by have := hb.size; (try simp at this); omega
    have HEw1 := Lib.hid hb
    clear hb
    go_wp2
    go_ret2
    exact ⟨rfl, HBw1.out⟩
set_option maxHeartbeats 3200000 in
theorem rnew_ok (r : Rec) (hl : fit r) (B : Nat) (w : World) (hr : Rd w B r.A (sv r.l)) (hB : B ≤ w.heap.size) (hE : newE r = 0) :
    Calls Try.prog 21 #[r.v] w (NewR r w) := by
  obtain ⟨hc, hst, hn0, hn24⟩ := newE_st hE
  have H1 := Lib.hid (fun W (h : Below w.heap.size w W) => by
    have := rreccheck_any r hl B W (hr.below (h.mono hB)) (Nat.le_trans hB h.size)
    rw [hc] at this
    exact this)
  have HC := Lib.hid (fun W (h : Below w.heap.size w W) => own29_any r.A r.n r.c B r.l hl (by omega) W (hr.below (h.mono hB)) (Nat.le_trans hB h.size))
  have HL := Lib.hid hl
  clear hr hl hc hE
  obtain ⟨nd, nu, st, ⟨aw, al, ag⟩, A, n, c, l, beat, ⟨pw, pl, pg⟩⟩ := r
  simp only at hst hn0 hn24
  subst hst
  have hmk := fun W => run_make_row' (P := Try.prog) 46 4 (.bool false) 1 Try.underlying46 (by kernel_rfl) rfl .i64 .i64 n (by omega) (by omega) W
  have HMK := Lib.hid hmk
  clear hmk
  unfold Rec.v at *
  simp only at H1 HC ⊢
  go_enter Try.func21, Try.ntmps21
  go_wp2_with fail
  refine (H1.out _ (by go_grown)).mono ?_
  rintro e w1 ⟨rfl, hb⟩
  have HB1 : Hid (Below w.heap.size w w1) := Below.go (by go_grown) hb (by go_size)
  have X1 := Lib.hid ((BxQ.new w ⟨nd, nu, 2, ⟨aw, al, ag⟩, A, n, c, l, beat, ⟨pw, pl, pg⟩⟩ 30).next hb)
  clear hb H1
  obtain ⟨x0, x1, x2, x3, x4, x5, x6, x7, x8, x9, x10, x11, x12⟩ := X1.out
  dsimp only at x2 x3 x4 x5 x6 x7 x8 x9 x10 x11 x12
  go_wp2_with fail
  refine (HC.out _ HB1.out).mono ?_
  rintro e w2 ⟨A', c', rfl, hrn, hb⟩
  have HB2 : Hid (Below w.heap.size w w2) := Lib.hid (HB1.out.trans (hb.mono HB1.out.size))
  have X2 := Lib.hid (X1.out.next hb)
  have hl1 : w.heap.size < w1.heap.size := x0
  have HRN2 := Lib.hid hrn
  clear x0 x1 x2 x3 x4 x5 x6 x7 x8 x9 x10 x11 x12 X1 hb hrn HC
  obtain ⟨x0, x1, x2, x3, x4, x5, x6, x7, x8, x9, x10, x11, x12⟩ := X2.out
  dsimp only at x2 x3 x4 x5 x6 x7 x8 x9 x10 x11 x12
  go_wp2
  have HB3 : Hid (Below w.heap.size w (w2.setCell ⟨w.heap.size, 6, none⟩ (.slice A' n c'))) := Lib.hid (HB2.out.setCell (Nat.le_refl _) _)
  have X3 : Hid (BxQ (w2.setCell ⟨w.heap.size, 6, none⟩ (.slice A' n c')) w.heap.size ⟨nd, nu, 2, ⟨aw, al, ag⟩, A', n, c', l, beat, ⟨pw, pl, pg⟩⟩) := Lib.hid (by constructor <;> first | (intro o; simp [x1]) | simp [go_sem, *])
  have R3 : Hid (RdN (w2.setCell ⟨w.heap.size, 6, none⟩ (.slice A' n c')) w1.heap.size A' (sv l)) := Lib.hid (HRN2.out.set (p := ⟨w.heap.size, 6, none⟩) hl1 _)
  clear x0 x1 x2 x3 x4 x5 x6 x7 x8 x9 x10 x11 x12 X2 HRN2 HB2
  generalize hW0 : (w2.setCell ⟨w.heap.size, 6, none⟩ (.slice A' n c')) = W0 at *
  clear hW0
  obtain ⟨x0, x1, x2, x3, x4, x5, x6, x7, x8, x9, x10, x11, x12⟩ := X3.out
  dsimp only at x2 x3 x4 x5 x6 x7 x8 x9 x10 x11 x12
  have hmk := HMK.out
  have z1 : w.heap.size < W0.heap.size + 1 := by omega
  have z2 : w.heap.size < W0.heap.size + 1 + 1 := by omega
  go_region_held3 (fun W => W.cell? ⟨w.heap.size, 0, none⟩ = some (.int .i32 nd) ∧ W.cell? ⟨w.heap.size, 1, none⟩ = some (.int .i32 nu) ∧ W.cell? ⟨w.heap.size, 2, none⟩ = some (.int .u8 2) ∧ W.cell? ⟨w.heap.size, 3, none⟩ = some (.int .i64 aw) ∧ W.cell? ⟨w.heap.size, 4, none⟩ = some (.int .i32 al) ∧ W.cell? ⟨w.heap.size, 5, none⟩ = some (.int .i32 ag) ∧ W.cell? ⟨w.heap.size, 6, none⟩ = some (.slice A' n c') ∧ W.cell? ⟨w.heap.size, 7, none⟩ = some (.int .i64 beat) ∧ W.cell? ⟨w.heap.size, 8, none⟩ = some (.int .i64 pw) ∧ W.cell? ⟨w.heap.size, 9, none⟩ = some (.int .i32 pl) ∧ W.cell? ⟨w.heap.size, 10, none⟩ = some (.int .i32 pg)) (first | (with_reducible exact ⟨x2, x3, x4, x5, x6, x7, x8, x9, x10, x11, x12⟩) | ((try dsimp only); refine ⟨?_, ?_, ?_, ?_, ?_, ?_, ?_, ?_, ?_, ?_, ?_⟩ <;> (first | (with_reducible assumption) | go_simp))) (fail)
  all_goals
    clear hmk x1 x2 x3 x4 x5 x6 x7 x8 x9 x10 x11 x12 HMK
    rename_i hHeld
    clear hHeld
    have hw0 := HB3.out.size
    obtain ⟨kb, off, hA, hk1, hk2, hkc⟩ := R3.out (by intro e; have := congrArg List.length e; rw [sv_length] at this; have hh : l.length = n := HL.out; simp at this; rw [this] at hh; simp at hh; omega)
    have b1 := (Below.refl W0.heap.size W0).alloc (Nat.le_refl _) (.cells (madeCells #[.bool false] n) 4)
    have b2 : Below W0.heap.size W0 ((W0.alloc (.cells (madeCells #[.bool false] n) 4)).alloc (.cells (madeCells #[.bool false] n) 4)) := b1.alloc (by simp) _
    have hs3 : ((W0.alloc (.cells (madeCells #[.bool false] n) 4)).alloc (.cells (madeCells #[.bool false] n) 4)).heap.size = W0.heap.size + 1 + 1 := by simp
    have f1 : ∀ o, ((W0.alloc (.cells (madeCells #[.bool false] n) 4)).alloc (.cells (madeCells #[.bool false] n) 4)).frozen? ⟨W0.heap.size, o, none⟩ = false := fun o => by simp
    have f2 : ∀ o, ((W0.alloc (.cells (madeCells #[.bool false] n) 4)).alloc (.cells (madeCells #[.bool false] n) 4)).frozen? ⟨W0.heap.size + 1, o, none⟩ = false := fun o => by simp
    have d1 : ∀ i, i < n → ((W0.alloc (.cells (madeCells #[.bool false] n) 4)).alloc (.cells (madeCells #[.bool false] n) 4)).cell? ⟨W0.heap.size, i, none⟩ = some (.bool false) := fun i hi => by
      rw [World.cell?_alloc_lt _ _ _ (by simp), World.cell?_alloc_mark, made_bl n i hi]
    have d2 : ∀ i, i < n → ((W0.alloc (.cells (madeCells #[.bool false] n) 4)).alloc (.cells (madeCells #[.bool false] n) 4)).cell? ⟨W0.heap.size + 1, i, none⟩ = some (.bool false) := fun i hi => by
      have h := World.cell?_alloc_mark (W0.alloc (.cells (madeCells #[.bool false] n) 4)) (madeCells #[.bool false] n) 4 (0, 0) i
      rw [World.size_alloc] at h
      exact h.trans (made_bl n i hi)
    have dk : ∀ i v, (sv l)[i]? = some v → ((W0.alloc (.cells (madeCells #[.bool false] n) 4)).alloc (.cells (madeCells #[.bool false] n) 4)).cell? ⟨kb, off + i, none⟩ = some v := fun i v e => (b2.cell (p := ⟨kb, off + i, none⟩) hk2).trans (hkc i v e)
    have KA := Lib.hid (RkB.lay (W := ((W0.alloc (.cells (madeCells #[.bool false] n) 4)).alloc (.cells (madeCells #[.bool false] n) 4))) (lo := w.heap.size) (g := W0.heap.size) (y := W0.heap.size + 1) (r := ⟨nd, nu, 2, ⟨aw, al, ag⟩, A', n, c', l, beat, ⟨pw, pl, pg⟩⟩) (t := 89) (by omega) (by rw [hs3]; omega) (by omega) (by rw [hs3]; omega) (by omega) f1 f2 d1 d2 ⟨hn0, hn24⟩ HL.out hA (by omega) (by rw [hs3]; omega) (by omega) (by omega) dk)
    have KB := Lib.hid (RkB.lay (W := ((W0.alloc (.cells (madeCells #[.bool false] n) 4)).alloc (.cells (madeCells #[.bool false] n) 4))) (lo := w.heap.size) (g := W0.heap.size + 1) (y := W0.heap.size) (r := ⟨nd, nu, 2, ⟨aw, al, ag⟩, A', n, c', l, beat, ⟨pw, pl, pg⟩⟩) (t := 89) (by omega) (by rw [hs3]; omega) (by omega) (by rw [hs3]; omega) (by omega) f2 f1 d2 d1 ⟨hn0, hn24⟩ HL.out hA (by omega) (by rw [hs3]; omega) (by omega) (by omega) dk)
    have LB := Lib.hid (HB3.out.trans (b2.mono HB3.out.size))
    clear b1 b2 f1 f2 d1 d2 dk hkc R3 X3 hs3 HB3 hA
    go_wp2
    go_ret2
  · refine ⟨W0.heap.size + 1 + 1, W0.heap.size, W0.heap.size + 1, A', c', rfl, ?_, ?_⟩
    · have h := KA.out.next (Below.drew (Below.refl _ _))
      rw [World.size_alloc, World.size_alloc] at h
      show RkB _ _ (World.heap (World.alloc _ _)).size _ _ _ _ _
      rw [World.size_alloc, World.size_alloc, World.size_alloc]
      exact h
    · have hb := LB.out; have hbs := hb.size; exact Below.drew (hb.alloc hbs _)
  · refine ⟨W0.heap.size + 1 + 1, W0.heap.size + 1, W0.heap.size, A', c', rfl, ?_, ?_⟩
    · have h := KB.out.next (Below.drew (Below.refl _ _))
      rw [World.size_alloc, World.size_alloc] at h
      show RkB _ _ (World.heap (World.alloc _ _)).size _ _ _ _ _
      rw [World.size_alloc, World.size_alloc, World.size_alloc]
      exact h
    · have hb := LB.out; have hbs := hb.size; exact Below.drew (hb.alloc hbs _)
end Go.Proofs.Ythigmjcepbgljaa
