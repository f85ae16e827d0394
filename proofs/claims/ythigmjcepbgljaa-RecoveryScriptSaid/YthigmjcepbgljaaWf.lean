/- Walks: a work made. -/
import Derived.Test.YthigmjcepbgljaaWe
namespace Go.Proofs.Ythigmjcepbgljaa
open Go.RowKit Go.St
set_option linter.unusedVariables false
set_option linter.unusedSimpArgs false
set_option maxRecDepth 100000

def newE (r : Rec) : Int := if chkR r ≠ 0 then chkR r else if r.st = 2 then 0 else 2
/-- A work is told, with no answers yet. -/
def NewW (r : Rec) (w : World) (e : Ending) (w' : World) : Prop :=
  ∃ b g A c, e = .returned (.tuple #[.pointer (some ⟨b, 0, none⟩), .int .i64 0]) ∧ WkB w' w.heap.size w'.heap.size b g (r.to A c) (List.replicate r.n 0) ∧ Below w.heap.size w w'
theorem made_get (n i : Nat) (v : Int) (h : (List.replicate n (0 : Int))[i]? = some v) : (madeCells #[Value.int .i64 0] n)[i]? = some (.int .i64 v) := by
  have h1 := toList_madeCells_one (.int .i64 0) n
  rw [← Array.getElem?_toList, h1]
  rw [List.getElem?_replicate] at h ⊢
  split at h
  · rename_i hi
    injection h with h
    subst h
    rw [if_pos hi]
  · cases h
theorem newE_st {r : Rec} (h : newE r = 0) : chkR r = 0 ∧ r.st = 2 ∧ 0 < r.n ∧ r.n ≤ 24 := by
  unfold newE at h
  by_cases h1 : chkR r = 0
  · rw [if_neg (fun k => k h1)] at h
    by_cases h2 : r.st = 2
    · refine ⟨h1, h2, ?_, (chkR_st' h1).2⟩
      unfold chkR at h1
      split at h1
      · cases h1
      · split at h1
        · rename_i k
          unfold okR at k
          rw [h2] at k
          simp at k
          exact k.2.1.2
        · cases h1
    · rw [if_neg h2] at h; cases h
  · rw [if_pos h1] at h; exact absurd h h1
/-- The work laid. -/
theorem WkB.lay {W : World} {lo g : Nat} {r : Rec} {ans : List Int} {t : TypeId} (hlo : lo ≤ g) (hg : g < W.heap.size) (hgf : ∀ o, W.frozen? ⟨g, o, none⟩ = false) (hgc : ∀ (i : Nat) (v : Int), ans[i]? = some v → W.cell? ⟨g, i, none⟩ = some (.int .i64 v))
    (hgn : ans.length = r.n) (hrn : 0 < r.n ∧ r.n ≤ 24) (hrl : fit r) {B0 : Nat} (hk : RdN W B0 r.A (sv r.l)) (h1 : lo ≤ B0) (h3 : g < B0 ∨ ∀ kb off, r.A = some ⟨kb, off, none⟩ → kb ≠ g) (hlw : lo ≤ W.heap.size) :
    WkB (W.alloc (.cells (r.cells ++ [Value.slice (some ⟨g, 0, none⟩) r.n r.n]).toArray t)) lo (W.heap.size + 1) W.heap.size g r ans := by
  have hbl := (Below.refl W.heap.size W).alloc (Nat.le_refl _) (.cells (r.cells ++ [Value.slice (some ⟨g, 0, none⟩) r.n r.n]).toArray t)
  have far := fun k (hk : k < W.heap.size) o => hbl.cell (p := ⟨k, o, none⟩) hk
  have farf := fun k (hk : k < W.heap.size) o => hbl.frozen (p := ⟨k, o, none⟩) hk
  have hrl2 : r.l.length = r.n := hrl
  obtain ⟨kb, off, hA, hk1, hk2, hkc⟩ := hk (by
    intro e
    have := congrArg List.length e
    rw [sv_length] at this
    simp at this
    rw [this] at hrl2
    simp at hrl2
    omega)
  have hkg : kb ≠ g := by
    rcases h3 with h | h
    · omega
    · exact h kb off hA
  refine ⟨by simp, ⟨hlw, by omega⟩, ⟨hlo, by omega⟩, by omega, ?_, ?_, fun o => (farf g hg o).trans (hgf o), fun i v e => (far g hg i).trans (hgc i v e), hgn, hrn, hrl, kb, off, hA, by omega, by omega, hkg, fun i v e => (far kb hk2 _).trans (hkc i v e)⟩
  · constructor <;> first | (intro o; simp) | simp [Rec.cells]
  · simp [Rec.cells]
/-- The keys first, then the answers. -/
theorem WkB.layA {W : World} {lo : Nat} {r : Rec} {t t2 : TypeId} (hk : RdN W lo r.A (sv r.l)) (hrn : 0 < r.n ∧ r.n ≤ 24) (hrl : fit r) (hlo : lo ≤ W.heap.size) :
    WkB ((W.alloc (.cells (madeCells #[.int .i64 0] r.n) t2)).alloc (.cells (r.cells ++ [Value.slice (some ⟨W.heap.size, 0, none⟩) r.n r.n]).toArray t)) lo (W.heap.size + 1 + 1) (W.heap.size + 1) W.heap.size r (List.replicate r.n 0) := by
  have h := WkB.lay (W := W.alloc (.cells (madeCells #[.int .i64 0] r.n) t2)) (lo := lo) (g := W.heap.size) (r := r) (ans := List.replicate r.n 0) (t := t) hlo (by simp) (fun o => by simp) (fun i v hv => by rw [World.cell?_alloc_mark]; exact made_get r.n i v hv) (by simp) hrn hrl (hk.alloc _) (Nat.le_refl _)
    (.inr fun kb off e => by
      have hrl2 : r.l.length = r.n := hrl
      obtain ⟨kb', off', hA, _, hk2, _⟩ := hk (by
        intro e
        have := congrArg List.length e
        rw [sv_length] at this
        simp at this
        rw [this] at hrl2
        simp at hrl2
        omega)
      rw [hA] at e
      injection e with e
      injection e with e1
      omega) (by simp; omega)
  rw [World.size_alloc] at h
  exact h
/-- The answers first, then the keys. -/
theorem WkB.layB {W0 W : World} {lo : Nat} {r : Rec} {t t2 : TypeId} (hlo : lo ≤ W0.heap.size) (hb : Below (W0.alloc (.cells (madeCells #[.int .i64 0] r.n) t2)).heap.size (W0.alloc (.cells (madeCells #[.int .i64 0] r.n) t2)) W) (hk : RdN W (W0.alloc (.cells (madeCells #[.int .i64 0] r.n) t2)).heap.size r.A (sv r.l)) (hrn : 0 < r.n ∧ r.n ≤ 24) (hrl : fit r) :
    WkB (W.alloc (.cells (r.cells ++ [Value.slice (some ⟨W0.heap.size, 0, none⟩) r.n r.n]).toArray t)) lo (W.heap.size + 1) W.heap.size W0.heap.size r (List.replicate r.n 0) := by
  have hs := hb.size
  rw [World.size_alloc] at hs
  refine WkB.lay hlo (by omega) (fun o => ?_) (fun i v hv => ?_) (by simp) hrn hrl hk (by simp; omega) (.inl (by simp)) (by omega)
  · rw [hb.frozen (p := ⟨W0.heap.size, o, none⟩) (by simp)]; simp
  · rw [hb.cell (p := ⟨W0.heap.size, i, none⟩) (by simp), World.cell?_alloc_mark]; exact made_get r.n i v hv
theorem wnew_no (r : Rec) (hl : fit r) (B : Nat) (w : World) (hr : Rd w B r.A (sv r.l)) (hB : B ≤ w.heap.size) (hE : newE r ≠ 0) :
    Calls Try.prog 18 #[r.v] w fun e w' => e = .returned (.tuple #[.pointer none, .int .i64 (newE r)]) ∧ Below w.heap.size w w' := by
  have H1 := Lib.hid (reccheck_any r hl B)
  have HR := Lib.hid (fun W (h : Below w.heap.size w W) => hr.below (h.mono hB))
  have H1 := Lib.hid (fun W (h : Below w.heap.size w W) => reccheck_any r hl B W (hr.below (h.mono hB)) (Nat.le_trans hB h.size))
  have hN : newE r = if chkR r ≠ 0 then chkR r else if r.st = 2 then 0 else 2 := rfl
  generalize newE r = E at *
  generalize chkR r = ve at *
  clear hl hr HR
  obtain ⟨nd, nu, st, ⟨aw, al, ag⟩, A, n, c, l, beat, ⟨pw, pl, pg⟩⟩ := r
  unfold Rec.v at *
  simp only at H1 hN ⊢
  by_cases hv : ve = 0
  · subst hv
    rw [if_neg (fun h => h rfl)] at hN
    have hs : st ≠ 2 := fun h => by rw [if_pos h] at hN; exact hE hN
    rw [if_neg hs] at hN
    subst hN
    have zb : (st == 2) = false := by simpa using hs
    clear hs hE
    go_enter Try.func18, Try.ntmps18
    go_wp2_with fail
    refine (H1.out _ (by go_grown)).mono ?_
    rintro e w1 ⟨rfl, hb⟩
    obtain ⟨hcw1, hfw1⟩ := bcell hb
    have HBw1 : Hid (Below w.heap.size w w1) := Below.go (by go_grown) hb (by go_size)
    have hzw10 : w.heap.size < w1.heap.size := by have := hb.size; (try simp at this); omega
    have HEw1 := Lib.hid hb
    clear hb
    go_wp2
    go_ret2
    exact ⟨rfl, HBw1.out⟩
  · rw [if_pos hv] at hN
    subst hN
    have hne : (E == 0) = false := by simpa using hv
    have hne2 : (E != 0) = true := by rw [bne, hne]; rfl
    clear hv hE
    go_enter Try.func18, Try.ntmps18
    go_wp2_with fail
    refine (H1.out _ (by go_grown)).mono ?_
    rintro e w1 ⟨rfl, hb⟩
    obtain ⟨hcw1, hfw1⟩ := bcell hb
    have HBw1 : Hid (Below w.heap.size w w1) := Below.go (by go_grown) hb (by go_size)
    have hzw10 : w.heap.size < w1.heap.size := by have := hb.size; (try simp at this); omega
    have HEw1 := Lib.hid hb
    clear hb
    go_wp2
    go_ret2
    exact ⟨rfl, HBw1.out⟩
set_option maxHeartbeats 3200000 in
theorem wnew_ok (r : Rec) (hl : fit r) (B : Nat) (w : World) (hr : Rd w B r.A (sv r.l)) (hB : B ≤ w.heap.size) (hE : newE r = 0) :
    Calls Try.prog 18 #[r.v] w (NewW r w) := by
  obtain ⟨hc, hst, hn0, hn24⟩ := newE_st hE
  have H1 := Lib.hid (fun W (h : Below w.heap.size w W) => by
    have := reccheck_any r hl B W (hr.below (h.mono hB)) (Nat.le_trans hB h.size)
    rw [hc] at this
    exact this)
  have HC := Lib.hid (fun W (h : Below w.heap.size w W) => wcopied_any r hl (by omega) B W (hr.below (h.mono hB)) (Nat.le_trans hB h.size))
  have HL := Lib.hid hl
  clear hr hl hc hE
  obtain ⟨nd, nu, st, ⟨aw, al, ag⟩, A, n, c, l, beat, ⟨pw, pl, pg⟩⟩ := r
  simp only at hst hn0 hn24
  subst hst
  have H2 : Hid (∀ W, Below w.heap.size w W → Calls Try.prog 61 #[.agg #[.int .i32 nd, .int .i32 nu, .int .u8 2, .int .i64 aw, .int .i32 al, .int .i32 ag, .slice A n c, .int .i64 beat, .int .i64 pw, .int .i32 pl, .int .i32 pg]] W (fun e w' => ∃ A' c', e = .returned (.agg #[.int .i32 nd, .int .i32 nu, .int .u8 2, .int .i64 aw, .int .i32 al, .int .i32 ag, .slice A' n c', .int .i64 beat, .int .i64 pw, .int .i32 pl, .int .i32 pg]) ∧ RdN w' W.heap.size A' (sv l) ∧ Below W.heap.size W w')) := Lib.hid HC.out
  clear HC
  have hmk := fun W => run_make_row' (P := Try.prog) 31 3 (.int .i64 0) 8 Try.underlying31 (by kernel_rfl) rfl .i64 .i64 n (by omega) (by omega) W
  unfold Rec.v at *
  simp only at H1 ⊢
  go_enter Try.func18, Try.ntmps18
  go_wp2_with fail
  refine (H1.out _ (by go_grown)).mono ?_
  rintro e w1 ⟨rfl, hb⟩
  have HB1 : Hid (Below w.heap.size w w1) := Below.go (by go_grown) hb (by go_size)
  have X1 := Lib.hid ((BxQ.new w ⟨nd, nu, 2, ⟨aw, al, ag⟩, A, n, c, l, beat, ⟨pw, pl, pg⟩⟩ 30).next hb)
  clear hb H1
  obtain ⟨x0, x1, x2, x3, x4, x5, x6, x7, x8, x9, x10, x11, x12⟩ := X1.out
  dsimp only at x2 x3 x4 x5 x6 x7 x8 x9 x10 x11 x12
  have hB1 := HB1.out
  go_wp2_with fail
  go_region_with (go_at_call 61; refine (H2.out _ (by first | assumption | (refine Below.drew ?_; first | assumption | go_grown; done) | (go_grown; done))).mono ?_; rintro e w4 ⟨A', c', rfl, hrn4, hb4⟩; have k9 : Below w.heap.size w w4 := Below.go (by first | assumption | (refine Below.drew ?_; first | assumption | go_grown; done) | (go_grown; done)) hb4 (by have := hB1.size; simp; omega); obtain ⟨hc4, hf4⟩ := bcell hb4; have z0 : w.heap.size < w4.heap.size := (by have hz4 := hb4.size; simp at hz4; omega); have z1 : w1.heap.size ≤ w4.heap.size := (by have hz4 := hb4.size; simp at hz4; omega); have kx := kept hb4 (p := ⟨w.heap.size, 6, none⟩) (v := .slice A n c) (by go_simp))
  all_goals
    clear hc4 hf4 kx x0 x1 x2 x3 x4 x5 x6 x7 x8 x9 x10 x11 x12 H2 hmk
    have KA := WkB.layA (W := w4) (lo := w.heap.size) (r := ⟨nd, nu, 2, ⟨aw, al, ag⟩, A', n, c', l, beat, ⟨pw, pl, pg⟩⟩) (t := 33) (t2 := 3) (hrn4.mono (by have := hB1.size; simp; omega)) ⟨hn0, hn24⟩ HL.out (by omega)
    have KB := fun (hb : Below (w1.alloc (.cells (madeCells #[.int .i64 0] n) 3)).heap.size (w1.alloc (.cells (madeCells #[.int .i64 0] n) 3)) w4) h => WkB.layB (W0 := w1) (W := w4) (lo := w.heap.size) (r := ⟨nd, nu, 2, ⟨aw, al, ag⟩, A', n, c', l, beat, ⟨pw, pl, pg⟩⟩) (t := 33) (t2 := 3) (by have := hB1.size; omega) hb h ⟨hn0, hn24⟩ HL.out
    have KA := Lib.hid KA
    have KB := Lib.hid KB
    have hrn4 := Lib.hid hrn4
    have hb4 := Lib.hid hb4
    have k9 := Lib.hid k9
    clear X1
    go_wp2
    go_ret2
    first
      | (refine ⟨w4.heap.size + 1, w4.heap.size, A', c', rfl, ?_, ?_⟩
         · have h := KA.out; rw [World.size_alloc, World.size_alloc]; exact h
         · have hb := k9.out; have hbs := hb.size; go_grown)
      | (refine ⟨w4.heap.size, w1.heap.size, A', c', rfl, ?_, ?_⟩
         · rw [World.size_alloc]
           exact KB.out ⟨hb4.out.os, hb4.out.tape, hb4.out.output, hb4.out.size, hb4.out.block⟩ hrn4.out
         · have hb := k9.out; have hbs := hb.size; go_grown)
end Go.Proofs.Ythigmjcepbgljaa
