/- Walks: a recovery's work in memory; is it none, is it done. -/
import Derived.Test.YthigmjcepbgljaaWa
namespace Go.Proofs.Ythigmjcepbgljaa
open Go.RowKit Go.St
set_option linter.unusedVariables false
set_option linter.unusedSimpArgs false
set_option maxRecDepth 100000

/-- A work at block b, its answers at block g, its keys in a block of their own: all from lo on, below hi. -/
structure WkB (W : World) (lo hi b g : Nat) (r : Rec) (ans : List Int) : Prop where
  hh : hi ≤ W.heap.size
  bl : lo ≤ b ∧ b < hi
  gl : lo ≤ g ∧ g < hi
  ne : b ≠ g
  bx : BxQ W b r
  c11 : W.cell? ⟨b, 11, none⟩ = some (.slice (some ⟨g, 0, none⟩) r.n r.n)
  gf : ∀ o, W.frozen? ⟨g, o, none⟩ = false
  gc : ∀ (i : Nat) (v : Int), ans[i]? = some v → W.cell? ⟨g, i, none⟩ = some (.int .i64 v)
  gn : ans.length = r.n
  rn : 0 < r.n ∧ r.n ≤ 24
  rl : fit r
  kd : ∃ kb off, r.A = some ⟨kb, off, none⟩ ∧ lo ≤ kb ∧ kb < hi ∧ kb ≠ g ∧ ∀ i v, (sv r.l)[i]? = some v → W.cell? ⟨kb, off + i, none⟩ = some v
section
variable {W W' : World} {lo hi b g : Nat} {r : Rec} {ans : List Int}
theorem BxQ.keep {W W' : World} {b : Nat} {r : Rec} (h : BxQ W b r) (hs : b < W'.heap.size) (hc : ∀ o, W'.cell? ⟨b, o, none⟩ = W.cell? ⟨b, o, none⟩) (hf : ∀ o, W'.frozen? ⟨b, o, none⟩ = W.frozen? ⟨b, o, none⟩) : BxQ W' b r :=
  ⟨hs, fun o => (hf o).trans (h.fz o), (hc 0).trans h.c0, (hc 1).trans h.c1, (hc 2).trans h.c2, (hc 3).trans h.c3, (hc 4).trans h.c4, (hc 5).trans h.c5, (hc 6).trans h.c6, (hc 7).trans h.c7, (hc 8).trans h.c8, (hc 9).trans h.c9, (hc 10).trans h.c10⟩
theorem WkB.keep (h : WkB W lo hi b g r ans) (hs : W.heap.size ≤ W'.heap.size) (hc : ∀ k o, lo ≤ k → k < hi → W'.cell? ⟨k, o, none⟩ = W.cell? ⟨k, o, none⟩) (hf : ∀ k o, lo ≤ k → k < hi → W'.frozen? ⟨k, o, none⟩ = W.frozen? ⟨k, o, none⟩) : WkB W' lo hi b g r ans := by
  obtain ⟨h1, h2, h3, h4, h5, h6, h7, h8, h9, h10, h11, kb, off, h12, h13, h14, h15, h16⟩ := h
  exact ⟨by omega, h2, h3, h4, h5.keep (by omega) (fun o => hc _ o h2.1 h2.2) (fun o => hf _ o h2.1 h2.2), (hc _ _ h2.1 h2.2).trans h6, fun o => (hf _ _ h3.1 h3.2).trans (h7 o), fun i v e => (hc _ _ h3.1 h3.2).trans (h8 i v e), h9, h10, h11, kb, off, h12, h13, h14, h15, fun i v e => (hc _ _ h13 h14).trans (h16 i v e)⟩
theorem WkB.next (h : WkB W lo hi b g r ans) (hb : Below W.heap.size W W') : WkB W' lo hi b g r ans :=
  h.keep hb.size (fun k o _ h2 => hb.cell (p := ⟨k, o, none⟩) (Nat.lt_of_lt_of_le h2 h.hh)) (fun k o _ h2 => hb.frozen (p := ⟨k, o, none⟩) (Nat.lt_of_lt_of_le h2 h.hh))
theorem WkB.rans (h : WkB W lo hi b g r ans) : Rd W hi (some ⟨g, 0, none⟩) (nv ans) := fun _ => by
  refine ⟨g, 0, rfl, h.gl.2, fun i v hv => ?_⟩
  simp only [nv, List.getElem?_map, Option.map_eq_some_iff] at hv
  obtain ⟨x, hx, rfl⟩ := hv
  rw [Nat.zero_add]
  exact h.gc i x hx
theorem WkB.rkey (h : WkB W lo hi b g r ans) : Rd W hi r.A (sv r.l) := fun _ => by
  obtain ⟨kb, off, h12, h13, h14, h15, h16⟩ := h.kd
  exact ⟨kb, off, h12, h14, h16⟩
theorem WkB.lt (h : WkB W lo hi b g r ans) : b < W.heap.size := Nat.lt_of_lt_of_le h.bl.2 h.hh
end
def any2 (ans : List Int) : Bool := ans.any (nmIs 2)
def any0 (ans : List Int) : Bool := ans.any (nmIs 0)
def wholeB (ans : List Int) : Bool := !any2 ans && !any0 ans
def doneB (ans : List Int) : Bool := any2 ans || !any0 ans

theorem none_any {lo hi b g : Nat} {r : Rec} {ans : List Int} (w : World) (h : WkB w lo hi b g r ans) : Calls Try.prog 56 #[.pointer (some ⟨b, 0, none⟩)] w fun e w' => e = .returned (.bool false) ∧ w = w' := by
  have c11 := h.c11
  have hn := h.rn.1
  have e0 : ((r.n : Int) == 0) = false := by rw [beq_eq_false_iff_ne]; omega
  clear h
  go_enter Try.func56, Try.ntmps56
  go_wp2
  go_ret
  exact ⟨rfl, rfl⟩
theorem none_nil (w : World) : Calls Try.prog 56 #[.pointer none] w fun e w' => e = .returned (.bool true) ∧ w = w' := by
  go_enter Try.func56, Try.ntmps56
  go_wp2
  go_ret
  exact ⟨rfl, rfl⟩
theorem none_zero (b : Nat) (w : World) (h : w.cell? ⟨b, 11, none⟩ = some (.slice none 0 0)) : Calls Try.prog 56 #[.pointer (some ⟨b, 0, none⟩)] w fun e w' => e = .returned (.bool true) ∧ w = w' := by
  go_enter Try.func56, Try.ntmps56
  go_wp2
  go_ret
  exact ⟨rfl, rfl⟩
theorem done_any {lo hi b g : Nat} {r : Rec} {ans : List Int} (w : World) (h : WkB w lo hi b g r ans) : Calls Try.prog 11 #[.pointer (some ⟨b, 0, none⟩)] w fun e w' => e = .returned (.tuple #[.bool (wholeB ans), .bool (doneB ans)]) ∧ w = w' := by
  have H0 := Lib.hid (none_any w h)
  have hc := fun k => ncontains_any (some ⟨g, 0, none⟩) r.n r.n hi ans h.gn (by have := h.rn; omega) k w h.rans
  have h2 := hc 2
  have h0 := hc 0
  have c11 := h.c11
  have e2 : ans.any (nmIs 2) = any2 ans := rfl
  have e0 : ans.any (nmIs 0) = any0 ans := rfl
  rw [e2] at h2
  rw [e0] at h0
  unfold wholeB doneB
  generalize any2 ans = p at *
  generalize any0 ans = q at *
  have H2 := Lib.hid h2; have H3 := Lib.hid h0
  clear h hc h2 h0 e2 e0
  cases p
  · cases q
    · go_enter Try.func11, Try.ntmps11
      go_wp2_with fail
      refine H0.out.mono ?_
      rintro e w' ⟨rfl, rfl⟩
      go_wp2_with fail
      refine H2.out.mono ?_
      rintro e w' ⟨rfl, rfl⟩
      go_wp2_with fail
      refine H3.out.mono ?_
      rintro e w' ⟨rfl, rfl⟩
      go_wp2
      go_ret2
      exact ⟨rfl, rfl⟩
    · go_enter Try.func11, Try.ntmps11
      go_wp2_with fail
      refine H0.out.mono ?_
      rintro e w' ⟨rfl, rfl⟩
      go_wp2_with fail
      refine H2.out.mono ?_
      rintro e w' ⟨rfl, rfl⟩
      go_wp2_with fail
      refine H3.out.mono ?_
      rintro e w' ⟨rfl, rfl⟩
      go_wp2
      go_ret2
      exact ⟨rfl, rfl⟩
  · go_enter Try.func11, Try.ntmps11
    go_wp2_with fail
    refine H0.out.mono ?_
    rintro e w' ⟨rfl, rfl⟩
    go_wp2_with fail
    refine H2.out.mono ?_
    rintro e w' ⟨rfl, rfl⟩
    go_wp2
    go_ret2
    exact ⟨rfl, rfl⟩
theorem wdone_nil ( w : World) : Calls Try.prog 11 #[.pointer none] w fun e w' => e = .returned (.tuple #[.bool false, .bool false]) ∧ w = w' := by
  have H0 := Lib.hid (none_nil w)
  go_enter Try.func11, Try.ntmps11
  go_wp2_with fail
  refine H0.out.mono ?_
  rintro e w' ⟨rfl, rfl⟩
  go_wp2
  go_ret2
  exact ⟨rfl, rfl⟩
theorem wdone_zero (w0 w : World)(b : Nat) (h : w.cell? ⟨b, 11, none⟩ = some (.slice none 0 0)) : Calls Try.prog 11 #[.pointer (some ⟨b, 0, none⟩)] w fun e w' => e = .returned (.tuple #[.bool false, .bool false]) ∧ w = w' := by
  have H0 := Lib.hid (none_zero b w h)
  go_enter Try.func11, Try.ntmps11
  go_wp2_with fail
  refine H0.out.mono ?_
  rintro e w' ⟨rfl, rfl⟩
  go_wp2
  go_ret2
  exact ⟨rfl, rfl⟩
end Go.Proofs.Ythigmjcepbgljaa
