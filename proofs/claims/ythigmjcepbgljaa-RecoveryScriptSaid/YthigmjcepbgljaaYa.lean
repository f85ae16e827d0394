/- Walks: the document's work in memory; is it none, is it done. -/
import Derived.Test.YthigmjcepbgljaaWc
namespace Go.Proofs.Ythigmjcepbgljaa
open Go.RowKit Go.St
set_option linter.unusedVariables false
set_option linter.unusedSimpArgs false
set_option maxRecDepth 100000

/-- The document's work at block b: whether there was an answer lies at block g, whether it was yes at block y. -/
structure RkB (W : World) (lo hi b g y : Nat) (r : Rec) (ans : List Int) : Prop where
  hh : hi ≤ W.heap.size
  bl : lo ≤ b ∧ b < hi
  gl : lo ≤ g ∧ g < hi
  yl : lo ≤ y ∧ y < hi
  bg : b ≠ g
  by_ : b ≠ y
  gy : g ≠ y
  c0 : W.cell? ⟨b, 0, none⟩ = some (.bool true)
  rc : ∀ (i : Nat) (v : Value), r.cells[i]? = some v → W.cell? ⟨b, i + 1, none⟩ = some v
  c12 : W.cell? ⟨b, 12, none⟩ = some (.slice (some ⟨g, 0, none⟩) r.n r.n)
  c13 : W.cell? ⟨b, 13, none⟩ = some (.slice (some ⟨y, 0, none⟩) r.n r.n)
  gf : ∀ o, W.frozen? ⟨g, o, none⟩ = false
  yf : ∀ o, W.frozen? ⟨y, o, none⟩ = false
  gc : ∀ (i : Nat) (v : Int), ans[i]? = some v → W.cell? ⟨g, i, none⟩ = some (.bool (v != 0)) ∧ W.cell? ⟨y, i, none⟩ = some (.bool (v == 1))
  av : ∀ v ∈ ans, v = 0 ∨ v = 1 ∨ v = 2
  gn : ans.length = r.n
  rn : 0 < r.n ∧ r.n ≤ 24
  rl : fit r
  kd : ∃ kb off, r.A = some ⟨kb, off, none⟩ ∧ lo ≤ kb ∧ kb < hi ∧ kb ≠ g ∧ kb ≠ y ∧ ∀ i v, (sv r.l)[i]? = some v → W.cell? ⟨kb, off + i, none⟩ = some v
section
variable {W W' : World} {lo hi b g y : Nat} {r : Rec} {ans : List Int}
theorem RkB.keep (h : RkB W lo hi b g y r ans) (hs : W.heap.size ≤ W'.heap.size) (hc : ∀ k o, lo ≤ k → k < hi → W'.cell? ⟨k, o, none⟩ = W.cell? ⟨k, o, none⟩) (hf : ∀ k o, lo ≤ k → k < hi → W'.frozen? ⟨k, o, none⟩ = W.frozen? ⟨k, o, none⟩) : RkB W' lo hi b g y r ans := by
  obtain ⟨h1, h2, h3, h4, h5, h6, h7, h8, h9, h10, h11, h12, h13, h14, h15, h16, h17, h18, kb, off, k1, k2, k3, k4, k5, k6⟩ := h
  exact ⟨by omega, h2, h3, h4, h5, h6, h7, (hc _ _ h2.1 h2.2).trans h8, fun i v e => (hc _ _ h2.1 h2.2).trans (h9 i v e), (hc _ _ h2.1 h2.2).trans h10, (hc _ _ h2.1 h2.2).trans h11, fun o => (hf _ _ h3.1 h3.2).trans (h12 o), fun o => (hf _ _ h4.1 h4.2).trans (h13 o),
    fun i v e => ⟨(hc _ _ h3.1 h3.2).trans (h14 i v e).1, (hc _ _ h4.1 h4.2).trans (h14 i v e).2⟩, h15, h16, h17, h18, kb, off, k1, k2, k3, k4, k5, fun i v e => (hc _ _ k2 k3).trans (k6 i v e)⟩
theorem RkB.next (h : RkB W lo hi b g y r ans) (hb : Below W.heap.size W W') : RkB W' lo hi b g y r ans :=
  h.keep hb.size (fun k o _ h2 => hb.cell (p := ⟨k, o, none⟩) (Nat.lt_of_lt_of_le h2 h.hh)) (fun k o _ h2 => hb.frozen (p := ⟨k, o, none⟩) (Nat.lt_of_lt_of_le h2 h.hh))
theorem RkB.rkey (h : RkB W lo hi b g y r ans) : Rd W hi r.A (sv r.l) := fun _ => by
  obtain ⟨kb, off, k1, k2, k3, k4, k5, k6⟩ := h.kd
  exact ⟨kb, off, k1, k3, k6⟩
theorem RkB.c7 (h : RkB W lo hi b g y r ans) : W.cell? ⟨b, 7, none⟩ = some (.slice r.A r.n r.c) := h.rc 6 _ rfl
end
theorem rnone_any {lo hi b g y : Nat} {r : Rec} {ans : List Int} (w : World) (h : RkB w lo hi b g y r ans) : Calls Try.prog 64 #[.pointer (some ⟨b, 0, none⟩)] w fun e w' => e = .returned (.bool false) ∧ w = w' := by
  have c0 := h.c0
  clear h
  go_enter Try.func64, Try.ntmps64
  go_wp2
  go_ret
  exact ⟨rfl, rfl⟩
theorem any_snoc {p : Int → Bool} {l : List Int} {k : Nat} (h : k < l.length) : (l.take (k + 1)).any p = ((l.take k).any p || p l[k]) := by
  rw [take_snoc l k h, List.any_append]; simp
set_option maxHeartbeats 800000 in
theorem rdone_any {lo hi b g y : Nat} {r : Rec} {ans : List Int} (w : World) (h : RkB w lo hi b g y r ans) : Calls Try.prog 25 #[.pointer (some ⟨b, 0, none⟩)] w fun e w' => e = .returned (.tuple #[.bool (wholeB ans), .bool (doneB ans)]) ∧ w = w' := by
  have H0 := Lib.hid (rnone_any w h)
  have HG := Lib.hid h.gc
  have HV := Lib.hid h.av
  have HN := Lib.hid h.gn
  have hn := h.rn.2
  have c12 := h.c12
  have c13 := h.c13
  clear h
  generalize r.n = n at *
  go_enter Try.func25, Try.ntmps25
  go_wp2_with fail
  refine H0.out.mono ?_
  rintro e w' ⟨rfl, rfl⟩
  go_wp2
  go_loop [4, 5] (fun a i => ∃ k : Nat, k ≤ n ∧ i = .int .i64 k ∧ a = .bool (!(ans.take k).any (nmIs 0)) ∧ Hid ((ans.take k).any (nmIs 2) = false)) (fun _ i => n - (intOf i).toNat)
  case atStart => exact ⟨0, Nat.zero_le _, rfl, by simp, Lib.hid (by simp)⟩
  case round =>
    obtain ⟨k, hk, rfl, rfl, h2⟩ := hrel
    by_cases hlt : k < n
    · have k1 : k < ans.length := by rw [HN.out]; exact hlt
      obtain ⟨hg, hy⟩ := HG.out k ans[k] (by simp [k1])
      have hs0 := any_snoc (p := nmIs 0) k1
      have hs2 := any_snoc (p := nmIs 2) k1
      have HM := Lib.hid (List.getElem_mem k1)
      rw [h2.out, Bool.false_or] at hs2
      rcases HV.out _ (List.getElem_mem k1) with hv | hv | hv
      · rw [hv] at hg hy hs0 hs2
        have HS0 := Lib.hid hs0; have HS2 : Hid ((ans.take (k + 1)).any (nmIs 2) = false) := Lib.hid (hs2.trans (by decide))
        clear hs0 hs2 hv HM
        generalize (ans.take k).any (nmIs 0) = q at *
        cases q
        all_goals
          go_wp2
          exact ⟨⟨k + 1, by omega, by go_num, by rw [HS0.out]; rfl, HS2⟩, by simp [intOf]; omega⟩
      · rw [hv] at hg hy hs0 hs2
        have HS0 := Lib.hid hs0; have HS2 : Hid ((ans.take (k + 1)).any (nmIs 2) = false) := Lib.hid (hs2.trans (by decide))
        clear hs0 hs2 hv HM
        generalize (ans.take k).any (nmIs 0) = q at *
        cases q
        all_goals
          go_wp2
          exact ⟨⟨k + 1, by omega, by go_num, by rw [HS0.out]; rfl, HS2⟩, by simp [intOf]; omega⟩
      · have HT : Hid (any2 ans = true) := Lib.hid (List.any_eq_true.2 ⟨ans[k], List.getElem_mem k1, by rw [hv]; decide⟩)
        rw [hv] at hg hy
        clear hs0 hs2 hv HM
        go_wp2
        go_ret2
        unfold wholeB doneB
        rw [HT.out]
        exact ⟨rfl, rfl⟩
    · obtain rfl : n = k := by omega
      have h3 := h2.out
      rw [List.take_of_length_le (by rw [HN.out]; omega)] at h3 ⊢
      have H3 : Hid (any2 ans = false) := Lib.hid h3
      have e0 : ans.any (nmIs 0) = any0 ans := rfl
      rw [e0]
      clear h3 h2 e0
      go_wp2
      go_ret2
      unfold wholeB doneB
      rw [H3.out]
      exact ⟨by simp, rfl⟩
end Go.Proofs.Ythigmjcepbgljaa
