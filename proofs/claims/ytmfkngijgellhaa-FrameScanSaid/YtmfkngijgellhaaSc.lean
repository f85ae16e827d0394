/- A range over frame.Each's function: the statement's law, where a round reads what it is handed. -/
import Derived.Test.YtmfkngijgellhaaSb
namespace Go.Proofs.Ytmfkngijgellhaa
open Go.RowKit Go.St Go.Shelf
set_option linter.unusedVariables false

theorem putObj_below {w W : World} {l : Nat} (o : Obj) (h : w.heap.size ≤ l) : Below w.heap.size W (W.putObj l o) :=
  ⟨rfl, rfl, rfl, by simp [World.putObj], fun k hk => World.putObj_heap_other (by omega)⟩

/-- How a round's body may be left. -/
def RoundEnds (R : Nat → World → Prop) (X : World → Prop) (B n₀ id k : Nat) (W1 : World) : Exit → Act → World → Prop
  | .normal, _, W' => R (k + 1) W' ∧ Below n₀ W1 W' ∧ W1.heap.size ≤ W'.heap.size ∧ ∀ b, B ≤ b → b < W1.heap.size → W'.heap[b]? = W1.heap[b]?
  | .exit i, _, W' => i = id ∧ X W' ∧ W1.heap.size ≤ W'.heap.size ∧ ∀ b, B ≤ b → b < W1.heap.size → W'.heap[b]? = W1.heap[b]?
  | _, _, _ => False

theorem range_each {ps : Array Tmp} {assign body : Code} {Q : Exit → Act → World → Prop} {a : Act} {w : World} (n : Nat) (hn : 3 ≤ n) (g : Operand) (id Bx n₀ : Nat) (A : Option Addr) (len c : Nat) (bs : List UInt8)
    (hg : a.eval g = .func (.func 49) #[] #[.pointer (some ⟨Bx, 0, none⟩)]) (hps : ps.size = 2) (hl : bs.length = len) (h6 : len ≤ 1000000) (hc : len ≤ c) (rs : List (List UInt8)) (hrs : (scanF bs).1 = rs)
    (hBx : w.cell? ⟨Bx, 0, none⟩ = some (.slice A len c)) (hlt : Bx < n₀) (hr : Rd w n₀ A (bv bs)) (hn0 : n₀ ≤ w.heap.size)
    (R : Nat → World → Prop) (X : World → Prop) (hR : ∀ k W W', R k W → Below w.heap.size W W' → R k W') (hX : ∀ W W', X W → Below w.heap.size W W' → X W') (h0 : R 0 w)
    (hround : ∀ (l k : Nat) (A1 : Option Addr) (c1 : Nat) (hk : k < rs.length) (W W2 : World) (K : Act → World → Prop), R k W2 → Rd W2 W2.heap.size A1 (bv rs[k]) → rs[k].length ≤ c1 → w.heap.size ≤ W2.heap.size →
      (∀ a₁, body.wpIn (Fence.wide.inRound l) (n - 1 - 1) Try.prog (RoundEnds R X w.heap.size n₀ id k W2) a₁ W2 → K a₁ W) →
      assign.wpIn (Fence.wide.inRound l) (n - 1 - 1) Try.prog (Exit.then K (fun _ _ _ => False)) { tmps := (ps.zip #[.int .i64 (endAt rs k : Nat), .slice A1 rs[k].length c1]).foldl (fun t (p, v) => t.setIfInBounds p v) a.tmps, defers := [] } W)
    (hdone : ∀ W, R rs.length W → W.heap[w.heap.size]? = some (.deferred (some [])) → Q .normal { a with defers := { target := .collected w.heap.size, args := #[] } :: a.defers } W)
    (hstop : ∀ W, X W → W.heap[w.heap.size]? = some (.deferred (some [])) → (Code.exit id).wpIn Fence.wide n Try.prog Q { a with defers := { target := .collected w.heap.size, args := #[] } :: a.defers } W) :
    (Code.rangeFunc g ps assign body).wpIn Fence.wide n Try.prog Q a w := by
  subst hrs
  refine wpIn_rangeFunc fun fn _ => ?_
  obtain ⟨rc, hrc⟩ : ∃ rc : LoopState → Option Code → Loop, rc = fun s p => { state := s, pending := p, fn, tmps := a.tmps, params := ps, assign, body, defers := w.heap.size } := ⟨_, rfl⟩
  -- the record and its block
  let T : LoopState → Option Code → World → Prop := fun s p W => W.heap[w.heap.size + 1]? = some (.loop (rc s p)) ∧ W.heap[w.heap.size]? = some (.deferred (some []))
  have hT : ∀ s p s' p' W, T s p W → T s' p' (W.putObj (w.heap.size + 1) (.loop (rc s' p'))) := fun s p s' p' W h =>
    ⟨World.putObj_heap_same (Array.getElem?_eq_some_iff.1 h.1).1, (World.putObj_heap_other (by omega)).trans h.2⟩
  have hTs : ∀ s p W, T s p W → w.heap.size + 1 < W.heap.size := fun s p W h => (Array.getElem?_eq_some_iff.1 h.1).1
  have hTk : ∀ s p W W', T s p W → W.heap.size ≤ W'.heap.size → (∀ b, w.heap.size ≤ b → b < W.heap.size → W'.heap[b]? = W.heap[b]?) → T s p W' := fun s p W W' h _ hk => by
    have := hTs s p W h
    exact ⟨(hk _ (by omega) this).trans h.1, (hk _ (Nat.le_refl _) (by omega)).trans h.2⟩
  let W1 := (w.alloc (.deferred (some []))).alloc (.loop (rc .ready none))
  have hB1 : Below w.heap.size w W1 := ((Below.refl _ _).alloc (Nat.le_refl _) _).alloc (by simp) _
  have hT1 : T .ready none W1 := by
    refine ⟨?_, ?_⟩
    · have := World.alloc_heap_new (w.alloc (.deferred (some []))) (.loop (rc .ready none))
      rwa [World.size_alloc] at this
    · exact (Below.heap_alloc _ _ _ (by simp)).trans (World.alloc_heap_new w _)
  refine ⟨w.heap.size + 1, [{ target := .collected w.heap.size, args := #[] }], W1, { target := .fn (.func 49) #[.pointer (some ⟨Bx, 0, none⟩)], args := #[.func (.yield (w.heap.size + 1)) #[] #[]] }, W1, 49,
    #[.func (.yield (w.heap.size + 1)) #[] #[], .pointer (some ⟨Bx, 0, none⟩)], W1, ?_, ?_, fun _ _ => trivial, ?_, fun _ => by omega, ?_⟩
  · have := run_enterLoop_outer (P := Try.prog) (w := w) fn a.tmps ps assign body
    rw [show W1 = (w.alloc (.deferred (some []))).alloc (.loop (rc .ready none)) from rfl, hrc]
    exact this
  · simp only [resolve, hg]
    simp [go_sem]
  · simp [invoke, go_sem]
  · refine (each1_in (n - 1) (by omega) (w.heap.size + 1) n₀ Bx A len c bs hl h6 hc (fun k W => R k W ∧ T .ready none W) (fun _ W => X W ∧ T .done (some (.exit id)) W) ?_ ?_ W1 ((hB1.cell (p := ⟨Bx, 0, none⟩) (by show Bx < _; omega)).trans hBx) hlt (hr.below (hB1.mono hn0)) (Nat.le_trans hn0 hB1.size) ⟨hR 0 _ _ h0 hB1, hT1⟩).mono ?_
    · rintro k W W' ⟨h1, h2⟩ hb
      exact ⟨hR k W W' h1 (hb.mono (by have := hTs _ _ W h2; omega)), hTk _ _ W W' h2 hb.size (fun b _ hb' => hb.block b hb')⟩
    · rintro k W A1 c1 ⟨h1, h2⟩ hk hrd hc1
      have hs := hTs _ _ W h2
      have hy := run_yield (P := Try.prog) (args := #[.int .i64 (endAt (scanF bs).1 k : Nat), .slice A1 (scanF bs).1[k].length c1]) h2.1 (by rw [hrc]; simp [hps])
      rw [hrc] at hy
      have e : ({ rc .ready none with state := .busy } : Loop) = rc .busy none := by rw [hrc]
      obtain ⟨W2, hW2⟩ : ∃ W2, W.putObj (w.heap.size + 1) (.loop (rc .busy none)) = W2 := ⟨_, rfl⟩
      have hb2 : Below w.heap.size W W2 := by rw [← hW2]; exact putObj_below (w := w) _ (by omega)
      have hz2 : W2.heap.size = W.heap.size := by rw [← hW2]; simp [World.putObj]
      have h3 : T .busy none W2 := by rw [← hW2]; exact hT _ _ _ _ W h2
      have hrd2 : Rd W2 W2.heap.size A1 (bv (scanF bs).1[k]) := by
        intro hne
        obtain ⟨b, off, e1, hb, hcell⟩ := hrd hne
        refine ⟨b, off, e1, by omega, fun i v hv => ?_⟩
        have h5 := hcell i v hv
        have hbl : b ≠ w.heap.size + 1 := by
          rintro rfl
          have h6 := h2.1
          simp [World.cell?, h6] at h5
        rw [← hW2]
        exact (World.cell?_of_block (w := W) (World.putObj_heap_other hbl)).trans h5
      have fin : ∀ (j : Option Code) (W3 : World), T .busy none W3 → (Instr.endRound (w.heap.size + 1) j).run Try.prog W3 = .ok (.bool j.isNone) (W3.putObj (w.heap.size + 1) (.loop (rc (if j.isNone then .ready else .done) j))) := fun j W3 h => by
        have := run_endRound (P := Try.prog) j h.1
        rw [hrc] at this ⊢
        exact this
      refine ⟨fn, _, assign, body, hy, roundIn_of_wpIn trivial (hround _ k A1 c1 hk W W2 _ (hR k _ _ h1 hb2) hrd2 hc1 (by rw [hz2]; omega) fun a₁ hbd => ⟨W2, by have := run_beginRound (P := Try.prog) h2.1 (by rw [hrc]); rw [e, hW2] at this; exact this, wpIn_mono hbd ?_⟩)⟩
      rintro e a3 W3 hp
      cases e with
      | normal =>
        obtain ⟨p1, p2, p3, p4⟩ := hp
        have h4 := hTk _ _ W2 W3 h3 p3 p4
        have h5 := putObj_below (w := w) (W := W3) (l := w.heap.size + 1) (.loop (rc .ready none)) (by omega)
        exact ⟨_, _, fin none W3 h4, .inl ⟨rfl, ⟨hR _ _ _ p1 h5, hT _ _ _ _ W3 h4⟩, ((hb2.mono hn0).trans p2).trans (h5.mono hn0)⟩⟩
      | exit i =>
        obtain ⟨rfl, p1, p3, p4⟩ := hp
        have h4 := hTk _ _ W2 W3 h3 p3 p4
        have h5 := putObj_below (w := w) (W := W3) (l := w.heap.size + 1) (.loop (rc .done (some (.exit i)))) (by omega)
        exact ⟨_, _, fin (some (.exit i)) W3 h4, .inr ⟨rfl, hX _ _ p1 h5, hT _ _ _ _ W3 h4⟩⟩
      | ret => exact hp.elim
      | goto _ => exact hp.elim
      | panic _ => exact hp.elim
      | outgrown => exact hp.elim
    · rintro e W2 ⟨⟨v, rfl⟩, h | ⟨k, hk, h⟩⟩
      · have h5 := fun o => putObj_below (w := w) (W := W2) (l := w.heap.size + 1) o (by omega)
        refine ⟨none, _, by have := run_endLoop (P := Try.prog) h.2.1 (by rw [hrc]; simp); rw [hrc] at this; exact this, hdone _ (hR _ _ _ h.1 (h5 _)) ((World.putObj_heap_other (by omega)).trans h.2.2)⟩
      · have h5 := fun o => putObj_below (w := w) (W := W2) (l := w.heap.size + 1) o (by omega)
        refine ⟨some (.exit id), _, by have := run_endLoop (P := Try.prog) h.2.1 (by rw [hrc]; simp); rw [hrc] at this; exact this, hstop _ (hX _ _ h.1 (h5 _)) ((World.putObj_heap_other (by omega)).trans h.2.2)⟩
end Go.Proofs.Ytmfkngijgellhaa
