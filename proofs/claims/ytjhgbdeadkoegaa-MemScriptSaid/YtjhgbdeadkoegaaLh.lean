/- A range over a memtable's All, where the body lays memory and writes ahead of the loop. -/
import Derived.Test.YtjhgbdeadkoegaaLg
namespace Go.Proofs.Ytjhgbdeadkoegaa
open Go.RowKit Go.St Go.Shelf Go.Maps
set_option linter.unusedVariables false
set_option linter.unusedSimpArgs false
set_option maxRecDepth 100000
attribute [local go_sem] Oper.semAt_some

/-- One block alone is other. -/
structure Nc (l : Nat) (W W' : World) : Prop where
  os : W'.os = W.os
  tape : W'.tape = W.tape
  output : W'.output = W.output
  size : W'.heap.size = W.heap.size
  block : ∀ b, b ≠ l → W'.heap[b]? = W.heap[b]?
theorem Nc.put (l : Nat) (W : World) (o : Obj) : Nc l W (W.putObj l o) := ⟨rfl, rfl, rfl, by simp [World.putObj], fun b hb => World.putObj_heap_other (by omega)⟩
theorem Nc.below {l : Nat} {W W' : World} (h : Nc l W W') {B : Nat} (hB : B ≤ l) : Below B W W' := ⟨h.os, h.tape, h.output, by rw [h.size]; exact Nat.le_refl _, fun k hk => h.block k (by omega)⟩
/-- How a round's body may be left. -/
def RoundEnds (R : Nat → World → Prop) (X : World → Prop) (B id k : Nat) (W2 : World) : Exit → Act → World → Prop
  | .normal, _, W' => R (k + 1) W' ∧ W2.heap.size ≤ W'.heap.size ∧ W'.heap[B]? = W2.heap[B]? ∧ W'.heap[B + 1]? = W2.heap[B + 1]?
  | .exit i, _, W' => i = id ∧ X W' ∧ W2.heap.size ≤ W'.heap.size ∧ W'.heap[B]? = W2.heap[B]? ∧ W'.heap[B + 1]? = W2.heap[B + 1]?
  | _, _, _ => False
theorem range_mem {ps : Array Tmp} {assign body : Code} {Q : Exit → Act → World → Prop} {a : Act} {w : World} (n : Nat) (hn : 3 ≤ n) (g : Operand) (id Bx : Nat) (v : Option Addr) (ls : List Ent) (h6 : ls.length ≤ 100000) (w0 : World) (hi : Itr w0 v ls)
    (hg : a.eval g = .func (.func 51) #[] #[.pointer (some ⟨Bx, 0, none⟩)]) (hps : ps.size = 1)
    (hBx : w.cell? ⟨Bx, 0, none⟩ = some (.pointer v)) (hlt : Bx < w.heap.size)
    (R : Nat → World → Prop) (X : World → Prop) (hRb : ∀ k W, R k W → Below w0.heap.size w0 W)
    (hR : ∀ k W W', R k W → Nc (w.heap.size + 1) W W' → (∃ L, W.heap[w.heap.size + 1]? = some (.loop L)) → R k W') (hX : ∀ W W', X W → Nc (w.heap.size + 1) W W' → (∃ L, W.heap[w.heap.size + 1]? = some (.loop L)) → X W')
    (h0 : ∀ W, Below w.heap.size w W → R 0 W)
    (hround : ∀ (l k : Nat) (x : Ent) (hk : ls[k]? = some x) (W : World) (K : Act → World → Prop), R k W → W.heap[w.heap.size]? = some (.deferred (some [])) → (∃ L, W.heap[w.heap.size + 1]? = some (.loop L)) →
      (∀ a₁ W1, W.heap.size ≤ W1.heap.size → W1.heap[w.heap.size]? = W.heap[w.heap.size]? → W1.heap[w.heap.size + 1]? = W.heap[w.heap.size + 1]? →
        (∀ W2, Nc (w.heap.size + 1) W1 W2 → W2.heap[w.heap.size]? = some (.deferred (some [])) → (∃ L, W2.heap[w.heap.size + 1]? = some (.loop L)) → body.wpIn (Fence.wide.inRound l) (n - 1 - 1) Try.prog (RoundEnds R X w.heap.size id k W2) a₁ W2) → K a₁ W1) →
      assign.wpIn (Fence.wide.inRound l) (n - 1 - 1) Try.prog (Exit.then K (fun _ _ _ => False)) { tmps := (ps.zip #[.agg #[.string x.key, .string x.val, .int .i64 x.seq, .bool x.del]]).foldl (fun t (p, v) => t.setIfInBounds p v) a.tmps, defers := [] } W)
    (hdone : ∀ W, R ls.length W → W.heap[w.heap.size]? = some (.deferred (some [])) → Q .normal { a with defers := { target := .collected w.heap.size, args := #[] } :: a.defers } W)
    (hstop : ∀ W, X W → W.heap[w.heap.size]? = some (.deferred (some [])) → (Code.exit id).wpIn Fence.wide n Try.prog Q { a with defers := { target := .collected w.heap.size, args := #[] } :: a.defers } W) :
    (Code.rangeFunc g ps assign body).wpIn Fence.wide n Try.prog Q a w := by
  refine wpIn_rangeFunc fun fn _ => ?_
  obtain ⟨rc, hrc⟩ : ∃ rc : LoopState → Option Code → Loop, rc = fun s p => { state := s, pending := p, fn, tmps := a.tmps, params := ps, assign, body, defers := w.heap.size } := ⟨_, rfl⟩
  -- the record and its block
  let T : LoopState → Option Code → World → Prop := fun s p W => W.heap[w.heap.size + 1]? = some (.loop (rc s p)) ∧ W.heap[w.heap.size]? = some (.deferred (some []))
  have hT : ∀ s p s' p' W, T s p W → T s' p' (W.putObj (w.heap.size + 1) (.loop (rc s' p'))) := fun s p s' p' W h =>
    ⟨World.putObj_heap_same (Array.getElem?_eq_some_iff.1 h.1).1, (World.putObj_heap_other (by omega)).trans h.2⟩
  let W1 := (w.alloc (.deferred (some []))).alloc (.loop (rc .ready none))
  have hB1 : Below w.heap.size w W1 := ((Below.refl _ _).alloc (Nat.le_refl _) _).alloc (by simp) _
  have hT1 : T .ready none W1 := by
    refine ⟨?_, ?_⟩
    · have := World.alloc_heap_new (w.alloc (.deferred (some []))) (.loop (rc .ready none))
      rwa [World.size_alloc] at this
    · exact (Below.heap_alloc _ _ _ (by simp)).trans (World.alloc_heap_new w _)
  refine ⟨w.heap.size + 1, [{ target := .collected w.heap.size, args := #[] }], W1, { target := .fn (.func 51) #[.pointer (some ⟨Bx, 0, none⟩)], args := #[.func (.yield (w.heap.size + 1)) #[] #[]] }, W1, 51,
    #[.func (.yield (w.heap.size + 1)) #[] #[], .pointer (some ⟨Bx, 0, none⟩)], W1, ?_, ?_, fun _ _ => trivial, ?_, fun _ => by omega, ?_⟩
  · have := run_enterLoop_outer (P := Try.prog) (w := w) fn a.tmps ps assign body
    rw [show W1 = (w.alloc (.deferred (some []))).alloc (.loop (rc .ready none)) from rfl, hrc]
    exact this
  · simp only [resolve, hg]
    simp [go_sem]
  · simp [invoke, go_sem]
  · refine (all1_in (n - 1) (by omega) (w.heap.size + 1) Bx v ls h6 w0 hi (fun k W => R k W ∧ T .ready none W) (fun _ W => X W ∧ T .done (some (.exit id)) W) (fun k W h => hRb k W h.1) ?_ W1 ((hB1.cell (p := ⟨Bx, 0, none⟩) (by show Bx < _; omega)).trans hBx) ⟨h0 _ hB1, hT1⟩).mono ?_
    · rintro k W x ⟨h1, h2⟩ hk
      have hy := run_yield (P := Try.prog) (args := #[.agg #[.string x.key, .string x.val, .int .i64 x.seq, .bool x.del]]) h2.1 (by rw [hrc]; simp [hps])
      rw [hrc] at hy
      have e : ({ rc .ready none with state := .busy } : Loop) = rc .busy none := by rw [hrc]
      have fin : ∀ (j : Option Code) (W3 : World), T .busy none W3 → (Instr.endRound (w.heap.size + 1) j).run Try.prog W3 = .ok (.bool j.isNone) (W3.putObj (w.heap.size + 1) (.loop (rc (if j.isNone then .ready else .done) j))) := fun j W3 h => by
        have := run_endRound (P := Try.prog) j h.1
        rw [hrc] at this ⊢
        exact this
      refine ⟨fn, _, assign, body, hy, roundIn_of_wpIn trivial (hround _ k x hk W _ h1 h2.2 ⟨_, h2.1⟩ fun a₁ V hs hd hl hbd => ?_)⟩
      have hV : T .ready none V := ⟨hl.trans h2.1, hd.trans h2.2⟩
      have h3 : T .busy none (V.putObj (w.heap.size + 1) (.loop (rc .busy none))) := hT _ _ _ _ V hV
      refine ⟨V.putObj (w.heap.size + 1) (.loop (rc .busy none)), by have := run_beginRound (P := Try.prog) hV.1 (by rw [hrc]); rw [e] at this; exact this, wpIn_mono (hbd _ (Nc.put _ _ _) h3.2 ⟨_, h3.1⟩) ?_⟩
      rintro ex a3 W3 hp
      cases ex with
      | normal =>
        obtain ⟨p1, p2, p3, p4⟩ := hp
        have h4 : T .busy none W3 := ⟨p4.trans h3.1, p3.trans h3.2⟩
        exact ⟨_, _, fin none W3 h4, .inl ⟨rfl, hR _ _ _ p1 (Nc.put _ _ _) ⟨_, h4.1⟩, hT _ _ _ _ W3 h4⟩⟩
      | exit i =>
        obtain ⟨rfl, p1, p2, p3, p4⟩ := hp
        have h4 : T .busy none W3 := ⟨p4.trans h3.1, p3.trans h3.2⟩
        exact ⟨_, _, fin (some (.exit i)) W3 h4, .inr ⟨rfl, hX _ _ p1 (Nc.put _ _ _) ⟨_, h4.1⟩, hT _ _ _ _ W3 h4⟩⟩
      | ret => exact hp.elim
      | goto _ => exact hp.elim
      | panic _ => exact hp.elim
      | outgrown => exact hp.elim
    · rintro ex W2 ⟨⟨u, rfl⟩, h | ⟨k, hk, h⟩⟩
      · refine ⟨none, _, by have := run_endLoop (P := Try.prog) h.2.1 (by rw [hrc]; simp); rw [hrc] at this; exact this, hdone _ (hR _ _ _ h.1 (Nc.put _ _ _) ⟨_, h.2.1⟩) ((World.putObj_heap_other (by omega)).trans h.2.2)⟩
      · refine ⟨some (.exit id), _, by have := run_endLoop (P := Try.prog) h.2.1 (by rw [hrc]; simp); rw [hrc] at this; exact this, hstop _ (hX _ _ h.1 (Nc.put _ _ _) ⟨_, h.2.1⟩) ((World.putObj_heap_other (by omega)).trans h.2.2)⟩
end Go.Proofs.Ytjhgbdeadkoegaa
