/- Two nets beside each other: the program's and the document's; their steps. -/
import Derived.Test.YtlpdihcgdgkkbaaNa
import Derived.Test.YtlpdihcgdgkkbaaSs
namespace Go.Proofs.Ytlpdihcgdgkkbaa
open Go.RowKit Go.St
set_option linter.unusedVariables false
set_option linter.unusedSimpArgs false
set_option maxRecDepth 100000

theorem NetP.keep {W W' : World} {base b : Nat} {v : Value} {F : Nat → Prop} {s : Nt} (h : NetP W base b v F s) (hs : W.heap.size ≤ W'.heap.size) (hk : ∀ k, k < W.heap.size → (k = b ∨ v.ownBlock = some k ∨ F k) → W'.heap[k]? = W.heap[k]?) : NetP W' base b v F s := by
  obtain ⟨l, e, h⟩ := h; exact ⟨l, e, h.keep hs hk⟩
theorem NetR.keep {W W' : World} {base b : Nat} {v : Value} {F : Nat → Prop} {s : Nt} (h : NetR W base b v F s) (hs : W.heap.size ≤ W'.heap.size) (hk : ∀ k, k < W.heap.size → (k = b ∨ v.ownBlock = some k ∨ F k) → W'.heap[k]? = W.heap[k]?) : NetR W' base b v F s := by
  obtain ⟨l, e, h⟩ := h; exact ⟨l, e, h.keep hs hk⟩
theorem NetR.lt {W : World} {base b : Nat} {v : Value} {F : Nat → Prop} {s : Nt} (h : NetR W base b v F s) : base ≤ b ∧ b < W.heap.size := by
  obtain ⟨l, _, h⟩ := h; exact ⟨h.lo, h.lt⟩
theorem NetR.rowlt {W : World} {base b : Nat} {v : Value} {F : Nat → Prop} {s : Nt} (h : NetR W base b v F s) {g : Nat} (hg : v.ownBlock = some g) : base ≤ g ∧ g < W.heap.size := by
  obtain ⟨l, _, h⟩ := h; exact h.own.lt g hg
theorem NetP.Fp {W : World} {base b : Nat} {v : Value} {F : Nat → Prop} {s : Nt} (h : NetP W base b v F s) {k : Nat} (hk : F k) : k < W.heap.size ∧ k ≠ b ∧ v.ownBlock ≠ some k := by
  obtain ⟨l, _, h⟩ := h; exact ⟨(h.Fp k hk).1, (h.Fp k hk).2.2⟩
theorem NetR.Fp {W : World} {base b : Nat} {v : Value} {F : Nat → Prop} {s : Nt} (h : NetR W base b v F s) {k : Nat} (hk : F k) : k < W.heap.size ∧ k ≠ b ∧ v.ownBlock ≠ some k := by
  obtain ⟨l, _, h⟩ := h; exact ⟨(h.Fp k hk).1, (h.Fp k hk).2.2⟩
theorem NetR.fr_below {W w' : World} {base b : Nat} {v : Value} {F : Nat → Prop} {s : Nt} (h : NetR W base b v F s) (hf : Fr b v.ownBlock W w') : Below base W w' := by
  have h1 := h.lt
  exact hf.to_below (by omega) h1.1 (fun g e => (h.rowlt e).1)
/-- Two nets that share no memory. -/
structure Pr (W : World) (base bp br : Nat) (vp vr : Value) (Fp Fr_ : Nat → Prop) (sp sr : Nt) : Prop where
  p : NetP W base bp vp Fp sp
  r : NetR W base br vr Fr_ sr
  b1 : bp ≠ br
  b2 : vp.ownBlock ≠ some br
  b3 : vr.ownBlock ≠ some bp
  b4 : ∀ k, vp.ownBlock = some k → vr.ownBlock ≠ some k
  f1 : ∀ k, Fp k → k ≠ br ∧ vr.ownBlock ≠ some k
  f2 : ∀ k, Fr_ k → k ≠ bp ∧ vp.ownBlock ≠ some k
/-- A block that is none of theirs. -/
structure Sf (W : World) (bp br : Nat) (vp vr : Value) (Fp Fr_ : Nat → Prop) (k : Nat) : Prop where
  lt : k < W.heap.size
  n1 : k ≠ bp
  n2 : k ≠ br
  n3 : vp.ownBlock ≠ some k
  n4 : vr.ownBlock ≠ some k
  n5 : ¬ Fp k
  n6 : ¬ Fr_ k
theorem Pr.keep {W W' : World} {base bp br : Nat} {vp vr : Value} {Fp Fr_ : Nat → Prop} {sp sr : Nt} (h : Pr W base bp br vp vr Fp Fr_ sp sr) (hs : W.heap.size ≤ W'.heap.size)
    (hk : ∀ k, k < W.heap.size → ¬ Sf W bp br vp vr Fp Fr_ k → W'.heap[k]? = W.heap[k]?) : Pr W' base bp br vp vr Fp Fr_ sp sr :=
  ⟨h.p.keep hs (fun k h1 h2 => hk k h1 (fun hf => by rcases h2 with h2 | h2 | h2; exact hf.n1 h2; exact hf.n3 h2; exact hf.n5 h2)),
    h.r.keep hs (fun k h1 h2 => hk k h1 (fun hf => by rcases h2 with h2 | h2 | h2; exact hf.n2 h2; exact hf.n4 h2; exact hf.n6 h2)), h.b1, h.b2, h.b3, h.b4, h.f1, h.f2⟩
theorem Pr.next {W W' : World} {base bp br : Nat} {vp vr : Value} {Fp Fr_ : Nat → Prop} {sp sr : Nt} (h : Pr W base bp br vp vr Fp Fr_ sp sr) (hb : Below W.heap.size W W') : Pr W' base bp br vp vr Fp Fr_ sp sr :=
  h.keep hb.size (fun k hk _ => hb.block k hk)
theorem Sf.next {W W' : World} {bp br : Nat} {vp vr : Value} {Fp Fr_ : Nat → Prop} {k : Nat} (h : Sf W bp br vp vr Fp Fr_ k) (hb : Below W.heap.size W W') : Sf W' bp br vp vr Fp Fr_ k :=
  ⟨Nat.lt_of_lt_of_le h.lt hb.size, h.n1, h.n2, h.n3, h.n4, h.n5, h.n6⟩
/-- A new block is none of theirs. -/
theorem Pr.newSf {W W' : World} {base bp br : Nat} {vp vr : Value} {Fp Fr_ : Nat → Prop} {sp sr : Nt} (h : Pr W base bp br vp vr Fp Fr_ sp sr) {k : Nat} (h1 : W.heap.size ≤ k) (h2 : k < W'.heap.size) : Sf W' bp br vp vr Fp Fr_ k :=
  ⟨h2, by have := h.p.lt; omega, by have := h.r.lt; omega, fun e => by have := (h.p.rowlt e).2; omega, fun e => by have := (h.r.rowlt e).2; omega, fun e => by have := (h.p.Fp e).1; omega, fun e => by have := (h.r.Fp e).1; omega⟩
/-- What two nets are after a step from W. -/
def PrO (base bp br : Nat) (vp vr : Value) (Fp Fr_ : Nat → Prop) (sp sr : Nt) (W w' : World) : Prop :=
  ∃ vp' vr' Fp' Fr', Pr w' base bp br vp' vr' Fp' Fr' sp sr ∧ Below base W w' ∧ ∀ k, Sf W bp br vp vr Fp Fr_ k → w'.heap[k]? = W.heap[k]? ∧ Sf w' bp br vp' vr' Fp' Fr' k
theorem Pr.stepP {W w' : World} {base bp br : Nat} {vp vr : Value} {Fp Fr_ : Nat → Prop} {sp sr sp' : Nt} (h : Pr W base bp br vp vr Fp Fr_ sp sr) (ho : OutP base bp vp.ownBlock Fp sp' W w') :
    ∃ vp' Fp', Pr w' base bp br vp' vr Fp' Fr_ sp' sr ∧ Below base W w' ∧ (∀ k, Sf W bp br vp vr Fp Fr_ k → w'.heap[k]? = W.heap[k]? ∧ Sf w' bp br vp' vr Fp' Fr_ k) ∧ ∀ k, Fp k → w'.heap[k]? = W.heap[k]? := by
  have hb := h.p.fr_below ho.1
  have hf := ho.1
  obtain ⟨vp', Fp', hN, -, hv, hF⟩ := ho.net
  have hr := h.r.lt
  have hrow : ∀ k, vp'.ownBlock = some k → vp.ownBlock = some k ∨ W.heap.size ≤ k := fun k e => by
    rcases hv with hv | hv
    · rw [hv] at e; exact .inl e
    · exact .inr (hv k e)
  refine ⟨vp', Fp', ⟨hN, h.r.keep hf.size (fun k hk hh => hf.block k hk ?_ ?_), h.b1, fun e => ?_, h.b3, fun k e e2 => ?_, fun k hk => ?_, fun k hk => ⟨(h.f2 k hk).1, fun e => ?_⟩⟩, hb, fun k hk => ⟨hf.block k hk.lt hk.n1 hk.n3, ⟨Nat.lt_of_lt_of_le hk.lt hf.size, hk.n1, hk.n2, fun e => ?_, hk.n4, fun e => ?_, hk.n6⟩⟩, fun k hk => hf.block k (h.p.Fp hk).1 (h.p.Fp hk).2.1 (h.p.Fp hk).2.2⟩
  · rcases hh with rfl | hh | hh
    · exact fun e => h.b1 e.symm
    · exact fun e => h.b3 (by rw [hh, e])
    · exact (h.f2 k hh).1
  · rcases hh with rfl | hh | hh
    · exact h.b2
    · exact fun e => h.b4 k e hh
    · exact (h.f2 k hh).2
  · rcases hrow _ e with h1 | h1
    · exact h.b2 h1
    · omega
  · rcases hrow k e with h1 | h1
    · exact h.b4 k h1 e2
    · have := (h.r.rowlt e2).2; omega
  · rcases hF k hk with h1 | h1
    · exact h.f1 k h1
    · exact ⟨by omega, fun e => by have := (h.r.rowlt e).2; omega⟩
  · rcases hrow k e with h1 | h1
    · exact (h.f2 k hk).2 h1
    · have := (h.r.Fp hk).1; omega
  · rcases hrow k e with h1 | h1
    · exact hk.n3 h1
    · have := hk.lt; omega
  · rcases hF k e with h1 | h1
    · exact hk.n5 h1
    · have := hk.lt; omega
theorem Pr.stepR {W w' : World} {base bp br : Nat} {vp vr : Value} {Fp Fr_ : Nat → Prop} {sp sr sr' : Nt} (h : Pr W base bp br vp vr Fp Fr_ sp sr) (ho : OutR base br vr.ownBlock Fr_ sr' W w') :
    ∃ vr' Fr', Pr w' base bp br vp vr' Fp Fr' sp sr' ∧ Below base W w' ∧ (∀ k, Sf W bp br vp vr Fp Fr_ k → w'.heap[k]? = W.heap[k]? ∧ Sf w' bp br vp vr' Fp Fr' k) ∧ ∀ k, Fp k → w'.heap[k]? = W.heap[k]? := by
  have hb := h.r.fr_below ho.1
  have hf := ho.1
  obtain ⟨vr', Fr', hN, -, hv, hF⟩ := ho.net
  have hp := h.p.lt
  have hrow : ∀ k, vr'.ownBlock = some k → vr.ownBlock = some k ∨ W.heap.size ≤ k := fun k e => by
    rcases hv with hv | hv
    · rw [hv] at e; exact .inl e
    · exact .inr (hv k e)
  refine ⟨vr', Fr', ⟨h.p.keep hf.size (fun k hk hh => hf.block k hk ?_ ?_), hN, h.b1, h.b2, fun e => ?_, fun k e e2 => ?_, fun k hk => ⟨(h.f1 k hk).1, fun e => ?_⟩, fun k hk => ?_⟩, hb, fun k hk => ⟨hf.block k hk.lt hk.n2 hk.n4, ⟨Nat.lt_of_lt_of_le hk.lt hf.size, hk.n1, hk.n2, hk.n3, fun e => ?_, hk.n5, fun e => ?_⟩⟩, fun k hk => hf.block k (h.p.Fp hk).1 (h.f1 k hk).1 (h.f1 k hk).2⟩
  · rcases hh with rfl | hh | hh
    · exact h.b1
    · exact fun e => h.b2 (by rw [hh, e])
    · exact (h.f1 k hh).1
  · rcases hh with rfl | hh | hh
    · exact h.b3
    · exact h.b4 k hh
    · exact (h.f1 k hh).2
  · rcases hrow _ e with h1 | h1
    · exact h.b3 h1
    · omega
  · rcases hrow k e2 with h1 | h1
    · exact h.b4 k e h1
    · have := (h.p.rowlt e).2; omega
  · rcases hrow k e with h1 | h1
    · exact (h.f1 k hk).2 h1
    · have := (h.p.Fp hk).1; omega
  · rcases hF k hk with h1 | h1
    · exact h.f2 k h1
    · exact ⟨by omega, fun e => by have := (h.p.rowlt e).2; omega⟩
  · rcases hrow k e with h1 | h1
    · exact hk.n4 h1
    · have := hk.lt; omega
  · rcases hF k e with h1 | h1
    · exact hk.n6 h1
    · have := hk.lt; omega
end Go.Proofs.Ytlpdihcgdgkkbaa
