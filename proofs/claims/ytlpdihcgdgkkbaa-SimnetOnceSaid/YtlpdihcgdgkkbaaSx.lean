/- A range over a net's All: the iterator's walk for every loop body; the statement's law. -/
import Derived.Test.YtlpdihcgdgkkbaaSv
import Derived.RangeFuncNested
import Derived.RangeFuncBound
import Derived.RangeFuncCalls
import Derived.RangeFuncLeaves
import Derived.Shelf.Abstract
import Derived.Shelf.RegionOpen
import Derived.OwnWalkIn
import Derived.TacticsInMore
import Derived.LoopNIn
import Derived.LoopIn
namespace Go.Proofs.Ytlpdihcgdgkkbaa
open Go.RowKit Go.St Go.Shelf
set_option linter.unusedVariables false
set_option linter.unusedSimpArgs false
set_option maxRecDepth 100000
attribute [local go_sem] Oper.semAt_some

theorem rdl_at {W : World} {B : Nat} {A : Option Addr} {l : List Ltr} (h : Rd W B A (lv l)) {i : Nat} {x : Ltr} (hx : l[i]? = some x) : ∃ b o, A = some ⟨b, o, none⟩ ∧ b < B ∧ W.cell? ⟨b, o + i * 4, none⟩ = some (.int .i64 x.k.num) ∧ W.cell? ⟨b, o + i * 4 + 1, none⟩ = some (.int .i64 x.k.fr) ∧ W.cell? ⟨b, o + i * 4 + 2, none⟩ = some (.int .i64 x.k.to) ∧ W.cell? ⟨b, o + i * 4 + 3, none⟩ = some (.slice x.A x.n x.c) := by
  have hne : lv l ≠ [] := by
    intro e
    have h1 := lv_get l i 0 x _ hx rfl
    rw [e] at h1
    simp at h1
  obtain ⟨b, o, rfl, hb, hc⟩ := h hne
  have hc' := fun (j : Nat) (u : Value) (hu : (ltc x)[j]? = some u) => hc _ u (lv_get l i j x u hx hu)
  exact ⟨b, o, rfl, hb, hc' 0 _ rfl, hc' 1 _ rfl, hc' 2 _ rfl, hc' 3 _ rfl⟩
set_option maxHeartbeats 2000000 in
theorem all1_in (n : Nat) (hn : 2 ≤ n) (l n₀ Bx : Nat) (A : Option Addr) (c len : Nat) (ls : List Ltr) (hl : ls.length = len) (h6 : len ≤ 100000) (J Jx : Nat → World → Prop)
    (hJ : ∀ k (W W' : World), J k W → Below W.heap.size W W' → J k W')
    (hY : ∀ k (W : World) x, J k W → ls[k]? = some x → YieldAt Fence.wide (n - 1) Try.prog l #[.int .i64 x.k.num] W fun e W' =>
      (e = .returned (.bool true) ∧ J (k + 1) W' ∧ Below n₀ W W') ∨ (e = .returned (.bool false) ∧ Jx (k + 1) W'))
    (W : World) (hBx : W.cell? ⟨Bx, 0, none⟩ = some (.slice A len c)) (hlt : Bx < n₀) (hr : Rd W n₀ A (lv ls)) (hn0 : n₀ ≤ W.heap.size) (h0 : J 0 W) :
    CallsIn Fence.wide n Try.prog 87 #[.func (.yield l) #[] #[], .pointer (some ⟨Bx, 0, none⟩)] W fun e W' => (∃ v, e = .returned v) ∧
      (J len W' ∨ ∃ k, k < len ∧ Jx (k + 1) W') := by
  have HL := Lib.hid hl; clear hl
  have HJ := Lib.hid hJ; clear hJ
  have HY := Lib.hid hY; clear hY
  refine callsIn_of_wp Try.func87 rfl trivial ?_ rfl
  simp only [Try.ntmps87, List.size_toArray, List.length_cons, List.length_nil, Nat.reduceAdd, Nat.reduceSub, Array.replicate_succ, Array.replicate_zero, List.push_toArray, List.append_toArray, List.nil_append, List.cons_append]
  gi_wp2
  gi_loopw [7] (fun i wr => ∃ k : Nat, i = .int .i64 k ∧ k ≤ len ∧ Hid (J k wr) ∧ Hid (Below n₀ W wr)) (fun i _ => len + 1 - (intOf i).toNat)
  case atStart => exact ⟨0, rfl, Nat.zero_le _, Lib.hid h0, Lib.hid (Below.refl _ _)⟩
  case round =>
    obtain ⟨k, rfl, hk, hj, hbw⟩ := hrel
    obtain ⟨w4, rfl⟩ : ∃ x, x = wr := ⟨_, rfl⟩
    have S1 := hbw.out.size
    by_cases hlt2 : k < len
    · have hx : ls[k]? = some (ls[k]'(by rw [HL.out]; exact hlt2)) := List.getElem?_eq_getElem _
      obtain ⟨b, o, rfl, hb, d0, d1, d2, d3⟩ := rdl_at (hr.below hbw.out) hx
      have hkk := Lib.hid hx
      clear hx
      generalize ls[k]'(by rw [HL.out]; exact hlt2) = x at *
      have i0 : (0 : Int) ≤ (k : Int) := by omega
      have i1 : (k : Int) < (len : Int) := by omega
      have bA : Below w4.heap.size w4 (w4.alloc (.cells #[.int .i64 x.k.num, .int .i64 x.k.fr, .int .i64 x.k.to, .slice x.A x.n x.c] 51)) := (Below.refl _ _).alloc (Nat.le_refl _) _
      obtain ⟨fn, tmps, assign, body, hy, hR⟩ := HY.out k _ x (HJ.out k _ _ hj.out bA) hkk.out
      have BA := Lib.hid bA
      have HR := Lib.hid hR
      clear bA hR
      gi_wp2
      refine ⟨fun _ => by omega, HR.out.mono ?_⟩
      rintro e W3 (⟨rfl, hJ3, hk3⟩ | ⟨rfl, hJx3⟩)
      · have J3 := Lib.hid hJ3
        have B3 : Hid (Below n₀ W W3) := Lib.hid ((hbw.out.trans (BA.out.mono (by omega))).trans hk3)
        clear hJ3 hk3 hy HR BA
        gi_wp2
        exact ⟨⟨k + 1, by go_num, by omega, J3, B3⟩, by simp [intOf]; omega⟩
      · have J3 := Lib.hid hJx3
        clear hJx3 hy HR BA
        gi_wp2
        refine bodyPost_ret (results_none rfl _ _ _) rfl ?_
        exact ⟨⟨_, rfl⟩, .inr ⟨k, hlt2, J3.out⟩⟩
    · obtain rfl : k = len := by omega
      gi_wp2
      go_returns
      exact ⟨⟨_, rfl⟩, .inl hj.out⟩
theorem putObj_below {w W : World} {l : Nat} (o : Obj) (h : w.heap.size ≤ l) : Below w.heap.size W (W.putObj l o) :=
  ⟨rfl, rfl, rfl, by simp [World.putObj], fun k hk => World.putObj_heap_other (by omega)⟩
/-- How a round's body may be left. -/
def RoundEnds (R : Nat → World → Prop) (X : World → Prop) (B n₀ id k : Nat) (W1 : World) : Exit → Act → World → Prop
  | .normal, _, W' => R (k + 1) W' ∧ Below n₀ W1 W' ∧ W1.heap.size ≤ W'.heap.size ∧ ∀ b, B ≤ b → b < W1.heap.size → W'.heap[b]? = W1.heap[b]?
  | .exit i, _, W' => i = id ∧ X W' ∧ W1.heap.size ≤ W'.heap.size ∧ ∀ b, B ≤ b → b < W1.heap.size → W'.heap[b]? = W1.heap[b]?
  | _, _, _ => False
theorem range_all {ps : Array Tmp} {assign body : Code} {Q : Exit → Act → World → Prop} {a : Act} {w : World} (n : Nat) (hn : 3 ≤ n) (g : Operand) (id Bx n₀ : Nat) (A : Option Addr) (len c : Nat) (ls : List Ltr)
    (hg : a.eval g = .func (.func 87) #[] #[.pointer (some ⟨Bx, 0, none⟩)]) (hps : ps.size = 1 ∨ ps.size = 0 ∧ len = 0) (hl : ls.length = len) (h6 : len ≤ 100000)
    (hBx : w.cell? ⟨Bx, 0, none⟩ = some (.slice A len c)) (hlt : Bx < n₀) (hr : Rd w n₀ A (lv ls)) (hn0 : n₀ ≤ w.heap.size)
    (R : Nat → World → Prop) (X : World → Prop) (hR : ∀ k W W', R k W → Below w.heap.size W W' → R k W') (hX : ∀ W W', X W → Below w.heap.size W W' → X W') (h0 : R 0 w)
    (hround : ∀ (l k : Nat) (x : Ltr) (hk : ls[k]? = some x) (W W2 : World) (K : Act → World → Prop), R k W2 → w.heap.size ≤ W2.heap.size →
      (∀ a₁, body.wpIn (Fence.wide.inRound l) (n - 1 - 1) Try.prog (RoundEnds R X w.heap.size n₀ id k W2) a₁ W2 → K a₁ W) →
      assign.wpIn (Fence.wide.inRound l) (n - 1 - 1) Try.prog (Exit.then K (fun _ _ _ => False)) { tmps := (ps.zip #[.int .i64 x.k.num]).foldl (fun t (p, v) => t.setIfInBounds p v) a.tmps, defers := [] } W)
    (hdone : ∀ W, R len W → W.heap[w.heap.size]? = some (.deferred (some [])) → Q .normal { a with defers := { target := .collected w.heap.size, args := #[] } :: a.defers } W)
    (hstop : ∀ W, X W → W.heap[w.heap.size]? = some (.deferred (some [])) → (Code.exit id).wpIn Fence.wide n Try.prog Q { a with defers := { target := .collected w.heap.size, args := #[] } :: a.defers } W) :
    (Code.rangeFunc g ps assign body).wpIn Fence.wide n Try.prog Q a w := by
  refine wpIn_rangeFunc fun fn _ => ?_
  obtain ⟨rc, hrc⟩ : ∃ rc : LoopState → Option Code → Loop, rc = fun s p => { state := s, pending := p, fn, tmps := a.tmps, params := ps, assign, body, defers := w.heap.size } := ⟨_, rfl⟩
  -- the record and its block
  let T : LoopState → Option Code → World → Prop := fun s p W => W.heap[w.heap.size + 1]? = some (.loop (rc s p)) ∧ W.heap[w.heap.size]? = some (.deferred (some []))
  have hT : ∀ s p s' p' W, T s p W → T s' p' (W.putObj (w.heap.size + 1) (.loop (rc s' p'))) := fun s p s' p' W h =>
    ⟨World.putObj_heap_same (Array.getElem?_eq_some_iff.1 h.1).1, (World.putObj_heap_other (by omega)).trans h.2⟩
  have hTs : ∀ s p W, T s p W → w.heap.size + 1 < W.heap.size := fun s p W h => (Array.getElem?_eq_some_iff.1 h.1).1
  have hTk : ∀ s p W W', T s p W → W.heap.size ≤ W'.heap.size → (∀ b, w.heap.size ≤ b → b < W.heap.size → W'.heap[b]? = W.heap[b]?) → T s p W' := fun s p W W' h _ hk => by
    have := hTs s p W h
    exact ⟨(hk _ (by omega) this).trans h.1, (hk _ (Nat.le_refl _) (by omega)).trans h.2⟩
  let W1 := (w.alloc (.deferred (some []))).alloc (.loop (rc .ready none))
  have hB1 : Below w.heap.size w W1 := ((Below.refl _ _).alloc (Nat.le_refl _) _).alloc (by simp) _
  have hT1 : T .ready none W1 := by
    refine ⟨?_, ?_⟩
    · have := World.alloc_heap_new (w.alloc (.deferred (some []))) (.loop (rc .ready none))
      rwa [World.size_alloc] at this
    · exact (Below.heap_alloc _ _ _ (by simp)).trans (World.alloc_heap_new w _)
  refine ⟨w.heap.size + 1, [{ target := .collected w.heap.size, args := #[] }], W1, { target := .fn (.func 87) #[.pointer (some ⟨Bx, 0, none⟩)], args := #[.func (.yield (w.heap.size + 1)) #[] #[]] }, W1, 87,
    #[.func (.yield (w.heap.size + 1)) #[] #[], .pointer (some ⟨Bx, 0, none⟩)], W1, ?_, ?_, fun _ _ => trivial, ?_, fun _ => by omega, ?_⟩
  · have := run_enterLoop_outer (P := Try.prog) (w := w) fn a.tmps ps assign body
    rw [show W1 = (w.alloc (.deferred (some []))).alloc (.loop (rc .ready none)) from rfl, hrc]
    exact this
  · simp only [resolve, hg]
    simp [go_sem]
  · simp [invoke, go_sem]
  · refine (all1_in (n - 1) (by omega) (w.heap.size + 1) n₀ Bx A c len ls hl h6 (fun k W => R k W ∧ T .ready none W) (fun _ W => X W ∧ T .done (some (.exit id)) W) ?_ ?_ W1 ((hB1.cell (p := ⟨Bx, 0, none⟩) (by show Bx < _; omega)).trans hBx) hlt (hr.below (hB1.mono hn0)) (Nat.le_trans hn0 hB1.size) ⟨hR 0 _ _ h0 hB1, hT1⟩).mono ?_
    · rintro k W W' ⟨h1, h2⟩ hb
      exact ⟨hR k W W' h1 (hb.mono (by have := hTs _ _ W h2; omega)), hTk _ _ W W' h2 hb.size (fun b _ hb' => hb.block b hb')⟩
    · rintro k W x ⟨h1, h2⟩ hk
      have hs := hTs _ _ W h2
      have hps1 : ps.size = 1 := by
        rcases hps with h | ⟨_, h⟩
        · exact h
        · have := (List.getElem?_eq_some_iff.1 hk).1; omega
      have hy := run_yield (P := Try.prog) (args := #[.int .i64 x.k.num]) h2.1 (by rw [hrc]; simp [hps1])
      rw [hrc] at hy
      have e : ({ rc .ready none with state := .busy } : Loop) = rc .busy none := by rw [hrc]
      obtain ⟨W2, hW2⟩ : ∃ W2, W.putObj (w.heap.size + 1) (.loop (rc .busy none)) = W2 := ⟨_, rfl⟩
      have hb2 : Below w.heap.size W W2 := by rw [← hW2]; exact putObj_below (w := w) _ (by omega)
      have hz2 : W2.heap.size = W.heap.size := by rw [← hW2]; simp [World.putObj]
      have h3 : T .busy none W2 := by rw [← hW2]; exact hT _ _ _ _ W h2
      have fin : ∀ (j : Option Code) (W3 : World), T .busy none W3 → (Instr.endRound (w.heap.size + 1) j).run Try.prog W3 = .ok (.bool j.isNone) (W3.putObj (w.heap.size + 1) (.loop (rc (if j.isNone then .ready else .done) j))) := fun j W3 h => by
        have := run_endRound (P := Try.prog) j h.1
        rw [hrc] at this ⊢
        exact this
      refine ⟨fn, _, assign, body, hy, roundIn_of_wpIn trivial (hround _ k x hk W W2 _ (hR k _ _ h1 hb2) (by rw [hz2]; omega) fun a₁ hbd => ⟨W2, by have := run_beginRound (P := Try.prog) h2.1 (by rw [hrc]); rw [e, hW2] at this; exact this, wpIn_mono hbd ?_⟩)⟩
      rintro e a3 W3 hp
      cases e with
      | normal =>
        obtain ⟨p1, p2, p3, p4⟩ := hp
        have h4 := hTk _ _ W2 W3 h3 p3 p4
        have h5 := putObj_below (w := w) (W := W3) (l := w.heap.size + 1) (.loop (rc .ready none)) (by omega)
        exact ⟨_, _, fin none W3 h4, .inl ⟨rfl, ⟨hR _ _ _ p1 h5, hT _ _ _ _ W3 h4⟩, ((hb2.mono hn0).trans p2).trans (h5.mono hn0)⟩⟩
      | exit i =>
        obtain ⟨rfl, p1, p3, p4⟩ := hp
        have h4 := hTk _ _ W2 W3 h3 p3 p4
        have h5 := putObj_below (w := w) (W := W3) (l := w.heap.size + 1) (.loop (rc .done (some (.exit i)))) (by omega)
        exact ⟨_, _, fin (some (.exit i)) W3 h4, .inr ⟨rfl, hX _ _ p1 h5, hT _ _ _ _ W3 h4⟩⟩
      | ret => exact hp.elim
      | goto _ => exact hp.elim
      | panic _ => exact hp.elim
      | outgrown => exact hp.elim
    · rintro e W2 ⟨⟨v, rfl⟩, h | ⟨k, hk, h⟩⟩
      · have h5 := fun o => putObj_below (w := w) (W := W2) (l := w.heap.size + 1) o (by omega)
        refine ⟨none, _, by have := run_endLoop (P := Try.prog) h.2.1 (by rw [hrc]; simp); rw [hrc] at this; exact this, hdone _ (hR _ _ _ h.1 (h5 _)) ((World.putObj_heap_other (by omega)).trans h.2.2)⟩
      · have h5 := fun o => putObj_below (w := w) (W := W2) (l := w.heap.size + 1) o (by omega)
        refine ⟨some (.exit id), _, by have := run_endLoop (P := Try.prog) h.2.1 (by rw [hrc]; simp); rw [hrc] at this; exact this, hstop _ (hX _ _ h.1 (h5 _)) ((World.putObj_heap_other (by omega)).trans h.2.2)⟩
/-- Going over nothing. -/
theorem range_none {ps : Array Tmp} {assign body : Code} {Q : Exit → Act → World → Prop} {a : Act} {w : World} (g : Operand) (Bx : Nat)
    (hg : a.eval g = .func (.func 87) #[] #[.pointer (some ⟨Bx, 0, none⟩)]) (hps : ps.size ≤ 1)
    (hBx : w.cell? ⟨Bx, 0, none⟩ = some (.slice none 0 0)) (hlt : Bx < w.heap.size)
    (h : ∀ W, Below w.heap.size w W → W.heap[w.heap.size]? = some (.deferred (some [])) → Q .normal { a with defers := { target := .collected w.heap.size, args := #[] } :: a.defers } W) :
    (Code.rangeFunc g ps assign body).wp Try.prog Q a w := by
  refine (wpIn_wide (n := 3)).1 ?_
  refine range_all 3 (Nat.le_refl _) g 0 Bx w.heap.size none 0 0 [] hg (by omega) rfl (by omega) hBx hlt Rd.nil (Nat.le_refl _) (fun _ W => Below w.heap.size w W) (fun _ => False) (fun k W W' h1 h2 => h1.trans h2) (fun W W' h _ => h.elim) (Below.refl _ _) (fun l k x hk => by simp at hk) h (fun W h => h.elim)
end Go.Proofs.Ytlpdihcgdgkkbaa
