/- A table as it is built: what lies where. -/
import Derived.Test.YtdmpimgbnhgiaaaZC
import Derived.Test.YtdmpimgbnhgiaaaZT
import Derived.Test.YtdmpimgbnhgiaaaZUm
import Derived.RangeFuncNested
import Derived.RangeFuncBound
import Derived.RangeFuncCalls
import Derived.RangeFuncLeaves
import Derived.Shelf.Abstract
import Derived.Shelf.RegionOpen
import Derived.OwnWalkIn
import Derived.TacticsInMore
import Derived.LoopNIn
import Derived.LoopIn
import Derived.Lib.MinMax

namespace Go.Proofs.Ytdmpimgbnhgiaaa
open Go.RowKit Go.St Go.Shelf
set_option linter.unusedVariables false
set_option linter.unusedSimpArgs false
set_option maxRecDepth 100000
attribute [local go_sem] Oper.semAt_some

set_option maxHeartbeats 2000000 in
theorem chunk_in (n : Nat) (hn : 2 ≤ n) (l Bs Bn : Nat) (A : Option Addr) (k c p : Nat) (hk : k ≤ 1000000) (hkc : k ≤ c) (hp : 1 ≤ p ∧ p ≤ 1000) (J Jx : Nat → World → Prop)
    (hJb : ∀ j W, J j W → W.cell? ⟨Bs, 0, none⟩ = some (.slice A k c) ∧ W.cell? ⟨Bn, 0, none⟩ = some (.int .i64 (p : Int)))
    (hJn : ∀ j W W', J j W → Below W.heap.size W W' → J j W')
    (hY : ∀ j (W : World), J j W → j * p < k → YieldAt Fence.wide (n - 1) Try.prog l #[.slice (A.map (·.add (j * p * 4))) (min p (k - j * p)) (min p (k - j * p))] W fun e W' =>
      (e = .returned (.bool true) ∧ J (j + 1) W') ∨ (e = .returned (.bool false) ∧ Jx (j + 1) W'))
    (W : World) (h0 : J 0 W) :
    CallsIn Fence.wide n Try.prog 63 #[.func (.yield l) #[] #[], .pointer (some ⟨Bs, 0, none⟩), .pointer (some ⟨Bn, 0, none⟩)] W fun e W' => (∃ v, e = .returned v) ∧
      (J ((k + p - 1) / p) W' ∨ ∃ j, Jx (j + 1) W') := by
  obtain ⟨m, hm⟩ : ∃ m, m = (k + p - 1) / p := ⟨_, rfl⟩
  have HM : Hid (∀ j, j < m ↔ j * p < k) := Lib.hid (fun j => by rw [hm, Nat.lt_div_iff_mul_lt (by omega)]; omega)
  rw [← hm]
  have HJB := Lib.hid hJb
  have HY := Lib.hid hY
  have HJN := Lib.hid hJn
  have HJ := Lib.hid h0
  clear hJb hJn hY h0 hm
  refine callsIn_of_wp Try.func63 rfl trivial ?_ rfl
  simp only [Try.ntmps63, List.size_toArray, List.length_cons, List.length_nil, Nat.reduceAdd, Nat.reduceSub, Array.replicate_succ, Array.replicate_zero, List.push_toArray, List.append_toArray, List.nil_append, List.cons_append]
  gi_wp2
  gi_loopw [4] (fun s4 wr => ∃ j i : Nat, s4 = .int .i64 (i : Int) ∧ Hid (i = j * p) ∧ i ≤ k + 1000 ∧ Hid (j ≤ m) ∧ Hid (J j wr)) (fun s4 _ => k + 1000 - (intOf s4).toNat)
  case atStart => exact ⟨0, 0, rfl, Lib.hid (by simp), by omega, Lib.hid (Nat.zero_le _), HJ⟩
  case round =>
    clear HJ
    obtain ⟨j, i, rfl, HI, hik, HJM, hj⟩ := hrel
    obtain ⟨w1, rfl⟩ : ∃ x, x = wr := ⟨_, rfl⟩
    obtain ⟨b1, b2⟩ := HJB.out j w1 hj.out
    have z1 := World.block_lt_of_cell? w1 _ b1
    have z2 := World.block_lt_of_cell? w1 _ b2
    by_cases hlt : i < k
    · obtain ⟨e, he⟩ : ∃ e, e = min p (k - i) := ⟨_, rfl⟩
      have i1 : (i : Int) < (k : Int) := by omega
      have i0 : (0 : Int) ≤ (i : Int) := by omega
      have i2 : (i : Int) ≤ (k : Int) := by omega
      have he2 : min (p : Int) ((k - i : Nat) : Int) = (e : Int) := by omega
      have hek : i + e ≤ k := by omega
      have he1 : 1 ≤ e := by omega
      have HE := Lib.hid he
      clear he
      gi_wp2
      refine wpIn_wide.2 ?_
      refine wp_qall (by kernel_rfl) (by kernel_rfl) ?_
      intro hcg
      repeat (first | go_big_quiet_step (fail) | quiet_step (fail))
      refine wpQuiet_nil ?_
      intro wq hbwq hcwq hfwq
      clear hcg
      have hj2 := Lib.hid (HJN.out j w1 wq hj.out hbwq)
      obtain ⟨b1, b2⟩ := HJB.out j wq hj2.out
      have z1 := World.block_lt_of_cell? wq _ b1
      have z2 := World.block_lt_of_cell? wq _ b2
      clear hbwq hcwq hfwq hj b1 b2 z1 z2
      have HLT : Hid (j * p < k) := Lib.hid (by rw [← HI.out]; exact hlt)
      obtain ⟨fn, tmps, assign, body, hy, hR⟩ := HY.out j wq hj2.out HLT.out
      have HR := Lib.hid hR
      obtain ⟨b1, b2⟩ := HJB.out j wq hj2.out
      have z1 := World.block_lt_of_cell? wq _ b1
      have z2 := World.block_lt_of_cell? wq _ b2
      rw [← HI.out, ← HE.out] at hy
      clear hR
      gi_wp2
      refine ⟨fun _ => by omega, HR.out.mono ?_⟩
      have HP : Hid (i + p = (j + 1) * p) := Lib.hid (by rw [HI.out, Nat.add_mul, Nat.one_mul])
      have HJ1 : Hid (j + 1 ≤ m) := Lib.hid ((HM.out j).2 HLT.out)
      rintro e' W3 (⟨rfl, hJ3⟩ | ⟨rfl, hJx3⟩)
      · have J3 := Lib.hid hJ3
        obtain ⟨b1, b2⟩ := HJB.out _ W3 hJ3
        have z1 := World.block_lt_of_cell? W3 _ b1
        have z2 := World.block_lt_of_cell? W3 _ b2
        clear hJ3 hy HR
        gi_wp2
        exact ⟨⟨j + 1, i + p, by go_num, HP, by omega, HJ1, J3⟩, by first | (simp [intOf]; done) | (simp [intOf]; omega)⟩
      · have J3 := Lib.hid hJx3
        clear hJx3 hy HR
        gi_wp2
        refine bodyPost_ret (results_none rfl _ _ _) rfl ?_
        exact ⟨⟨_, rfl⟩, .inr ⟨j, J3.out⟩⟩
    · have i1 : ¬ (i : Int) < (k : Int) := by omega
      have SEQ : Hid (j = m) := Lib.hid (by
        have h1 := HM.out j
        have h2 := HI.out
        have h3 := HJM.out
        rw [h2] at hlt
        have : ¬ j < m := fun h => hlt (h1.1 h)
        omega)
      gi_wp2
      go_returns
      exact ⟨⟨_, rfl⟩, .inl (by rw [← SEQ.out]; exact hj.out)⟩
end Go.Proofs.Ytdmpimgbnhgiaaa

namespace Go.Proofs.Ytdmpimgbnhgiaaa
open Go.RowKit Go.St Go.Shelf
set_option linter.unusedVariables false
set_option linter.unusedSimpArgs false
set_option maxRecDepth 100000
attribute [local go_sem] Oper.semAt_some

/-- One block alone is other. -/
structure Nc (l : Nat) (W W' : World) : Prop where
  os : W'.os = W.os
  tape : W'.tape = W.tape
  output : W'.output = W.output
  size : W'.heap.size = W.heap.size
  block : ∀ b, b ≠ l → W'.heap[b]? = W.heap[b]?
theorem Nc.put (l : Nat) (W : World) (o : Obj) : Nc l W (W.putObj l o) := ⟨rfl, rfl, rfl, by simp [World.putObj], fun b hb => World.putObj_heap_other (by omega)⟩
theorem Nc.below {l : Nat} {W W' : World} (h : Nc l W W') {B : Nat} (hB : B ≤ l) : Below B W W' := ⟨h.os, h.tape, h.output, by rw [h.size]; exact Nat.le_refl _, fun k hk => h.block k (by omega)⟩
/-- How a round's body may be left. -/
def RoundRets (R : Nat → World → Prop) (X : World → Prop) (B k : Nat) (W2 : World) : Exit → Act → World → Prop
  | .normal, _, W' => R (k + 1) W' ∧ W2.heap.size ≤ W'.heap.size ∧ W'.heap[B]? = W2.heap[B]? ∧ W'.heap[B + 1]? = W2.heap[B + 1]?
  | .ret, _, W' => X W' ∧ W2.heap.size ≤ W'.heap.size ∧ W'.heap[B]? = W2.heap[B]? ∧ W'.heap[B + 1]? = W2.heap[B + 1]?
  | _, _, _ => False
set_option maxHeartbeats 1600000 in
theorem range_chunk {ps : Array Tmp} {assign body : Code} {Q : Exit → Act → World → Prop} {a : Act} {w : World} (n : Nat) (hn : 3 ≤ n) (g : Operand) (Bs Bn : Nat) (A : Option Addr) (k9 c p : Nat) (hk : k9 ≤ 1000000) (hkc : k9 ≤ c) (hp : 1 ≤ p ∧ p ≤ 1000)
    (hg : a.eval g = .func (.func 63) #[] #[.pointer (some ⟨Bs, 0, none⟩), .pointer (some ⟨Bn, 0, none⟩)]) (hps : ps.size = 1)
    (R : Nat → World → Prop) (X : World → Prop) (hRb : ∀ j W, R j W → W.cell? ⟨Bs, 0, none⟩ = some (.slice A k9 c) ∧ W.cell? ⟨Bn, 0, none⟩ = some (.int .i64 (p : Int))) (hRn : ∀ j W W', R j W → Below W.heap.size W W' → R j W')
    (hR : ∀ k W W', R k W → Nc (w.heap.size + 1) W W' → (∃ L, W.heap[w.heap.size + 1]? = some (.loop L)) → R k W') (hX : ∀ W W', X W → Nc (w.heap.size + 1) W W' → (∃ L, W.heap[w.heap.size + 1]? = some (.loop L)) → X W')
    (h0 : ∀ W, Below w.heap.size w W → R 0 W)
    (hround : ∀ (l k : Nat) (hk : k * p < k9) (W : World) (K : Act → World → Prop), R k W → W.heap[w.heap.size]? = some (.deferred (some [])) → (∃ L, W.heap[w.heap.size + 1]? = some (.loop L)) →
      (∀ a₁ W1, W.heap.size ≤ W1.heap.size → W1.heap[w.heap.size]? = W.heap[w.heap.size]? → W1.heap[w.heap.size + 1]? = W.heap[w.heap.size + 1]? →
        (∀ W2, Nc (w.heap.size + 1) W1 W2 → W2.heap[w.heap.size]? = some (.deferred (some [])) → (∃ L, W2.heap[w.heap.size + 1]? = some (.loop L)) → body.wpIn (Fence.wide.inRound l) (n - 1 - 1) Try.prog (RoundRets R X w.heap.size k W2) a₁ W2) → K a₁ W1) →
      assign.wpIn (Fence.wide.inRound l) (n - 1 - 1) Try.prog (Exit.then K (fun _ _ _ => False)) { tmps := (ps.zip #[.slice (A.map (·.add (k * p * 4))) (min p (k9 - k * p)) (min p (k9 - k * p))]).foldl (fun t (p, v) => t.setIfInBounds p v) a.tmps, defers := [] } W)
    (hdone : ∀ W, R ((k9 + p - 1) / p) W → W.heap[w.heap.size]? = some (.deferred (some [])) → Q .normal { a with defers := { target := .collected w.heap.size, args := #[] } :: a.defers } W)
    (hstop : ∀ W, X W → W.heap[w.heap.size]? = some (.deferred (some [])) → Code.ret.wpIn Fence.wide n Try.prog Q { a with defers := { target := .collected w.heap.size, args := #[] } :: a.defers } W) :
    (Code.rangeFunc g ps assign body).wpIn Fence.wide n Try.prog Q a w := by
  refine wpIn_rangeFunc fun fn _ => ?_
  obtain ⟨rc, hrc⟩ : ∃ rc : LoopState → Option Code → Loop, rc = fun s p => { state := s, pending := p, fn, tmps := a.tmps, params := ps, assign, body, defers := w.heap.size } := ⟨_, rfl⟩
  -- the record and its block
  let T : LoopState → Option Code → World → Prop := fun s p W => W.heap[w.heap.size + 1]? = some (.loop (rc s p)) ∧ W.heap[w.heap.size]? = some (.deferred (some []))
  have hT : ∀ s p s' p' W, T s p W → T s' p' (W.putObj (w.heap.size + 1) (.loop (rc s' p'))) := fun s p s' p' W h =>
    ⟨World.putObj_heap_same (Array.getElem?_eq_some_iff.1 h.1).1, (World.putObj_heap_other (by omega)).trans h.2⟩
  let W1 := (w.alloc (.deferred (some []))).alloc (.loop (rc .ready none))
  have hB1 : Below w.heap.size w W1 := ((Below.refl _ _).alloc (Nat.le_refl _) _).alloc (by simp) _
  have hT1 : T .ready none W1 := by
    refine ⟨?_, ?_⟩
    · have := World.alloc_heap_new (w.alloc (.deferred (some []))) (.loop (rc .ready none))
      rwa [World.size_alloc] at this
    · exact (Below.heap_alloc _ _ _ (by simp)).trans (World.alloc_heap_new w _)
  refine ⟨w.heap.size + 1, [{ target := .collected w.heap.size, args := #[] }], W1, { target := .fn (.func 63) #[.pointer (some ⟨Bs, 0, none⟩), .pointer (some ⟨Bn, 0, none⟩)], args := #[.func (.yield (w.heap.size + 1)) #[] #[]] }, W1, 63,
    #[.func (.yield (w.heap.size + 1)) #[] #[], .pointer (some ⟨Bs, 0, none⟩), .pointer (some ⟨Bn, 0, none⟩)], W1, ?_, ?_, fun _ _ => trivial, ?_, fun _ => by omega, ?_⟩
  · have := run_enterLoop_outer (P := Try.prog) (w := w) fn a.tmps ps assign body
    rw [show W1 = (w.alloc (.deferred (some []))).alloc (.loop (rc .ready none)) from rfl, hrc]
    exact this
  · simp only [resolve, hg]
    simp [go_sem]
  · simp [invoke, go_sem]
  · refine (chunk_in (n - 1) (by omega) (w.heap.size + 1) Bs Bn A k9 c p hk hkc hp (fun k W => R k W ∧ T .ready none W) (fun _ W => X W ∧ T .done (some .ret) W) (fun k W h => hRb k W h.1) (fun k W W' h hb => ⟨hRn k W W' h.1 hb, (hb.block _ (Array.getElem?_eq_some_iff.1 h.2.1).1).trans h.2.1, (hb.block _ (Array.getElem?_eq_some_iff.1 h.2.2).1).trans h.2.2⟩) ?_ W1 ⟨h0 _ hB1, hT1⟩).mono ?_
    · rintro k W ⟨h1, h2⟩ hk
      have hy := run_yield (P := Try.prog) (args := #[.slice (A.map (·.add (k * p * 4))) (min p (k9 - k * p)) (min p (k9 - k * p))]) h2.1 (by rw [hrc]; simp [hps])
      rw [hrc] at hy
      have e : ({ rc .ready none with state := .busy } : Loop) = rc .busy none := by rw [hrc]
      have fin : ∀ (j : Option Code) (W3 : World), T .busy none W3 → (Instr.endRound (w.heap.size + 1) j).run Try.prog W3 = .ok (.bool j.isNone) (W3.putObj (w.heap.size + 1) (.loop (rc (if j.isNone then .ready else .done) j))) := fun j W3 h => by
        have := run_endRound (P := Try.prog) j h.1
        rw [hrc] at this ⊢
        exact this
      refine ⟨fn, _, assign, body, hy, roundIn_of_wpIn trivial (hround _ k hk W _ h1 h2.2 ⟨_, h2.1⟩ fun a₁ V hs hd hl hbd => ?_)⟩
      have hV : T .ready none V := ⟨hl.trans h2.1, hd.trans h2.2⟩
      have h3 : T .busy none (V.putObj (w.heap.size + 1) (.loop (rc .busy none))) := hT _ _ _ _ V hV
      refine ⟨V.putObj (w.heap.size + 1) (.loop (rc .busy none)), by have := run_beginRound (P := Try.prog) hV.1 (by rw [hrc]); rw [e] at this; exact this, wpIn_mono (hbd _ (Nc.put _ _ _) h3.2 ⟨_, h3.1⟩) ?_⟩
      rintro ex a3 W3 hp
      cases ex with
      | normal =>
        obtain ⟨p1, p2, p3, p4⟩ := hp
        have h4 : T .busy none W3 := ⟨p4.trans h3.1, p3.trans h3.2⟩
        exact ⟨_, _, fin none W3 h4, .inl ⟨rfl, hR _ _ _ p1 (Nc.put _ _ _) ⟨_, h4.1⟩, hT _ _ _ _ W3 h4⟩⟩
      | ret =>
        obtain ⟨p1, p2, p3, p4⟩ := hp
        have h4 : T .busy none W3 := ⟨p4.trans h3.1, p3.trans h3.2⟩
        exact ⟨_, _, fin (some .ret) W3 h4, .inr ⟨rfl, hX _ _ p1 (Nc.put _ _ _) ⟨_, h4.1⟩, hT _ _ _ _ W3 h4⟩⟩
      | exit i => exact hp.elim
      | goto _ => exact hp.elim
      | panic _ => exact hp.elim
      | outgrown => exact hp.elim
    · rintro ex W2 ⟨⟨u, rfl⟩, h | ⟨k, h⟩⟩
      · refine ⟨none, _, by have := run_endLoop (P := Try.prog) h.2.1 (by rw [hrc]; simp); rw [hrc] at this; exact this, hdone _ (hR _ _ _ h.1 (Nc.put _ _ _) ⟨_, h.2.1⟩) ((World.putObj_heap_other (by omega)).trans h.2.2)⟩
      · refine ⟨some .ret, _, by have := run_endLoop (P := Try.prog) h.2.1 (by rw [hrc]; simp); rw [hrc] at this; exact this, hstop _ (hX _ _ h.1 (Nc.put _ _ _) ⟨_, h.2.1⟩) ((World.putObj_heap_other (by omega)).trans h.2.2)⟩
end Go.Proofs.Ytdmpimgbnhgiaaa

namespace Go.Proofs.Ytdmpimgbnhgiaaa
open Go.RowKit Go.St Go.Shelf Go.Maps
set_option linter.unusedVariables false
set_option linter.unusedSimpArgs false
set_option maxRecDepth 100000
attribute [local go_sem] Oper.semAt_some

/-- No operation lays a call aside. -/
def noDefB (ops : List Oper) : Bool := ops.all (fun o => match o.op with | .defer _ => false | _ => true)
theorem noDef_spec {ops : List Oper} (h : noDefB ops = true) {i : Nat} {o : Oper} (hi : ops.toArray[i]? = some o) : ∀ c, o.op ≠ .defer c := by
  intro c e
  have h1 := List.all_eq_true.1 h o (List.mem_of_getElem? (by simpa using hi))
  rw [e] at h1
  cases h1
theorem rowsIn_of {n : Nat} {P : Program} {row : String} {args : Array Value} {w : World} {R : Value → World → Prop} (h : Rows P row args w R) : RowsIn Fence.wide n P row args w R :=
  fun c cs _ => let ⟨v, w', r, s⟩ := h c cs; ⟨v, w', r, stepsIn_wide.2 s⟩
theorem wpIn_round_of {l n : Nat} {P : Program} {o : Oper} {a : Act} {w : World} {K : Act → World → Prop} {Q : Exit → Act → World → Prop} (hd : ∀ c, o.op ≠ .defer c) (h : o.wp P a w K Q) : o.wpIn (Fence.wide.inRound l) n P a w K Q := by
  unfold Oper.wp at h
  unfold Oper.wpIn
  refine ⟨fun _ _ => trivial, ?_⟩
  rw [Oper.semAt_eq _ _ _ hd]
  generalize (execOp a.eval o).run P w = r at *
  cases r with
  | ok nx w' =>
    cases nx with
    | value v => exact h
    | skip => exact h
    | defer d => exact h
    | enter f args => exact ⟨fun hx => (by cases hx), CallsIn.inRound l (callsIn_wide.2 h)⟩
    | row r args => exact ⟨fun hx => (by cases hx), rowsIn_of (n := n - 1) h⟩
    | _ => exact h.elim
  | halt x w' => cases x <;> first | exact h | exact h.elim
theorem anyIn_round {l n : Nat} {P : Program} {md : Region.Mode} {ops : List Oper} {Q : Exit → Act → World → Prop} (hd : noDefB ops = true) (hno : ∀ a w, ¬ Q .outgrown a w) : ∀ (f : Nat) (L : Array Bool) (a : Act) (w : World), wpAny P md ops.toArray Q f L a w → wpAnyIn (Fence.wide.inRound l) n P md ops.toArray Q f L a w
  | 0, _, _, _, h => h
  | f + 1, L, a, w, h => by
    refine ⟨h.1, fun i hi => ?_⟩
    have h2 := h.2 i hi
    unfold wpOp at h2
    unfold wpOpIn
    cases ho : ops.toArray[i]? with
    | none =>
      rw [ho] at h2
      exact anyIn_round hd hno f _ _ _ h2
    | some o =>
      rw [ho] at h2
      dsimp only at h2 ⊢
      split
      · rename_i hw
        rw [if_pos hw] at h2
        rcases h2 with h3 | ⟨_, a', w', h3⟩
        · exact Oper.wpIn_mono (fun a w h => anyIn_round hd hno f _ _ _ h) (wpIn_round_of (noDef_spec hd ho) h3)
        · exact (hno _ _ h3).elim
      · rename_i hw
        rw [if_neg hw] at h2
        exact ⟨fun _ _ => trivial, anyIn_round hd hno f _ _ _ h2⟩
theorem wpIn_rqall {l n : Nat} {P : Program} {id : Nat} {Q : Exit → Act → World → Prop} {a : Act} {w : World} {ops : List Oper} (hm : P.follows .mixedOrders = true) (hB : Region.lexB .any ops.toArray = true) (hd : noDefB ops = true) (hno : ∀ a w, ¬ Q .outgrown a w)
    (h : (∀ (d : Nat) (os : Array Obj) (b o : Nat), b < w.heap.size → (Go.Sort.grow (redrawn w d) os).cell? ⟨b, o, none⟩ = w.cell? ⟨b, o, none⟩) →
      wpQuiet P ops.toArray (fun w' => ∃ p : Regrown, w' = Go.Sort.grow (redrawn w p.d) p.os) (fun a' => ∀ w', Below w.heap.size w w' →
        (∀ b o : Nat, b < w.heap.size → w'.cell? ⟨b, o, none⟩ = w.cell? ⟨b, o, none⟩) → (∀ b o : Nat, b < w.heap.size → w'.frozen? ⟨b, o, none⟩ = w.frozen? ⟨b, o, none⟩) →
        Q .normal a' w') ops a) : (Code.region id ops.toArray true).wpIn (Fence.wide.inRound l) n P Q a w := by
  have h' : wpQuiet P ops.toArray (fun w' => ∃ p : Regrown, w' = Go.Sort.grow (redrawn w p.d) p.os) (fun a' => ∀ w', (∃ p : Regrown, w' = Go.Sort.grow (redrawn w p.d) p.os) → Q .normal a' w') ops a := by
    refine wpQuiet_mono (fun a' ha w' hw' => ?_) _ _ (h (oldCells w))
    obtain ⟨⟨d, os⟩, rfl⟩ := hw'
    have hb := below_regrown w d os
    exact ha _ hb (fun b o hx => hb.cell (p := ⟨b, o, none⟩) hx) (fun b o hx => hb.frozen (p := ⟨b, o, none⟩) hx)
  clear h
  simp only [Region.lexB, Bool.and_eq_true] at hB
  refine wpIn_region_any hm (anyIn_round hd hno _ _ _ _ (wpAny_of_quiet (C := fun w' => ∃ p : Regrown, w' = Go.Sort.grow (redrawn w p.d) p.os) (Q := fun a' => ∀ w', (∃ p : Regrown, w' = Go.Sort.grow (redrawn w p.d) p.os) → Q .normal a' w') (fun _ w' hw' h => h w' hw') _ _ _ _ ⟨⟨w.drawn + 1, #[]⟩, by rw [Go.Sort.grow_empty]; rfl⟩ ?_))
  have := wpAnyQ_lex (C := fun w' => ∃ p : Regrown, w' = Go.Sort.grow (redrawn w p.d) p.os) (md := .any) hB.1 ops 0 (Array.replicate ops.toArray.size false) a (by simp) (by simpa using hB.2) h'
  simpa using this
/-- A region that ends in a forced tail, under a condition, within a round. -/
theorem wpIn_rheldcut {l n0 : Nat} {P : Program} {id : Nat} {Q : Exit → Act → World → Prop} {S : World → Prop} {a : Act} {w : World} {ops : List Oper} (n : Nat) (hm : P.follows .mixedOrders = true) (hd : noDefB ops = true) (hno : ∀ a w, ¬ Q .outgrown a w) (hB : cutB .any ops n = true) (hS : S w.drew)
    (h : S w.drew → wpAnyH P .any (ops.take n).toArray (tailPost P ops n Q) S n (Array.replicate n false) a w.drew) : (Code.region id ops.toArray true).wpIn (Fence.wide.inRound l) n0 P Q a w := by
  simp only [cutB, Bool.and_eq_true, decide_eq_true_eq] at hB
  obtain ⟨⟨⟨⟨hn, hs⟩, hc⟩, hb⟩, hq⟩ := hB
  refine wpIn_region_any hm (anyIn_round hd hno _ _ _ _ ?_)
  have hl : ops.length = n + (ops.length - n) := by omega
  have R := wpAny_cut (P := P) (Q := Q) hl (by omega) hs hc hb hq n (Array.replicate n false) (Array.replicate ops.toArray.size false) a w.drew
    ⟨by simp, fun j oj _ hl => (by rw [getD_replicate_false] at hl; cases hl), fun t _ ht => getD_in (by simpa using ht) (getD_replicate_false _ _)⟩
    ⟨by simp, by simp; omega, fun j _ => by rw [getD_replicate_false, getD_replicate_false], fun t _ _ => getD_replicate_false _ _⟩
    (wpAny_of_held _ _ _ _ (h hS))
  rw [show n + (ops.length - n) = ops.toArray.size by simp; omega] at R
  exact R
end Go.Proofs.Ytdmpimgbnhgiaaa

namespace Go.Proofs.Ytdmpimgbnhgiaaa
open Go.RowKit Go.St Go.Shelf
set_option linter.unusedVariables false
set_option linter.unusedSimpArgs false
set_option maxRecDepth 100000

theorem bxv_put {W : World} {b : Nat} {xs : List Value} (h : BxV W b xs) (i : Nat) (hi : i < xs.length) (v : Value) : BxV (W.setCell ⟨b, i, none⟩ v) b (xs.set i v) := by
  refine ⟨by simpa using h.lt, fun o => by simpa using h.fz o, fun j u hu => ?_⟩
  by_cases e : i = j
  · subst e
    rw [List.getElem?_set_self hi] at hu
    injection hu with hu
    subst hu
    exact World.cell?_setCell_same W ⟨b, i, none⟩ v (by rw [h.c i _ (List.getElem?_eq_getElem hi)])
  · rw [List.getElem?_set_ne e] at hu
    rw [World.cell?_setCell_other W ⟨b, i, none⟩ ⟨b, j, none⟩ v (fun e2 => by injection e2 with _ e3; exact e e3)]
    exact h.c j u hu
theorem bxv_far {W : World} {b p : Nat} {xs : List Value} (h : BxV W b xs) (hp : p ≠ b) (o : Nat) (v : Value) : BxV (W.setCell ⟨p, o, none⟩ v) b xs := by
  have := h.other hp o [v]
  rwa [World.setCells, World.setCells] at this
theorem bxv_nc {l b : Nat} {W W' : World} {xs : List Value} (h : BxV W b xs) (hn : Nc l W W') (hb : b ≠ l) : BxV W' b xs :=
  ⟨by rw [hn.size]; exact h.lt, fun o => (World.frozen?_of_block (a := ⟨b, o, none⟩) (hn.block b hb)).trans (h.fz o), fun i v hv => (World.cell?_of_block (a := ⟨b, i, none⟩) (hn.block b hb)).trans (h.c i v hv)⟩
/-- A slice that reads, of a row that was laid behind block z + 1. -/
def RdN (z : Nat) (W : World) (A : Option Addr) (xs : List Value) : Prop := xs ≠ [] → ∃ b off, A = some ⟨b, off, none⟩ ∧ z + 1 < b ∧ b < W.heap.size ∧ ∀ i v, xs[i]? = some v → W.cell? ⟨b, off + i, none⟩ = some v
theorem RdN.rd {z : Nat} {W : World} {A : Option Addr} {xs : List Value} (h : RdN z W A xs) : Rd W W.heap.size A xs := fun hn => by
  obtain ⟨b, off, e, _, h2, h3⟩ := h hn
  exact ⟨b, off, e, h2, h3⟩
theorem RdN.keep {z : Nat} {W W' : World} {A : Option Addr} {xs : List Value} (h : RdN z W A xs) (hz : W.heap.size ≤ W'.heap.size) (hk : ∀ b, z + 1 < b → b < W.heap.size → W'.heap[b]? = W.heap[b]?) : RdN z W' A xs := fun hn => by
  obtain ⟨b, off, e, h1, h2, h3⟩ := h hn
  exact ⟨b, off, e, h1, Nat.lt_of_lt_of_le h2 hz, fun i v hv => (World.cell?_of_block (a := ⟨b, off + i, none⟩) (hk b h1 h2)).trans (h3 i v hv)⟩
theorem RdN.next {z : Nat} {W W' : World} {A : Option Addr} {xs : List Value} (h : RdN z W A xs) (hb : Below W.heap.size W W') : RdN z W' A xs := h.keep hb.size (fun b _ hlt => hb.block b hlt)
theorem RdN.set {z : Nat} {W : World} {A : Option Addr} {xs : List Value} (h : RdN z W A xs) {p : Nat} (hp : p ≤ z + 1) (o : Nat) (v : Value) : RdN z (W.setCell ⟨p, o, none⟩ v) A xs := h.keep (by simp) (fun b h1 _ => Below.heap_setCell _ _ _ _ (by show b ≠ p; omega))
theorem RdN.nc {z : Nat} {W W' : World} {A : Option Addr} {xs : List Value} (h : RdN z W A xs) (hn : Nc (z + 1) W W') : RdN z W' A xs := h.keep (by rw [hn.size]; exact Nat.le_refl _) (fun b h1 _ => hn.block b (by omega))
theorem RdN.nil {z : Nat} {W : World} {A : Option Addr} : RdN z W A [] := fun h => absurd rfl h
theorem rdn_own {z base : Nat} {W : World} {e : TypeId} {A : Option Addr} {n c : Nat} {xs : List Value} (h : W.ownsRow base e 1 (.slice A n c) n xs) (hz : z + 2 ≤ base) : RdN z W A xs := fun hn => by
  obtain ⟨A', c', e1, -, r⟩ := own_sl h
  injection e1 with e1
  subst e1
  obtain ⟨b, off, e2, h1, h2⟩ := r hn
  subst e2
  have := (h.lt b rfl).1
  exact ⟨b, off, rfl, by omega, h1, h2⟩
/-- The state of Build ahead of a piece. -/
structure StB (w : World) (z q q2 Bs Bn : Nat) (A : Option Addr) (n c p : Nat) (outs idxs : List UInt8) (m : Nat) (W : World) : Prop where
  bel : Below q w W
  x6 : BxV W q [.slice none 0 0]
  x7 : BxV W (q + 1) [.int .i64 0]
  o : ∃ Ao co, BxV W q2 [.slice Ao outs.length co] ∧ RdN z W Ao (bv outs)
  i : ∃ Ai ci, BxV W (q2 + 1) [.slice Ai idxs.length ci] ∧ RdN z W Ai (bv idxs)
  m : BxV W (q2 + 2) [.int .i64 (m : Int)]
  s : BxV W Bs [.slice A n c]
  t : BxV W Bn [.int .i64 (p : Int)]
section
variable {w W W' : World} {z q q2 Bs Bn : Nat} {A : Option Addr} {n c p : Nat} {outs idxs : List UInt8} {m : Nat}
theorem StB.next (h : StB w z q q2 Bs Bn A n c p outs idxs m W) (hb : Below W.heap.size W W') : StB w z q q2 Bs Bn A n c p outs idxs m W' := by
  obtain ⟨Ao, co, o1, o2⟩ := h.o
  obtain ⟨Ai, ci, i1, i2⟩ := h.i
  exact ⟨h.bel.trans (hb.mono (by have := h.x6.lt; omega)), h.x6.next hb, h.x7.next hb, ⟨Ao, co, o1.next hb, o2.next hb⟩, ⟨Ai, ci, i1.next hb, i2.next hb⟩, h.m.next hb, h.s.next hb, h.t.next hb⟩
theorem StB.nc (h : StB w z q q2 Bs Bn A n c p outs idxs m W) (hz : q + 2 ≤ q2 ∧ q2 + 3 ≤ Bs ∧ Bs + 1 ≤ Bn ∧ Bn < z) (hn : Nc (z + 1) W W') : StB w z q q2 Bs Bn A n c p outs idxs m W' := by
  obtain ⟨Ao, co, o1, o2⟩ := h.o
  obtain ⟨Ai, ci, i1, i2⟩ := h.i
  exact ⟨h.bel.trans (hn.below (by omega)), bxv_nc h.x6 hn (by omega), bxv_nc h.x7 hn (by omega), ⟨Ao, co, bxv_nc o1 hn (by omega), o2.nc hn⟩, ⟨Ai, ci, bxv_nc i1 hn (by omega), i2.nc hn⟩, bxv_nc h.m hn (by omega), bxv_nc h.s hn (by omega), bxv_nc h.t hn (by omega)⟩
theorem StB.setO (h : StB w z q q2 Bs Bn A n c p outs idxs m W) (hz : q + 2 ≤ q2 ∧ q2 + 3 ≤ Bs ∧ Bs + 1 ≤ Bn ∧ Bn < z) {Ao : Option Addr} {co : Nat} {outs' : List UInt8} (hr : RdN z W Ao (bv outs')) : StB w z q q2 Bs Bn A n c p outs' idxs m (W.setCell ⟨q2, 0, none⟩ (.slice Ao outs'.length co)) := by
  obtain ⟨A1, c1, o1, o2⟩ := h.o
  obtain ⟨Ai, ci, i1, i2⟩ := h.i
  exact ⟨h.bel.setCell (p := ⟨q2, 0, none⟩) (by show q ≤ q2; omega) _, bxv_far h.x6 (by omega) _ _, bxv_far h.x7 (by omega) _ _, ⟨Ao, co, bxv_put o1 0 (by simp) _, hr.set (by omega) _ _⟩, ⟨Ai, ci, bxv_far i1 (by omega) _ _, i2.set (by omega) _ _⟩, bxv_far h.m (by omega) _ _, bxv_far h.s (by omega) _ _, bxv_far h.t (by omega) _ _⟩
theorem StB.setI (h : StB w z q q2 Bs Bn A n c p outs idxs m W) (hz : q + 2 ≤ q2 ∧ q2 + 3 ≤ Bs ∧ Bs + 1 ≤ Bn ∧ Bn < z) {Ai : Option Addr} {ci : Nat} {idxs' : List UInt8} (hr : RdN z W Ai (bv idxs')) : StB w z q q2 Bs Bn A n c p outs idxs' m (W.setCell ⟨q2 + 1, 0, none⟩ (.slice Ai idxs'.length ci)) := by
  obtain ⟨Ao, co, o1, o2⟩ := h.o
  obtain ⟨A1, c1, i1, i2⟩ := h.i
  exact ⟨h.bel.setCell (p := ⟨q2 + 1, 0, none⟩) (by show q ≤ q2 + 1; omega) _, bxv_far h.x6 (by omega) _ _, bxv_far h.x7 (by omega) _ _, ⟨Ao, co, bxv_far o1 (by omega) _ _, o2.set (by omega) _ _⟩, ⟨Ai, ci, bxv_put i1 0 (by simp) _, hr.set (by omega) _ _⟩, bxv_far h.m (by omega) _ _, bxv_far h.s (by omega) _ _, bxv_far h.t (by omega) _ _⟩
theorem StB.setM (h : StB w z q q2 Bs Bn A n c p outs idxs m W) (hz : q + 2 ≤ q2 ∧ q2 + 3 ≤ Bs ∧ Bs + 1 ≤ Bn ∧ Bn < z) (m' : Nat) : StB w z q q2 Bs Bn A n c p outs idxs m' (W.setCell ⟨q2 + 2, 0, none⟩ (.int .i64 (m' : Int))) := by
  obtain ⟨Ao, co, o1, o2⟩ := h.o
  obtain ⟨Ai, ci, i1, i2⟩ := h.i
  exact ⟨h.bel.setCell (p := ⟨q2 + 2, 0, none⟩) (by show q ≤ q2 + 2; omega) _, bxv_far h.x6 (by omega) _ _, bxv_far h.x7 (by omega) _ _, ⟨Ao, co, bxv_far o1 (by omega) _ _, o2.set (by omega) _ _⟩, ⟨Ai, ci, bxv_far i1 (by omega) _ _, i2.set (by omega) _ _⟩, bxv_put h.m 0 (by simp) _, bxv_far h.s (by omega) _ _, bxv_far h.t (by omega) _ _⟩
end
theorem chunk_any (A : Option Addr) (n c p : Nat) (hp : 1 ≤ p) (w : World) :
    Calls Try.prog 33 #[.slice A n c, .int .i64 (p : Int)] w fun e w' => e = .returned (.func (.func 63) #[] #[.pointer (some ⟨w.heap.size, 0, none⟩), .pointer (some ⟨w.heap.size + 1, 0, none⟩)]) ∧ BxV w' w.heap.size [.slice A n c] ∧ BxV w' (w.heap.size + 1) [.int .i64 (p : Int)] ∧ Below w.heap.size w w' := by
  have X1 : BxV (w.alloc (.cells #[.slice A n c] 22)) w.heap.size [.slice A n c] := BxV.new w _ _
  have X2 := BxV.new (w.alloc (.cells #[.slice A n c] 22)) #[.int .i64 (p : Int)] 3
  rw [World.size_alloc] at X2
  have X3 := Lib.hid (X1.alloc (.cells #[.int .i64 (p : Int)] 3))
  have XX := Lib.hid X2
  have hb : Hid (Below w.heap.size w ((w.alloc (.cells #[.slice A n c] 22)).alloc (.cells #[.int .i64 (p : Int)] 3))) := Lib.hid (((Below.refl _ _).alloc (Nat.le_refl _) _).alloc (by simp) _)
  have c2 := X2.c 0 _ rfl
  have p1 : ¬ (p : Int) < 1 := by omega
  have p2 : ¬ p < 1 := by omega
  have l2 := X2.lt
  clear X1 X2
  go_enter Try.func33, Try.ntmps33
  go_wp2
  go_ret
  exact ⟨rfl, X3.out, XX.out, hb.out⟩
end Go.Proofs.Ytdmpimgbnhgiaaa
