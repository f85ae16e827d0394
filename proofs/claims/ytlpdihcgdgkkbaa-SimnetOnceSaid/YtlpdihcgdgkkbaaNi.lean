/- Plain law of SimnetOnce: what was sent, what is over; the memory beside a net. -/
import Derived.Test.YtlpdihcgdgkkbaaNf
namespace Go.Proofs.Ytlpdihcgdgkkbaa
open Go.RowKit Go.St
set_option linter.unusedVariables false
set_option linter.unusedSimpArgs false
set_option maxRecDepth 100000

/-- What was sent and what is over, against what is in flight. -/
structure PL (s : Nt) (T : Nat) (ks : List Key) (os : List Bool) : Prop where
  wf : s.WF
  ls : s.last = T
  lk : ks.length = T + 1
  lo : os.length = T + 1
  fl : ∀ k ∈ s.ks, ∃ i : Nat, k.num = i ∧ 1 ≤ i ∧ ks[i]? = some k
  ov : ∀ i : Nat, 1 ≤ i → (os[i]? = some false ↔ ∃ k ∈ s.ks, k.num = i)
theorem PL.send {s : Nt} {T : Nat} {ks : List Key} {os : List Bool} (h : PL s T ks os) {fr tt : Int} {bs : List UInt8} (h1 : okK s.nodes fr tt = true) (h2 : s.ks.length < 2048) (h3 : bs.length ≤ 1000000) :
    PL (putS s fr tt bs) (T + 1) (ks ++ [⟨(T : Int) + 1, fr, tt, bs⟩]) (os ++ [false]) := by
  have hk1 := h.lk; have hk2 := h.lo; have hk3 := h.ls
  refine ⟨h.wf.put h1 h2 h3, by simp [putS, h.ls], by simp [hk1], by simp [hk2], fun k hk => ?_, fun i hi => ?_⟩
  · simp only [putS, List.mem_append, List.mem_singleton] at hk
    rcases hk with hk | rfl
    · obtain ⟨i, a, b, c⟩ := h.fl k hk
      exact ⟨i, a, b, by rw [List.getElem?_append_left (List.getElem?_eq_some_iff.1 c).1]; exact c⟩
    · refine ⟨T + 1, by simp [h.ls], by omega, ?_⟩
      rw [List.getElem?_append_right (by omega), hk1, h.ls]
      simp
  · simp only [putS, List.mem_append, List.mem_singleton]
    rcases Nat.lt_trichotomy i (T + 1) with hlt | rfl | hgt
    · rw [List.getElem?_append_left (by omega), h.ov i hi]
      constructor
      · rintro ⟨k, hk, e⟩; exact ⟨k, .inl hk, e⟩
      · rintro ⟨k, hk | rfl, e⟩
        · exact ⟨k, hk, e⟩
        · simp only at e; omega
    · rw [List.getElem?_append_right (by omega), hk2]
      simp only [Nat.sub_self, List.getElem?_cons_zero, true_iff]
      exact ⟨_, .inr rfl, by simp [h.ls]⟩
    · rw [List.getElem?_eq_none (by simp; omega)]
      constructor
      · intro e; cases e
      · rintro ⟨k, hk | rfl, e⟩
        · have := (h.wf.ks k hk).2.1; omega
        · simp only at e; omega
theorem PL.out {s : Nt} {T : Nat} {ks : List Key} {os : List Bool} (h : PL s T ks os) {i : Nat} (hi : 1 ≤ i) (hb : hitB s i = true) : PL (outS s i) T ks (os.set i true) := by
  have hsub : ∀ k ∈ (outS s i).ks, k ∈ s.ks := fun k hk => by
    unfold outS at hk
    rw [if_pos hb] at hk
    exact List.mem_of_mem_eraseIdx hk
  refine ⟨h.wf.out i, by rw [← h.ls]; unfold outS; rw [if_pos hb], h.lk, by rw [List.length_set]; exact h.lo, fun k hk => h.fl k (hsub k hk), fun j hj => ?_⟩
  have hx : (∃ k ∈ (outS s i).ks, k.num = (j : Int)) ↔ hitB (outS s i) j = true := (hitB_iff _ _).symm
  rw [hx]
  have hil : i < os.length := by
    obtain ⟨k, hk, e⟩ := (hitB_iff _ _).1 hb
    have h2 := h.wf.ks k hk
    have h3 := h.ls; have h4 := h.lo
    omega
  by_cases e : i = j
  · subst e
    rw [List.getElem?_set_self hil, hitB_out_same h.wf]
    simp
  · rw [List.getElem?_set_ne e, hitB_out_ne s (by omega), h.ov j hj, hitB_iff]
/-- Is it there, as the statement tells it? -/
def thB (T : Nat) (os : List Bool) (N : Int) : Bool := decide (1 ≤ N) && (decide (N < (T : Int) + 1) && !(os.getD N.toNat true))
theorem PL.there {s : Nt} {T : Nat} {ks : List Key} {os : List Bool} (h : PL s T ks os) (N : Int) : thB T os N = hitB s N := by
  have h4 := h.lo
  rw [Bool.eq_iff_iff]
  unfold thB
  constructor
  · intro hh
    simp only [Bool.and_eq_true, decide_eq_true_eq, Bool.not_eq_true'] at hh
    obtain ⟨h1, h2, h3⟩ := hh
    obtain ⟨i, rfl⟩ : ∃ i : Nat, N = i := ⟨N.toNat, by omega⟩
    rw [hitB_iff]
    refine (h.ov i (by omega)).1 ?_
    rw [Int.toNat_natCast, List.getD_eq_getElem?_getD, List.getElem?_eq_getElem (by omega)] at h3
    rw [List.getElem?_eq_getElem (by omega)]
    simpa using h3
  · intro hb
    obtain ⟨k, hk, e⟩ := (hitB_iff _ _).1 hb
    have h2 := h.wf.ks k hk
    have h3 := h.ls
    obtain ⟨i, rfl⟩ : ∃ i : Nat, N = i := ⟨N.toNat, by omega⟩
    have h5 := (h.ov i (by omega)).2 ⟨k, hk, e⟩
    simp only [Bool.and_eq_true, decide_eq_true_eq, Bool.not_eq_true']
    refine ⟨by omega, by omega, ?_⟩
    rw [Int.toNat_natCast, List.getD_eq_getElem?_getD, h5]
    rfl
theorem PL.key {s : Nt} {T : Nat} {ks : List Key} {os : List Bool} (h : PL s T ks os) {i : Nat} (hb : hitB s i = true) : ks[i]? = some (hitK s i) ∧ 1 ≤ i ∧ i ≤ T := by
  obtain ⟨j, a, b, c⟩ := h.fl _ (hit_mem hb)
  rw [hit_num hb] at a
  have : i = j := by omega
  subst this
  exact ⟨c, b, by have := (List.getElem?_eq_some_iff.1 c).1; have := h.lk; omega⟩
/-- A block that a net does not hold. -/
structure Sf1 (W : World) (b : Nat) (v : Value) (F : Nat → Prop) (k : Nat) : Prop where
  lt : k < W.heap.size
  n1 : k ≠ b
  n3 : v.ownBlock ≠ some k
  n5 : ¬ F k
theorem Sf1.next {W W' : World} {b : Nat} {v : Value} {F : Nat → Prop} {k : Nat} (h : Sf1 W b v F k) (hs : W.heap.size ≤ W'.heap.size) : Sf1 W' b v F k := ⟨Nat.lt_of_lt_of_le h.lt hs, h.n1, h.n3, h.n5⟩
theorem NetP.newSf {W W' : World} {base b : Nat} {v : Value} {F : Nat → Prop} {s : Nt} (h : NetP W base b v F s) {k : Nat} (h1 : W.heap.size ≤ k) (h2 : k < W'.heap.size) : Sf1 W' b v F k :=
  ⟨h2, by have := h.lt; omega, fun e => by have := (h.rowlt e).2; omega, fun e => by have := (h.Fp e).1; omega⟩
theorem NetP.keepSf {W W' : World} {base b : Nat} {v : Value} {F : Nat → Prop} {s : Nt} (h : NetP W base b v F s) (hs : W.heap.size ≤ W'.heap.size) (hk : ∀ k, k < W.heap.size → ¬ Sf1 W b v F k → W'.heap[k]? = W.heap[k]?) : NetP W' base b v F s :=
  h.keep hs (fun k h1 h2 => hk k h1 (fun hf => by rcases h2 with h2 | h2 | h2; exact hf.n1 h2; exact hf.n3 h2; exact hf.n5 h2))
theorem OutP.step1 {W w' : World} {base b : Nat} {v : Value} {F : Nat → Prop} {s s' : Nt} (h : NetP W base b v F s) (ho : OutP base b v.ownBlock F s' W w') :
    ∃ v' F', NetP w' base b v' F' s' ∧ Below base W w' ∧ ∀ k, Sf1 W b v F k → w'.heap[k]? = W.heap[k]? ∧ Sf1 w' b v' F' k := by
  have hb := h.fr_below ho.1
  have hf := ho.1
  obtain ⟨v', F', hN, -, hv, hF⟩ := ho.net
  refine ⟨v', F', hN, hb, fun k hk => ⟨hf.block k hk.lt hk.n1 hk.n3, Nat.lt_of_lt_of_le hk.lt hf.size, hk.n1, fun e => ?_, fun e => ?_⟩⟩
  · rcases hv with hv | hv
    · rw [hv] at e; exact hk.n3 e
    · have := hv k e; have := hk.lt; omega
  · rcases hF k e with h1 | h1
    · exact hk.n5 h1
    · have := hk.lt; omega
/-- Flags as cells. -/
def ovC (os : List Bool) : List Value := os.map .bool
/-- The memory of SimnetOnce: the net, the list of what was sent, the flags. -/
structure OnM (W : World) (base b : Nat) (v : Value) (F : Nat → Prop) (s : Nt) (T7 T8 : Nat) (v7 v8 : Value) (ls : List Ltr) (os : List Bool) : Prop where
  net : NetP W base b v F s
  l7 : ls.length = T7
  l8 : os.length = T8
  o7 : W.ownsRow base 51 4 v7 T7 (lv ls)
  o8 : W.ownsRow base 4 1 v8 T8 (ovC os)
  f7 : ∀ g, v7.ownBlock = some g → Sf1 W b v F g
  f8 : ∀ g, v8.ownBlock = some g → Sf1 W b v F g
  d78 : ∀ g, v7.ownBlock = some g → v8.ownBlock ≠ some g
  sb : ∀ x ∈ ls, x.k.bs.length = x.n ∧ x.n ≤ 1000000 ∧ Rd W base x.A (bv x.k.bs)
section
variable {W W' : World} {base b : Nat} {v : Value} {F : Nat → Prop} {s : Nt} {T7 T8 : Nat} {v7 v8 : Value} {ls : List Ltr} {os : List Bool}
theorem OnM.next (h : OnM W base b v F s T7 T8 v7 v8 ls os) (hb : Below W.heap.size W W') : OnM W' base b v F s T7 T8 v7 v8 ls os :=
  ⟨h.net.next hb, h.l7, h.l8, own_keep h.o7 hb (Nat.le_refl _), own_keep h.o8 hb (Nat.le_refl _), fun g e => (h.f7 g e).next hb.size, fun g e => (h.f8 g e).next hb.size, h.d78, fun x hx => by
    obtain ⟨a, b, c⟩ := h.sb x hx
    exact ⟨a, b, c.below (hb.mono (by have := h.net.lt; omega))⟩⟩
theorem OnM.step {s' : Nt} (h : OnM W base b v F s T7 T8 v7 v8 ls os) (ho : OutP base b v.ownBlock F s' W W') :
    ∃ v' F', OnM W' base b v' F' s' T7 T8 v7 v8 ls os ∧ Below base W W' ∧ ∀ k, Sf1 W b v F k → W'.heap[k]? = W.heap[k]? ∧ Sf1 W' b v' F' k := by
  obtain ⟨v', F', h1, h2, h3⟩ := OutP.step1 h.net ho
  exact ⟨v', F', ⟨h1, h.l7, h.l8, ownsRow_of h.o7 (fun g e => (h3 g (h.f7 g e)).1), ownsRow_of h.o8 (fun g e => (h3 g (h.f8 g e)).1), fun g e => (h3 g (h.f7 g e)).2, fun g e => (h3 g (h.f8 g e)).2, h.d78, fun x hx => by
    obtain ⟨a, b, c⟩ := h.sb x hx
    exact ⟨a, b, c.below h2⟩⟩, h2, h3⟩
/-- One more letter sent. -/
theorem OnM.push7 {v7' : Value} (h : OnM W base b v F s T7 T8 v7 v8 ls os) {x : Ltr} (hg : W.grownBy W' v7.ownBlock) (own : W'.ownsRow base 51 4 v7' (T7 + 1) (lv ls ++ ltc x)) (hv : v7'.ownBlock = v7.ownBlock ∨ v7'.ownBlock = some W.heap.size)
    (hx : x.k.bs.length = x.n ∧ x.n ≤ 1000000 ∧ Rd W base x.A (bv x.k.bs)) :
    OnM W' base b v F s (T7 + 1) T8 v7' v8 (ls ++ [x]) os ∧ Below base W W' ∧ ∀ k, Sf1 W b v F k → v7.ownBlock ≠ some k → W'.heap[k]? = W.heap[k]? ∧ v7'.ownBlock ≠ some k := by
  have hbel : Below base W W' := (Below.refl _ _).grown hg (by have := h.net.lt; omega) (fun g e => (h.o7.lt g e).1)
  refine ⟨⟨h.net.keepSf hg.size (fun k hk hns => hg.block k hk (fun e => hns (h.f7 k e.symm))), by rw [List.length_append, h.l7]; rfl, h.l8, by rw [lv_append]; simpa [lv] using own, ownsRow_of h.o8 (fun g e => hg.block g (h.f8 g e).lt (fun e2 => h.d78 g e2.symm e)), fun g e => ?_, fun g e => (h.f8 g e).next hg.size, fun g e e2 => ?_, fun y hy => ?_⟩, hbel, fun k hk hn => ⟨hg.block k hk.lt (fun e => hn e.symm), fun e => ?_⟩⟩
  · rcases hv with h1 | h1
    · rw [h1] at e; exact (h.f7 g e).next hg.size
    · have h2 := (own.lt g e).2
      rw [h1] at e; injection e with e; exact h.net.newSf (by omega) h2
  · rcases hv with h1 | h1
    · rw [h1] at e; exact h.d78 g e e2
    · rw [h1] at e; injection e with e; have := (h.f8 g e2).lt; omega
  · rcases List.mem_append.1 hy with h1 | h1
    · obtain ⟨a, b, c⟩ := h.sb y h1
      exact ⟨a, b, c.below hbel⟩
    · simp at h1; subst h1
      exact ⟨hx.1, hx.2.1, hx.2.2.below hbel⟩
  · rcases hv with h1 | h1
    · rw [h1] at e; exact hn e
    · rw [h1] at e; injection e with e; have := hk.lt; omega
/-- One more flag. -/
theorem OnM.push8 {v8' : Value} (h : OnM W base b v F s T7 T8 v7 v8 ls os) {y : Bool} (hg : W.grownBy W' v8.ownBlock) (own : W'.ownsRow base 4 1 v8' (T8 + 1) (ovC os ++ [.bool y])) (hv : v8'.ownBlock = v8.ownBlock ∨ v8'.ownBlock = some W.heap.size) :
    OnM W' base b v F s T7 (T8 + 1) v7 v8' ls (os ++ [y]) ∧ Below base W W' := by
  have hbel : Below base W W' := (Below.refl _ _).grown hg (by have := h.net.lt; omega) (fun g e => (h.o8.lt g e).1)
  refine ⟨⟨h.net.keepSf hg.size (fun k hk hns => hg.block k hk (fun e => hns (h.f8 k e.symm))), h.l7, by rw [List.length_append, h.l8]; rfl, ownsRow_of h.o7 (fun g e => hg.block g (h.f7 g e).lt (fun e2 => h.d78 g e e2.symm)), by simpa [ovC] using own, fun g e => (h.f7 g e).next hg.size, fun g e => ?_, fun g e e2 => ?_, fun x hx => ?_⟩, hbel⟩
  · rcases hv with h1 | h1
    · rw [h1] at e; exact (h.f8 g e).next hg.size
    · have h2 := (own.lt g e).2
      rw [h1] at e; injection e with e; exact h.net.newSf (by omega) h2
  · rcases hv with h1 | h1
    · rw [h1] at e2; exact h.d78 g e e2
    · rw [h1] at e2; injection e2 with e2; have := (h.f7 g e).lt; omega
  · obtain ⟨a, b, c⟩ := h.sb x hx
    exact ⟨a, b, c.below hbel⟩
/-- A flag set. -/
theorem OnM.set8 {g8 c8 : Nat} (h : OnM W base b v F s T7 T8 v7 (.slice (some ⟨g8, 0, none⟩) T8 c8) ls os) (i : Nat) :
    OnM (W.setCell ⟨g8, i, none⟩ (.bool true)) base b v F s T7 T8 v7 (.slice (some ⟨g8, 0, none⟩) T8 c8) ls (os.set i true) ∧ Below base W (W.setCell ⟨g8, i, none⟩ (.bool true)) := by
  have hst := h.o8.stored i (.bool true)
  have hb8 := (h.o8.lt g8 rfl).1
  have hk : ∀ k, k ≠ g8 → (W.setCell ⟨g8, i, none⟩ (.bool true)).heap[k]? = W.heap[k]? := fun k e => Below.heap_setCell _ _ _ _ e
  have hs : W.heap.size ≤ (W.setCell ⟨g8, i, none⟩ (.bool true)).heap.size := by simp [World.setCell]
  have hbel : Below base W (W.setCell ⟨g8, i, none⟩ (.bool true)) := (Below.refl _ _).setCell hb8 _
  refine ⟨⟨h.net.keepSf hs (fun k _ hns => hk k (fun e => hns (by rw [e]; exact h.f8 g8 rfl))), h.l7, by rw [List.length_set]; exact h.l8, ownsRow_of h.o7 (fun g e => hk g (fun e2 => h.d78 g e (by rw [e2]; rfl))), ?_, fun g e => (h.f7 g e).next hs, fun g e => (h.f8 g e).next hs, h.d78, fun x hx => ?_⟩, hbel⟩
  · have e : ovC (os.set i true) = (ovC os).set i (.bool true) := by simp [ovC, List.map_set]
    rw [e]
    exact hst.1
  · obtain ⟨a, b, c⟩ := h.sb x hx
    exact ⟨a, b, c.below hbel⟩
end
theorem sendE0 {s : Nt} {fr tt : Int} (h : sendE s fr tt = 0) : okK s.nodes fr tt = true ∧ s.ks.length < 2048 := by
  unfold sendE at h
  split at h
  · rename_i hk
    split at h
    · simp at h
    · exact ⟨hk, by omega⟩
  · simp at h
theorem againE0 {s : Nt} {num : Int} (h : againE s num = 0) : hitB s num = true ∧ s.ks.length < 2048 := by
  unfold againE at h
  split at h
  · rename_i hk
    split at h
    · simp at h
    · exact ⟨hk, by omega⟩
  · simp at h
end Go.Proofs.Ytlpdihcgdgkkbaa
