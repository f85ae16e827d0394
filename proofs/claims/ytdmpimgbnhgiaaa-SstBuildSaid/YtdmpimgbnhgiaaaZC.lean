/- A region that draws its order: the head under a condition, the rest in whatever order, the condition no longer asked. -/
import Derived.StillTail
import Derived.OrdersHeld
import Derived.Deep.RegionHeld

namespace Go.St
set_option linter.unusedVariables false
set_option linter.unusedSimpArgs false

section
variable {P : Program} {md : Region.Mode}

/-- What the head leaves: the tail's walk. -/
def tailPost (P : Program) (l : List Oper) (n : Nat) (Q : Exit → Act → World → Prop) : Exit → Act → World → Prop
  | .normal, a, w => wpList P l.toArray Q (l.drop n) a w
  | .exit i, a, w => Q (.exit i) a w
  | .goto i, a, w => Q (.goto i) a w
  | .ret, a, w => Q .ret a w
  | .panic c, a, w => Q (.panic c) a w
  | .outgrown, a, w => Q .outgrown a w

/-- Each operation of the head waits for earlier ones alone, and is guarded by the head alone. -/
def headB (md : Region.Mode) (l : List Oper) (n : Nat) : Bool :=
  (List.range n).all fun j => match l[j]? with
    | some o => (o.after.all fun e => !Region.binds md e || decide (e.on < j)) && (match o.guard with | some (g, _) => decide (g < n) | none => true)
    | none => false
def cutListed (n m : Nat) : Array Bool := (List.replicate n true ++ List.replicate m false).toArray
def cutB (md : Region.Mode) (l : List Oper) (n : Nat) : Bool :=
  decide (n < l.length) && Region.sinkB md l.toArray n && Region.chainB md l.toArray n && headB md l n && Region.seqB md l.toArray (l.length - n) n (cutListed n (l.length - n))

theorem headB_spec {l : List Oper} {n j : Nat} (h : headB md l n = true) (hj : j < n) :
    ∃ o, l[j]? = some o ∧ (∀ e ∈ o.after, Region.binds md e = true → e.on < j) ∧ ∀ g b, o.guard = some (g, b) → g < n := by
  have h1 := List.all_eq_true.1 h j (List.mem_range.2 hj)
  cases ho : l[j]? with
  | none => rw [ho] at h1; cases h1
  | some o =>
    rw [ho] at h1
    simp only [Bool.and_eq_true, Array.all_eq_true_iff_forall_mem] at h1
    refine ⟨o, rfl, fun e he hb => ?_, fun g b hg => ?_⟩
    · have := h1.1 e he
      rw [hb] at this
      simpa using this
    · have := h1.2
      rw [hg] at this
      simpa using this

theorem take_get {l : List Oper} {n j : Nat} (hj : j < n) : (l.take n).toArray[j]? = l.toArray[j]? := by
  simp [List.getElem?_take, hj]

theorem wpOp_head {l : List Oper} {n i : Nat} {Q : Exit → Act → World → Prop} {K : Act → World → Prop} {a : Act} {w : World} (hB : headB md l n = true) (hi : i < n)
    (h : wpOp P (l.take n).toArray (tailPost P l n Q) i K a w) : wpOp P l.toArray Q i K a w := by
  obtain ⟨o, ho, _, hg⟩ := headB_spec hB hi
  have ho' : l.toArray[i]? = some o := by simpa using ho
  have hw : Region.wanted o (yielded (l.take n).toArray a.tmps) = Region.wanted o (yielded l.toArray a.tmps) := by
    unfold Region.wanted
    cases hgd : o.guard with
    | none => rfl
    | some gw =>
      obtain ⟨g, b⟩ := gw
      have : yielded (l.take n).toArray a.tmps g = yielded l.toArray a.tmps g := by
        unfold yielded
        rw [take_get (hg g b hgd)]
      simp only [this]
  unfold wpOp at h ⊢
  rw [take_get hi] at h
  simp only [ho'] at h ⊢
  rw [hw] at h
  split
  · rename_i hwd
    simp only [hwd, if_true] at h
    rcases h with h | ⟨h1, a', w', h2⟩
    · left
      unfold Oper.wp at h ⊢
      generalize (execOp a.eval o).run P w = r at *
      cases r with
      | ok nx w' =>
        cases nx <;> simp only [Oper.upon] at h ⊢ <;> exact h
      | halt x w' => cases x <;> simp only [Oper.upon] at h ⊢ <;> exact h
    · exact .inr ⟨h1, a', w', h2⟩
  · rename_i hwd
    simp only [hwd] at h
    exact h

theorem wpAny_more {ops : Array Oper} {Q : Exit → Act → World → Prop} : ∀ (f : Nat) (listed : Array Bool) (a : Act) (w : World), wpAny P md ops Q f listed a w → wpAny P md ops Q (f + 1) listed a w
  | 0, _, _, _, h => ⟨fun _ => h.2, fun i hi => by rw [h.1] at hi; cases hi⟩
  | f + 1, _, _, _, h => ⟨h.1, fun i hi => wpOp_mono (fun a' w' h' => wpAny_more f _ a' w' h') (h.2 i hi)⟩
theorem wpAny_adds {ops : Array Oper} {Q : Exit → Act → World → Prop} {g : Nat} {listed : Array Bool} {a : Act} {w : World} (h : wpAny P md ops Q g listed a w) : ∀ f, wpAny P md ops Q (f + g) listed a w
  | 0 => by rw [Nat.zero_add]; exact h
  | f + 1 => by rw [show f + 1 + g = (f + g) + 1 by omega]; exact wpAny_more _ _ _ _ (wpAny_adds h f)

/-- The marks of the head and of the whole region, side by side. -/
structure Side (n m : Nat) (L0 L : Array Bool) : Prop where
  s0 : L0.size = n
  s : L.size = n + m
  eq : ∀ j, j < n → L.getD j false = L0.getD j false
  far : ∀ t, n ≤ t → t < n + m → L.getD t false = false
theorem Side.set {n m i : Nat} {L0 L : Array Bool} (h : Side n m L0 L) (hi : i < n) : Side n m (L0.setIfInBounds i true) (L.setIfInBounds i true) := by
  refine ⟨by simp [h.s0], by simp [h.s], fun j hj => ?_, fun t ht ht' => by rw [getD_set_ne false (by omega)]; exact h.far t ht ht'⟩
  by_cases e : i = j
  · subst e
    have h1 := h.s0; have h2 := h.s
    simp [h1, h2, show i < n by omega, show i < n + m by omega]
  · rw [getD_set_ne false e, getD_set_ne false e]; exact h.eq j hj
theorem getD_tf {L : Array Bool} {i : Nat} (hi : i < L.size) : L.getD i true = L.getD i false := by simp [hi]
theorem Side.done {n m : Nat} {L0 L : Array Bool} (h : Side n m L0 L) (hall : ∀ j, j < n → L0.getD j false = true) : L = cutListed n m := by
  apply Array.ext
  · simp [h.s, cutListed]
  · intro i h1 h2
    have hs := h.s
    by_cases hi : i < n
    · have := (h.eq i hi).trans (hall i hi)
      simp [h1] at this
      rw [this]
      simp [cutListed, hi]
    · have := h.far i (by omega) (by omega)
      simp [h1] at this
      rw [this]
      simp [cutListed, List.getElem_append, hi]

theorem ready_head {l : List Oper} {n m i : Nat} {L0 L : Array Bool} (hB : headB md l n = true) (hl : l.length = n + m) (h : Side n m L0 L) (hi : i < n) (hr : i ∈ Region.ready md l.toArray L) : i ∈ Region.ready md (l.take n).toArray L0 := by
  obtain ⟨h0, o, ho, hall⟩ := mem_ready.1 hr
  obtain ⟨o', ho', he, _⟩ := headB_spec hB hi
  have : o' = o := Option.some.inj (ho'.symm.trans (by simpa using ho))
  subst this
  have h1 := h.s0; have h2 := h.s
  refine mem_ready.2 ⟨?_, o', by rw [take_get hi]; exact ho, fun e hm hb => ?_⟩
  · rw [getD_tf (by omega)] at h0 ⊢
    rw [← h.eq i hi]; exact h0
  · have := he e hm hb
    rw [← h.eq e.on (by omega)]
    exact hall e hm hb
theorem all_listed {l : List Oper} {n : Nat} {L0 : Array Bool} (hB : headB md l n = true) (hs : L0.size = n) (hr : Region.ready md (l.take n).toArray L0 = []) : ∀ j, j < n → L0.getD j false = true := by
  intro j
  induction j using Nat.strongRecOn with
  | _ j ih =>
    intro hj
    cases hx : L0.getD j false with
    | true => rfl
    | false =>
      obtain ⟨o, ho, he, _⟩ := headB_spec hB hj
      have : j ∈ Region.ready md (l.take n).toArray L0 := mem_ready.2 ⟨by rw [getD_tf (by omega)]; exact hx, o, by rw [take_get hj]; simpa using ho, fun e hm hb => ih e.on (he e hm hb) (Nat.lt_trans (he e hm hb) hj)⟩
      rw [hr] at this
      cases this

theorem wpAny_cut {l : List Oper} {n m : Nat} {Q : Exit → Act → World → Prop} (hl : l.length = n + m) (hm : 0 < m) (hs : Region.sinkB md l.toArray n = true) (hc : Region.chainB md l.toArray n = true) (hB : headB md l n = true)
    (hq : Region.seqB md l.toArray m n (cutListed n m) = true) :
    ∀ (f : Nat) (L0 L : Array Bool) (a : Act) (w : World), HeadInv md l.toArray n L → Side n m L0 L → wpAny P md (l.take n).toArray (tailPost P l n Q) f L0 a w → wpAny P md l.toArray Q (f + m) L a w := by
  have hdl : (l.drop n).length = m := by simp; omega
  have base : ∀ (L0 L : Array Bool) (a : Act) (w : World), Side n m L0 L → Region.ready md (l.take n).toArray L0 = [] → wpList P l.toArray Q (l.drop n) a w → wpAny P md l.toArray Q m L a w := fun L0 L a w hS hr h => by
    have e := hS.done (all_listed hB hS.s0 hr)
    subst e
    have := wpAny_of_seq (md := md) (Q' := Q) (P := P) (ops := l.toArray) (l.drop n) n (cutListed n m) a w (fun j => by simp [List.getElem?_drop]) (by rw [hdl]; exact hq) h
    rwa [hdl] at this
  intro f
  induction f with
  | zero =>
    intro L0 L a w _ hS h
    rw [Nat.zero_add]
    exact base L0 L a w hS h.1 h.2
  | succ f ih =>
    intro L0 L a w inv hS h
    by_cases hr : Region.ready md (l.take n).toArray L0 = []
    · exact wpAny_adds (base L0 L a w hS hr (h.1 hr)) (f + 1)
    · obtain ⟨k, hk⟩ := List.exists_mem_of_ne_nil _ hr
      have hk1 := mem_ready.1 hk
      obtain ⟨o, ho, hall⟩ := hk1.2
      have hkn : k < n := by
        have := (Array.getElem?_eq_some_iff.1 ho).1
        simp at this
        omega
      have h1 := hS.s0; have h2 := hS.s
      have hun : L.getD k true = false := by
        have := hk1.1
        rw [getD_tf (by omega)] at this ⊢
        rw [hS.eq k hkn]; exact this
      rw [show f + 1 + m = (f + m) + 1 by omega]
      have hlt : ∀ i ∈ Region.ready md l.toArray L, i < n := fun i hi => Nat.lt_of_not_le fun hle => tail_waits hs hc (by simp; omega) inv _ k rfl hkn hun i hle hi
      have hready : k ∈ Region.ready md l.toArray L := by
        obtain ⟨o', ho', he, _⟩ := headB_spec hB hkn
        have e2 : o' = o := Option.some.inj (ho'.symm.trans (by rw [take_get hkn] at ho; simpa using ho))
        subst e2
        exact mem_ready.2 ⟨hun, o', by simpa using ho', fun e hm hb => (hS.eq e.on (Nat.lt_trans (he e hm hb) hkn)).trans (hall e hm hb)⟩
      refine ⟨fun h0 => (by rw [h0] at hready; cases hready), fun i hi => ?_⟩
      have hin := hlt i hi
      exact wpOp_head hB hin (wpOp_mono (fun a' w' h' => by exact h') (wpOp_mono (fun a' w' h' => h') (h.2 i (ready_head hB hl hS hin hi)))) |> wpOp_mono (fun a' w' h' => ih _ _ a' w' (inv.set hi hin) (hS.set hin) h')

/-- **The law.** -/
theorem wp_heldcut {id : Nat} {Q : Exit → Act → World → Prop} {S : World → Prop} {a : Act} {w : World} {l : List Oper} (n : Nat) (hm : P.follows .mixedOrders = true) (hB : cutB .any l n = true) (hS : S w.drew)
    (h : S w.drew → wpAnyH P .any (l.take n).toArray (tailPost P l n Q) S n (Array.replicate n false) a w.drew) : (Code.region id l.toArray true).wp P Q a w := by
  simp only [cutB, Bool.and_eq_true, decide_eq_true_eq] at hB
  obtain ⟨⟨⟨⟨hn, hs⟩, hc⟩, hb⟩, hq⟩ := hB
  refine wp_region_any hm ?_
  have hl : l.length = n + (l.length - n) := by omega
  have R := wpAny_cut (P := P) (Q := Q) hl (by omega) hs hc hb hq n (Array.replicate n false) (Array.replicate l.toArray.size false) a w.drew
    ⟨by simp, fun j oj _ hl => (by rw [getD_replicate_false] at hl; cases hl), fun t _ ht => getD_in (by simpa using ht) (getD_replicate_false _ _)⟩
    ⟨by simp, by simp; omega, fun j _ => by rw [getD_replicate_false, getD_replicate_false], fun t _ _ => getD_replicate_false _ _⟩
    (wpAny_of_held _ _ _ _ (h hS))
  rw [show n + (l.length - n) = l.toArray.size by simp; omega] at R
  exact R

/-- The whole region under the condition. -/
theorem wp_heldall {id : Nat} {Q : Exit → Act → World → Prop} {S : World → Prop} {a : Act} {w : World} {l : List Oper} (n : Nat) (hm : P.follows .mixedOrders = true) (hn : l.length = n) (hS : S w.drew)
    (h : S w.drew → wpAnyH P .any l.toArray Q S n (Array.replicate n false) a w.drew) : (Code.region id l.toArray true).wp P Q a w := by
  subst hn
  exact wp_region_held hm (by simpa using h hS)
/-- The moves, the operation read off a list. -/
theorem takeL {l : List Oper} {Q : Exit → Act → World → Prop} {S : World → Prop} {i : Nat} {oi : Oper} {v : Value} {fuel : Nat} {listed : Array Bool} {a : Act} {w : World} (hi : l[i]? = some oi)
    (hs : Region.noSelect l.toArray = true) (hf : Region.free md l.toArray listed i = true) (hr : (Region.ready md l.toArray listed).contains i = true)
    (hQ : ∀ c a w, Q (.panic c) (a.put oi.dst v) w → Q (.panic c) a w) (hy : Region.wanted oi (yielded l.toArray a.tmps) = true ∧ ∀ w, S w → (execOp a.eval oi).run P w = .ok (.value v) w) (hS : S w)
    (h : wpAnyH P md l.toArray Q S fuel (listed.setIfInBounds i true) (a.put oi.dst v) w) : wpAnyH P md l.toArray Q S (fuel + 1) listed a w :=
  wpAnyH_take (by simpa using hi) hs hf hr hQ (.inl hy) hS h
theorem consL {l : List Oper} {Q : Exit → Act → World → Prop} {S : World → Prop} {fuel : Nat} {listed : Array Bool} {a : Act} {w : World} {i : Nat} {o : Oper} {rs : List Nat} (ho : l[i]? = some o) (hw : Region.wanted o (yielded l.toArray a.tmps) = true)
    (h : ∀ K' : Act → World → Prop, Shut (∀ a w, S w → (S w → wpAnyH P md l.toArray Q S fuel (listed.setIfInBounds i true) a w) → K' a w) → Oper.wp P o a w K' Q)
    (hs : AllReadyH P md l.toArray Q S fuel listed a w rs) : AllReadyH P md l.toArray Q S fuel listed a w (i :: rs) :=
  AllReadyH.cons (by simpa using ho) (fun K hK => by rw [if_pos hw]; exact h K hK) hs
end
end Go.St

namespace Go.St
set_option linter.unusedVariables false
set_option linter.unusedSimpArgs false

section
variable {P : Program} {md : Region.Mode}

def tailPost2 (P : Program) (md : Region.Mode) (l : List Oper) (n : Nat) (Q : Exit → Act → World → Prop) : Exit → Act → World → Prop
  | .normal, a, w => wpAny P md l.toArray Q (l.length - n) (cutListed n (l.length - n)) a w
  | .exit i, a, w => Q (.exit i) a w
  | .goto i, a, w => Q (.goto i) a w
  | .ret, a, w => Q .ret a w
  | .panic c, a, w => Q (.panic c) a w
  | .outgrown, a, w => Q .outgrown a w
/-- Each operation behind the n-th waits for one from the n-th on. -/
def waitsB (md : Region.Mode) (ops : Array Oper) (n : Nat) : Bool :=
  (List.range ops.size).all fun t => decide (t ≤ n) || (List.range t).any fun j => decide (n ≤ j) && Region.waitsFor md ops t j
def cut2B (md : Region.Mode) (l : List Oper) (n : Nat) : Bool := decide (n < l.length) && Region.sinkB md l.toArray n && waitsB md l.toArray n && headB md l n
theorem getD_no {L : Array Bool} {i : Nat} (h : L.getD i true = false) : L.getD i false = false := by
  rcases Nat.lt_or_ge i L.size with h' | h'
  · simpa [h'] using h
  · simp [Nat.not_lt.2 h']
theorem tail_waits2 {ops : Array Oper} {n : Nat} {listed : Array Bool} (hs : Region.sinkB md ops n = true) (hc : waitsB md ops n = true) (hn : n < ops.size) (inv : HeadInv md ops n listed) :
    ∀ (d i : Nat), n - i = d → i < n → listed.getD i true = false → ∀ t, n ≤ t → t ∉ Region.ready md ops listed := by
  intro d
  induction d using Nat.strongRecOn with
  | _ d ih =>
    intro i hd hi hun t ht hr
    obtain ⟨_, ot, hot, hall⟩ := mem_ready.1 hr
    have htlt : t < ops.size := (Array.getElem?_eq_some_iff.1 hot).1
    by_cases htn : t = n
    · subst htn
      have h1 := List.all_eq_true.1 hs i (List.mem_range.2 hi)
      obtain ⟨j, hj, hj2⟩ := List.any_eq_true.1 h1
      simp only [Bool.and_eq_true, decide_eq_true_eq] at hj2
      obtain ⟨oj, hoj, e, he, hb, hon⟩ := Region.waitsFor_spec hj2.2
      have hjle : j ≤ t := by have := List.mem_range.1 hj; omega
      by_cases hjt : j = t
      · subst hjt
        have : oj = ot := Option.some.inj (hoj.symm.trans hot)
        subst this
        have h2 := hall e he hb
        rw [hon, getD_no hun] at h2
        cases h2
      · cases hl : listed.getD j false with
        | true =>
          have h2 := inv.closed j oj hoj hl e he hb
          rw [hon, getD_no hun] at h2
          cases h2
        | false =>
          have hjs : j < listed.size := by rw [inv.size]; omega
          have hju : listed.getD j true = false := by rw [getD_tf hjs]; exact hl
          exact ih (t - j) (by omega) j rfl (by omega) hju t (Nat.le_refl _) hr
    · have h1 := List.all_eq_true.1 hc t (List.mem_range.2 htlt)
      rw [Bool.or_eq_true] at h1
      rcases h1 with h1 | h1
      · have := of_decide_eq_true h1; omega
      · obtain ⟨j, hj, hj2⟩ := List.any_eq_true.1 h1
        simp only [Bool.and_eq_true, decide_eq_true_eq] at hj2
        have hjt := List.mem_range.1 hj
        obtain ⟨oj, hoj, e, he, hb, hon⟩ := Region.waitsFor_spec hj2.2
        have : oj = ot := Option.some.inj (hoj.symm.trans hot)
        subst this
        have h2 := hall e he hb
        rw [hon, getD_no (inv.tail j hj2.1 (by omega))] at h2
        cases h2
theorem wpOp_head2 {l : List Oper} {n i : Nat} {Q : Exit → Act → World → Prop} {K : Act → World → Prop} {a : Act} {w : World} (hB : headB md l n = true) (hi : i < n)
    (h : wpOp P (l.take n).toArray (tailPost2 P md l n Q) i K a w) : wpOp P l.toArray Q i K a w := by
  obtain ⟨o, ho, _, hg⟩ := headB_spec hB hi
  have ho' : l.toArray[i]? = some o := by simpa using ho
  have hw : Region.wanted o (yielded (l.take n).toArray a.tmps) = Region.wanted o (yielded l.toArray a.tmps) := by
    unfold Region.wanted
    cases hgd : o.guard with
    | none => rfl
    | some gw =>
      obtain ⟨g, b⟩ := gw
      have : yielded (l.take n).toArray a.tmps g = yielded l.toArray a.tmps g := by
        unfold yielded
        rw [take_get (hg g b hgd)]
      simp only [this]
  unfold wpOp at h ⊢
  rw [take_get hi] at h
  simp only [ho'] at h ⊢
  rw [hw] at h
  split
  · rename_i hwd
    simp only [hwd, if_true] at h
    rcases h with h | ⟨h1, a', w', h2⟩
    · left
      unfold Oper.wp at h ⊢
      generalize (execOp a.eval o).run P w = r at *
      cases r with
      | ok nx w' =>
        cases nx <;> simp only [Oper.upon] at h ⊢ <;> exact h
      | halt x w' => cases x <;> simp only [Oper.upon] at h ⊢ <;> exact h
    · exact .inr ⟨h1, a', w', h2⟩
  · rename_i hwd
    simp only [hwd] at h
    exact h
theorem wpAny_cut2 {l : List Oper} {n m : Nat} {Q : Exit → Act → World → Prop} (hl : l.length = n + m) (hm : 0 < m) (hs : Region.sinkB md l.toArray n = true) (hc : waitsB md l.toArray n = true) (hB : headB md l n = true) :
    ∀ (f : Nat) (L0 L : Array Bool) (a : Act) (w : World), HeadInv md l.toArray n L → Side n m L0 L → wpAny P md (l.take n).toArray (tailPost2 P md l n Q) f L0 a w → wpAny P md l.toArray Q (f + m) L a w := by
  have base : ∀ (L0 L : Array Bool) (a : Act) (w : World), Side n m L0 L → Region.ready md (l.take n).toArray L0 = [] → tailPost2 P md l n Q .normal a w → wpAny P md l.toArray Q m L a w := fun L0 L a w hS hr h => by
    have e := hS.done (all_listed hB hS.s0 hr)
    subst e
    have hm2 : l.length - n = m := by omega
    simp only [tailPost2, hm2] at h
    exact h
  intro f
  induction f with
  | zero =>
    intro L0 L a w _ hS h
    rw [Nat.zero_add]
    exact base L0 L a w hS h.1 h.2
  | succ f ih =>
    intro L0 L a w inv hS h
    by_cases hr : Region.ready md (l.take n).toArray L0 = []
    · exact wpAny_adds (base L0 L a w hS hr (h.1 hr)) (f + 1)
    · obtain ⟨k, hk⟩ := List.exists_mem_of_ne_nil _ hr
      have hk1 := mem_ready.1 hk
      obtain ⟨o, ho, hall⟩ := hk1.2
      have hkn : k < n := by
        have := (Array.getElem?_eq_some_iff.1 ho).1
        simp at this
        omega
      have h1 := hS.s0; have h2 := hS.s
      have hun : L.getD k true = false := by
        have := hk1.1
        rw [getD_tf (by omega)] at this ⊢
        rw [hS.eq k hkn]; exact this
      rw [show f + 1 + m = (f + m) + 1 by omega]
      have hlt : ∀ i ∈ Region.ready md l.toArray L, i < n := fun i hi => Nat.lt_of_not_le fun hle => tail_waits2 hs hc (by simp; omega) inv _ k rfl hkn hun i hle hi
      have hready : k ∈ Region.ready md l.toArray L := by
        obtain ⟨o', ho', he, _⟩ := headB_spec hB hkn
        have e2 : o' = o := Option.some.inj (ho'.symm.trans (by rw [take_get hkn] at ho; simpa using ho))
        subst e2
        exact mem_ready.2 ⟨hun, o', by simpa using ho', fun e hm hb => (hS.eq e.on (Nat.lt_trans (he e hm hb) hkn)).trans (hall e hm hb)⟩
      refine ⟨fun h0 => (by rw [h0] at hready; cases hready), fun i hi => ?_⟩
      have hin := hlt i hi
      exact wpOp_head2 hB hin (h.2 i (ready_head hB hl hS hin hi)) |> wpOp_mono (fun a' w' h' => ih _ _ a' w' (inv.set hi hin) (hS.set hin) h')
/-- **The law.** -/
theorem wp_heldcut2 {id : Nat} {Q : Exit → Act → World → Prop} {S : World → Prop} {a : Act} {w : World} {l : List Oper} (n : Nat) (hm : P.follows .mixedOrders = true) (hB : cut2B .any l n = true) (hS : S w.drew)
    (h : S w.drew → wpAnyH P .any (l.take n).toArray (tailPost2 P .any l n Q) S n (Array.replicate n false) a w.drew) : (Code.region id l.toArray true).wp P Q a w := by
  simp only [cut2B, Bool.and_eq_true, decide_eq_true_eq] at hB
  obtain ⟨⟨⟨hn, hs⟩, hc⟩, hb⟩ := hB
  refine wp_region_any hm ?_
  have hl : l.length = n + (l.length - n) := by omega
  have R := wpAny_cut2 (P := P) (Q := Q) hl (by omega) hs hc hb n (Array.replicate n false) (Array.replicate l.toArray.size false) a w.drew
    ⟨by simp, fun j oj _ hl => (by rw [getD_replicate_false] at hl; cases hl), fun t _ ht => getD_in (by simpa using ht) (getD_replicate_false _ _)⟩
    ⟨by simp, by simp; omega, fun j _ => by rw [getD_replicate_false, getD_replicate_false], fun t _ _ => getD_replicate_false _ _⟩
    (wpAny_of_held _ _ _ _ (h hS))
  rw [show n + (l.length - n) = l.toArray.size by simp; omega] at R
  exact R
/-- The rest under a condition anew (or none). -/
theorem tail_held {l : List Oper} {n : Nat} {Q : Exit → Act → World → Prop} (S : World → Prop) (m : Nat) {a : Act} {w : World} (hm : l.length - n = m) (h : wpAnyH P md l.toArray Q S m (cutListed n m) a w) : tailPost2 P md l n Q .normal a w := by
  subst hm
  exact wpAny_of_held _ _ _ _ h
end
end Go.St
