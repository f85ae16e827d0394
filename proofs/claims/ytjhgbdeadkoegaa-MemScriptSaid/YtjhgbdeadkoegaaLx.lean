/- Plain law: a key's versions. -/
import Derived.Test.YtjhgbdeadkoegaaLu
namespace Go.Proofs.Ytjhgbdeadkoegaa
open Go.RowKit Go.St Go.Shelf Go.Maps
set_option linter.unusedVariables false
set_option linter.unusedSimpArgs false
set_option maxRecDepth 100000

theorem ltE_keyM {a b : Ent} (h : ltE a b = true) : klt a.key b.key = true ∨ (a.key = b.key ∧ b.seq < a.seq) := by
  unfold ltE at h
  simpa using h
theorem ltE_nk {a b : Ent} (h : ltE a b = true) : klt b.key a.key = false := by
  rcases ltE_keyM h with h1 | ⟨h1, _⟩
  · exact klt_asym h1
  · rw [h1]; exact klt_irr _
theorem vis_mem1 (fr to_ : ByteArray) (s : Int) : ∀ (last : Option ByteArray) (l : List Ent) (x : Ent), x ∈ visA fr to_ s last l → x ∈ l ∧ inS fr to_ x.key = true ∧ x.seq ≤ s
  | _, [], _, h => by simp [visA] at h
  | last, e :: r, x, h => by
    rw [visA] at h
    split at h
    · rename_i hc
      rcases List.mem_cons.1 h with h1 | h1
      · rw [h1]; exact ⟨List.mem_cons_self .., hc.1, hc.2.1⟩
      · obtain ⟨h2, h3⟩ := vis_mem1 fr to_ s _ r x h1
        exact ⟨List.mem_cons_of_mem _ h2, h3⟩
    · obtain ⟨h2, h3⟩ := vis_mem1 fr to_ s _ r x h
      exact ⟨List.mem_cons_of_mem _ h2, h3⟩
theorem vis_asc (fr to_ : ByteArray) (s : Int) : ∀ (l : List Ent) (last : Option ByteArray), l.Pairwise (fun x y => ltE x y = true) → (∀ k, last = some k → ∀ y ∈ l, klt y.key k = false) →
    (visA fr to_ s last l).Pairwise (fun a b => klt a.key b.key = true) ∧ ∀ k, last = some k → ∀ x ∈ visA fr to_ s last l, klt k x.key = true
  | [], _, _, _ => by simp [visA]
  | e :: r, last, hp, hl => by
    rw [List.pairwise_cons] at hp
    rw [visA]
    split
    · rename_i hc
      obtain ⟨h1, h2⟩ := vis_asc fr to_ s r (some e.key) hp.2 (fun k hk y hy => by injection hk with hk; rw [← hk]; exact ltE_nk (hp.1 y hy))
      refine ⟨?_, fun k hk x hx => ?_⟩
      · rw [List.pairwise_cons]
        exact ⟨fun x hx => h2 e.key rfl x hx, h1⟩
      · have hke : klt k e.key = true := by
          cases h3 : klt k e.key
          · have := klt_tri h3 (hl k hk e (List.mem_cons_self ..))
            exact absurd (by rw [hk, this]) hc.2.2
          · rfl
        rcases List.mem_cons.1 hx with h4 | h4
        · rw [h4]; exact hke
        · exact klt_tr hke (h2 e.key rfl x h4)
    · exact vis_asc fr to_ s r last hp.2 (fun k hk y hy => hl k hk y (List.mem_cons_of_mem _ hy))
theorem vis_has (fr to_ : ByteArray) (s : Int) : ∀ (l : List Ent) (last : Option ByteArray), l.Pairwise (fun x y => ltE x y = true) → ∀ x ∈ l, inS fr to_ x.key = true → x.seq ≤ s → last ≠ some x.key → ∃ y ∈ visA fr to_ s last l, y.key = x.key ∧ x.seq ≤ y.seq
  | [], _, _, _, h, _, _, _ => by cases h
  | e :: r, last, hp, x, hx, h1, h2, h3 => by
    rw [List.pairwise_cons] at hp
    rw [visA]
    rcases List.mem_cons.1 hx with h4 | h4
    · rw [← h4, if_pos ⟨h1, h2, h3⟩]
      exact ⟨x, List.mem_cons_self .., rfl, Int.le_refl _⟩
    · split
      · rename_i hc
        by_cases hk : e.key = x.key
        · refine ⟨e, List.mem_cons_self .., hk, ?_⟩
          rcases ltE_keyM (hp.1 x h4) with h5 | ⟨_, h5⟩
          · rw [hk, klt_irr] at h5; cases h5
          · omega
        · obtain ⟨y, hy, h5⟩ := vis_has fr to_ s r (some e.key) hp.2 x h4 h1 h2 (fun h => hk (by injection h))
          exact ⟨y, List.mem_cons_of_mem _ hy, h5⟩
      · exact vis_has fr to_ s r last hp.2 x h4 h1 h2 h3
/-- What a greater Seq tells of a key is no older. -/
theorem vis_more {fr to_ : ByteArray} {s s' : Int} {E : List Ent} (hp : E.Pairwise (fun x y => ltE x y = true)) (hs : s ≤ s') : ∀ x ∈ visE fr to_ s E, x.seq ≤ s ∧ ∃ y ∈ visE fr to_ s' E, y.key = x.key ∧ x.seq ≤ y.seq := fun x hx => by
  obtain ⟨h1, h2, h3⟩ := vis_mem1 fr to_ s none E x hx
  exact ⟨h3, vis_has fr to_ s' E none hp x h1 h2 (by omega) (by simp)⟩
theorem vis_ascE {fr to_ : ByteArray} {s : Int} {E : List Ent} (hp : E.Pairwise (fun x y => ltE x y = true)) : (visE fr to_ s E).Pairwise (fun a b => klt a.key b.key = true) := (vis_asc fr to_ s E none hp (fun k hk => by cases hk)).1
/-- The best of a key up to a Seq. -/
def Bst (key : ByteArray) (seq : Int) (E : List Ent) (b : Int) : Prop :=
  (b = 0 ∧ ∀ x ∈ E, ¬ (x.key = key ∧ x.seq ≤ seq)) ∨ (1 ≤ b ∧ ∃ x ∈ E, x.key = key ∧ x.seq ≤ seq ∧ x.seq = b ∧ ∀ y ∈ E, y.key = key → y.seq ≤ seq → y.seq ≤ b)
theorem addL_memE {hs : List Int} {x : Ent} {L : List Ld} (hc : addC x L = 0) (e : Ent) : e ∈ (addL hs x L).map Prod.fst ↔ e ∈ L.map Prod.fst ∨ e = x := by
  rw [addL_0 hc]
  conv => rhs; rw [aPQ x L]
  simp only [List.map_append, List.map_cons, List.mem_append, List.mem_cons]
  constructor
  · rintro (h | h | h)
    · exact .inl (.inl h)
    · exact .inr h
    · exact .inl (.inr h)
  · rintro ((h | h) | h)
    · exact .inl h
    · exact .inr (.inr h)
    · exact .inr (.inl h)
theorem addL_n0 {hs : List Int} {x : Ent} {L : List Ld} (hc : addC x L ≠ 0) : addL hs x L = L := by
  unfold addL
  rw [if_neg (fun h => hc (by unfold addC; rw [if_pos h.1, if_neg (by rw [h.2]; decide)]))]
theorem bst_skip {key : ByteArray} {seq b : Int} {hs : List Int} {x : Ent} {L : List Ld} (h : Bst key seq (L.map Prod.fst) b) (hc : addC x L = 0) (hn : ¬ (x.key = key ∧ x.seq ≤ seq)) : Bst key seq ((addL hs x L).map Prod.fst) b := by
  rcases h with ⟨h1, h2⟩ | ⟨h1, y, hy, hk, hq, hb, hm⟩
  · refine .inl ⟨h1, fun e he => ?_⟩
    rcases (addL_memE hc e).1 he with h3 | h3
    · exact h2 e h3
    · rw [h3]; exact hn
  · refine .inr ⟨h1, y, (addL_memE hc y).2 (.inl hy), hk, hq, hb, fun e he k1 k2 => ?_⟩
    rcases (addL_memE hc e).1 he with h3 | h3
    · exact hm e h3 k1 k2
    · rw [h3] at k1 k2; exact absurd ⟨k1, k2⟩ hn
theorem bst_take {key : ByteArray} {seq b : Int} {hs : List Int} {x : Ent} {L : List Ld} (h : Bst key seq (L.map Prod.fst) b) (hc : addC x L = 0) (h1 : x.key = key) (h2 : x.seq ≤ seq) : Bst key seq ((addL hs x L).map Prod.fst) (max b x.seq) := by
  have hx1 : 1 ≤ x.seq := by
    have := (addC_0 hc).1
    unfold okE at this
    simp only [Bool.and_eq_true, decide_eq_true_eq] at this
    exact this.1.1.1.1
  rcases h with ⟨h3, h4⟩ | ⟨h3, y, hy, hk, hq, hb, hm⟩
  · refine .inr ⟨by omega, x, (addL_memE hc x).2 (.inr rfl), h1, h2, by omega, fun e he k1 k2 => ?_⟩
    rcases (addL_memE hc e).1 he with h5 | h5
    · exact absurd ⟨k1, k2⟩ (h4 e h5)
    · rw [h5]; omega
  · rcases Int.le_total x.seq b with h6 | h6
    · refine .inr ⟨by omega, y, (addL_memE hc y).2 (.inl hy), hk, hq, by omega, fun e he k1 k2 => ?_⟩
      rcases (addL_memE hc e).1 he with h5 | h5
      · have := hm e h5 k1 k2; omega
      · rw [h5]; omega
    · refine .inr ⟨by omega, x, (addL_memE hc x).2 (.inr rfl), h1, h2, by omega, fun e he k1 k2 => ?_⟩
      rcases (addL_memE hc e).1 he with h5 | h5
      · have := hm e h5 k1 k2; omega
      · rw [h5]; omega
theorem find_best {key : ByteArray} {seq b : Int} {E : List Ent} (hp : E.Pairwise (fun x y => ltE x y = true)) (h : Bst key seq E b) : (isE E key seq = false ∧ b = 0) ∨ (isE E key seq = true ∧ 1 ≤ b ∧ (fndE E key seq).seq = b ∧ (fndE E key seq).key = key) := by
  unfold isE fndE findE
  cases hf : E.find? (visF key seq) with
  | none =>
    rw [List.find?_eq_none] at hf
    left
    refine ⟨rfl, ?_⟩
    rcases h with ⟨h1, _⟩ | ⟨_, x, hx, hk, hq, _⟩
    · exact h1
    · exact absurd (by unfold visF; simp [hk, hq]) (hf x hx)
  | some z =>
    obtain ⟨hz, as1, bs, hE, has⟩ := List.find?_eq_some_iff_append.1 hf
    have hz' : z.key = key ∧ z.seq ≤ seq := by unfold visF at hz; simpa using hz
    right
    rcases h with ⟨_, h2⟩ | ⟨h1, x, hx, hk, hq, hb, hm⟩
    · exact absurd hz' (h2 z (by rw [hE]; simp))
    · have hzb := hm z (by rw [hE]; simp) hz'.1 hz'.2
      have hxz : x.seq ≤ z.seq := by
        rw [hE] at hx hp
        rcases List.mem_append.1 hx with h3 | h3
        · have := has x h3
          unfold visF at this
          simp [hk, hq] at this
        · rcases List.mem_cons.1 h3 with h4 | h4
          · rw [h4]; exact Int.le_refl _
          · rw [List.pairwise_append, List.pairwise_cons] at hp
            rcases ltE_keyM (hp.2.1.1 x h4) with h5 | ⟨_, h5⟩
            · rw [hz'.1, hk, klt_irr] at h5; cases h5
            · omega
      exact ⟨rfl, h1, by show z.seq = b; omega, hz'.1⟩
end Go.Proofs.Ytjhgbdeadkoegaa
