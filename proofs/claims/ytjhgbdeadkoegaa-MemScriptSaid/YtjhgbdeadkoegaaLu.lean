/- Plain law: entries one behind the other, in whatever order. -/
import Derived.Test.YtjhgbdeadkoegaaLr
namespace Go.Proofs.Ytjhgbdeadkoegaa
open Go.RowKit Go.St Go.Shelf Go.Maps
set_option linter.unusedVariables false
set_option linter.unusedSimpArgs false
set_option maxRecDepth 100000

theorem adds_ord (hs : List Int) : ∀ (l : List Ent) (L : List Ld), ordL L → ordL (l.foldl (fun L e => addL hs e L) L)
  | [], _, h => h
  | e :: r, L, h => adds_ord hs r _ (addL_ord h)
theorem adds_ordL (hs : List Int) (l : List Ent) : ordL (adds hs l) := adds_ord hs l [] List.Pairwise.nil
theorem addC_0 {e : Ent} {L : List Ld} (h : addC e L = 0) : okE e = true ∧ thL e L = false := by
  unfold addC at h
  cases h1 : okE e
  · rw [h1, if_neg (by decide)] at h; exact absurd h (by decide)
  · cases h2 : thL e L
    · exact ⟨rfl, rfl⟩
    · rw [h1, h2, if_pos rfl, if_pos rfl] at h; exact absurd h (by decide)
theorem addL_0 {hs : List Int} {e : Ent} {L : List Ld} (h : addC e L = 0) : addL hs e L = aP e L ++ (e, towN hs L.length) :: aQ e L := by
  unfold addL
  rw [if_pos (addC_0 h)]
theorem addC_cases (e : Ent) (L : List Ld) : addC e L = 0 ∨ addC e L = 2 ∨ addC e L = 9 := by
  unfold addC
  split
  · split <;> simp
  · simp
/-- Each was taken. -/
def Took (hs : List Int) (l : List Ent) (i : Nat) : Prop := ∀ (j : Nat) (x : Ent), j < i → l[j]? = some x → addC x (adds hs (l.take j)) = 0
theorem took_props {hs : List Int} {l : List Ent} : ∀ {i : Nat}, i ≤ l.length → Took hs l i → (adds hs (l.take i)).length = i ∧ (∀ z ∈ adds hs (l.take i), ∃ j, j < i ∧ l[j]? = some z.1) ∧ (∀ (j : Nat) (x : Ent), j < i → l[j]? = some x → ∃ t, (x, t) ∈ adds hs (l.take i))
  | 0, _, _ => ⟨rfl, fun z hz => (by cases hz), fun j x hj => by omega⟩
  | i + 1, hi, ht => by
    obtain ⟨h1, h2, h3⟩ := took_props (i := i) (by omega) (fun j x hj hx => ht j x (by omega) hx)
    obtain ⟨x, hx⟩ : ∃ x, l[i]? = some x := ⟨_, List.getElem?_eq_getElem (by omega)⟩
    have hc := ht i x (by omega) hx
    rw [adds_succ hx, addL_0 hc]
    have hl := congrArg List.length (aPQ x (adds hs (l.take i)))
    rw [List.length_append, h1] at hl
    refine ⟨?_, fun z hz => ?_, fun j y hj hy => ?_⟩
    · rw [List.length_append, List.length_cons]; omega
    · rcases List.mem_append.1 hz with h | h
      · obtain ⟨j, hj, e⟩ := h2 z (by rw [aPQ x (adds hs (l.take i))]; exact List.mem_append_left _ h)
        exact ⟨j, by omega, e⟩
      · rcases List.mem_cons.1 h with h | h
        · exact ⟨i, by omega, by rw [h]; exact hx⟩
        · obtain ⟨j, hj, e⟩ := h2 z (by rw [aPQ x (adds hs (l.take i))]; exact List.mem_append_right _ h)
          exact ⟨j, by omega, e⟩
    · rcases Nat.lt_or_ge j i with h | h
      · obtain ⟨t, h4⟩ := h3 j y h hy
        rw [aPQ x (adds hs (l.take i))] at h4
        rcases List.mem_append.1 h4 with h5 | h5
        · exact ⟨t, List.mem_append_left _ h5⟩
        · exact ⟨t, List.mem_append_right _ (List.mem_cons_of_mem _ h5)⟩
      · have e : j = i := by omega
        subst e
        rw [hx] at hy
        injection hy with hy
        rw [← hy]
        exact ⟨_, List.mem_append_right _ (List.mem_cons_self ..)⟩
def Dist (l : List Ent) : Prop := ∀ (i j : Nat) (x y : Ent), i < j → l[i]? = some x → l[j]? = some y → ¬ (x.key = y.key ∧ x.seq = y.seq)
theorem took_dist {hs : List Int} {l : List Ent} (ht : Took hs l l.length) : Dist l := by
  intro i j x y hij hx hy hk
  have hj := (List.getElem?_eq_some_iff.1 hy).1
  have hc := (addC_0 (ht j y hj hy)).2
  obtain ⟨_, _, h3⟩ := took_props (i := j) (by omega) (fun q z hq hz => ht q z (by omega) hz)
  obtain ⟨t, h4⟩ := h3 i x hij hx
  rw [(thL_iff (adds_ordL hs (l.take j))).2 ⟨_, h4, hk⟩] at hc
  cases hc
theorem took_ok {hs : List Int} {l : List Ent} (ht : Took hs l l.length) : ∀ x ∈ l, okE x = true := fun x hx => by
  obtain ⟨j, hj⟩ := List.mem_iff_getElem?.1 hx
  exact (addC_0 (ht j x (List.getElem?_eq_some_iff.1 hj).1 hj)).1
/-- What differs, and may be, is taken. -/
theorem took_of {hs : List Int} {l : List Ent} (hd : Dist l) (hok : ∀ x ∈ l, okE x = true) : ∀ i, i ≤ l.length → Took hs l i
  | 0, _ => fun j x hj => by omega
  | i + 1, hi => by
    have ih := took_of (hs := hs) hd hok i (by omega)
    intro j x hj hx
    rcases Nat.lt_or_ge j i with h | h
    · exact ih j x h hx
    · have e : j = i := by omega
      subst e
      obtain ⟨_, h2, _⟩ := took_props (i := j) (by omega) ih
      unfold addC
      rw [if_pos (hok x (List.mem_of_getElem? hx)), if_neg (fun h3 => ?_)]
      obtain ⟨z, hz, hk⟩ := (thL_iff (adds_ordL hs (l.take j))).1 h3
      obtain ⟨q, hq, hz2⟩ := h2 z hz
      exact hd q j z.1 x hq hz2 hx hk
theorem sorted_eq : ∀ (a b : List Ent), a.Pairwise (fun x y => ltE x y = true) → b.Pairwise (fun x y => ltE x y = true) → (∀ x, x ∈ a ↔ x ∈ b) → a = b
  | [], [], _, _, _ => rfl
  | [], y :: b, _, _, h => absurd ((h y).2 (List.mem_cons_self ..)) (by simp)
  | x :: a, [], _, _, h => absurd ((h x).1 (List.mem_cons_self ..)) (by simp)
  | x :: a, y :: b, ha, hb, h => by
    rw [List.pairwise_cons] at ha hb
    have e : x = y := by
      rcases List.mem_cons.1 ((h x).1 (List.mem_cons_self ..)) with h1 | h1
      · exact h1
      · rcases List.mem_cons.1 ((h y).2 (List.mem_cons_self ..)) with h2 | h2
        · exact h2.symm
        · have h3 := ltE_asym (hb.1 x h1)
          rw [ha.1 y h2] at h3
          cases h3
    subst e
    rw [sorted_eq a b ha.2 hb.2 (fun z => ⟨fun hz => ?_, fun hz => ?_⟩)]
    · rcases List.mem_cons.1 ((h z).1 (List.mem_cons_of_mem _ hz)) with h1 | h1
      · rw [h1] at hz
        have := ha.1 x hz
        rw [ltE_irr] at this
        cases this
      · exact h1
    · rcases List.mem_cons.1 ((h z).2 (List.mem_cons_of_mem _ hz)) with h1 | h1
      · rw [h1] at hz
        have := hb.1 x hz
        rw [ltE_irr] at this
        cases this
      · exact h1
theorem took_mem {hs : List Int} {l : List Ent} (ht : Took hs l l.length) (x : Ent) : x ∈ (adds hs l).map Prod.fst ↔ x ∈ l := by
  obtain ⟨_, h2, h3⟩ := took_props (Nat.le_refl _) ht
  rw [List.take_length] at h2 h3
  constructor
  · intro h
    obtain ⟨z, hz, rfl⟩ := List.mem_map.1 h
    obtain ⟨j, _, hj⟩ := h2 z hz
    exact List.mem_of_getElem? hj
  · intro h
    obtain ⟨j, hj⟩ := List.mem_iff_getElem?.1 h
    obtain ⟨t, ht⟩ := h3 j x (List.getElem?_eq_some_iff.1 hj).1 hj
    exact List.mem_map.2 ⟨_, ht, rfl⟩
theorem adds_pw (hs : List Int) (l : List Ent) : ((adds hs l).map Prod.fst).Pairwise (fun x y => ltE x y = true) := by
  rw [List.pairwise_map]
  exact adds_ordL hs l
/-- The same entries, taken in any order, stand alike. -/
theorem took_same {hs hs' : List Int} {l l' : List Ent} (h : Took hs l l.length) (h' : Took hs' l' l'.length) (hm : ∀ x, x ∈ l ↔ x ∈ l') : (adds hs l).map Prod.fst = (adds hs' l').map Prod.fst :=
  sorted_eq _ _ (adds_pw hs l) (adds_pw hs' l') (fun x => by rw [took_mem h, took_mem h', hm])
theorem rot_ix {f i n : Nat} (hf : f < n) (hi : i < n) : (f + i) % n = if f + i < n then f + i else f + i - n := by
  split
  · rename_i h; exact Nat.mod_eq_of_lt h
  · rename_i h
    rw [Nat.mod_eq_sub_mod (by omega)]
    exact Nat.mod_eq_of_lt (by omega)
/-- A list gone through from some place on. -/
def rotL (f : Nat) (l : List Ent) : List Ent := (List.range l.length).map (fun i => l.getD ((f + i) % l.length) Ent.z)
theorem rotL_len (f : Nat) (l : List Ent) : (rotL f l).length = l.length := by simp [rotL]
theorem rotL_get {f i : Nat} {l : List Ent} (hi : i < l.length) : (rotL f l)[i]? = l[(f + i) % l.length]? := by
  have h1 : (f + i) % l.length < l.length := Nat.mod_lt _ (by omega)
  unfold rotL
  rw [List.getElem?_map, List.getElem?_range hi, Option.map_some, List.getD_eq_getElem?_getD, List.getElem?_eq_getElem h1]
  rfl
theorem rotL_mem {f : Nat} {l : List Ent} (hf : f < l.length) (x : Ent) : x ∈ l ↔ x ∈ rotL f l := by
  constructor
  · intro h
    obtain ⟨j, hj⟩ := List.mem_iff_getElem?.1 h
    have hjl := (List.getElem?_eq_some_iff.1 hj).1
    refine List.mem_of_getElem? (i := if f ≤ j then j - f else j + l.length - f) ?_
    have hi : (if f ≤ j then j - f else j + l.length - f) < l.length := by split <;> omega
    rw [rotL_get hi, rot_ix hf hi]
    have e : (if f + (if f ≤ j then j - f else j + l.length - f) < l.length then f + (if f ≤ j then j - f else j + l.length - f) else f + (if f ≤ j then j - f else j + l.length - f) - l.length) = j := by
      by_cases h1 : f ≤ j
      · rw [if_pos h1, if_pos (by omega)]; omega
      · rw [if_neg h1, if_neg (by omega)]; omega
    rw [e]
    exact hj
  · intro h
    obtain ⟨j, hj⟩ := List.mem_iff_getElem?.1 h
    have hjl := (List.getElem?_eq_some_iff.1 hj).1
    rw [rotL_len] at hjl
    rw [rotL_get hjl] at hj
    exact List.mem_of_getElem? hj
theorem rotL_dist {f : Nat} {l : List Ent} (hf : f < l.length) (hd : Dist l) : Dist (rotL f l) := by
  intro i j x y hij hx hy hk
  have hj := (List.getElem?_eq_some_iff.1 hy).1
  rw [rotL_len] at hj
  rw [rotL_get (by omega), rot_ix hf (by omega)] at hx
  rw [rotL_get hj, rot_ix hf hj] at hy
  have hne : (if f + i < l.length then f + i else f + i - l.length) ≠ (if f + j < l.length then f + j else f + j - l.length) := by split <;> split <;> omega
  rcases Nat.lt_or_gt_of_ne hne with h | h
  · exact hd _ _ x y h hx hy hk
  · exact hd _ _ y x h hy hx ⟨hk.1.symm, hk.2.symm⟩
end Go.Proofs.Ytjhgbdeadkoegaa
