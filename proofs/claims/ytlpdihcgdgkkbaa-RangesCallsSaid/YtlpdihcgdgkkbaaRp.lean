/- Plain law: each key is in just one range; the parts of a span. -/
import Derived.Test.YtlpdihcgdgkkbaaRj
namespace Go.Proofs.Ytlpdihcgdgkkbaa
open Go.RowKit Go.St
set_option linter.unusedVariables false
set_option linter.unusedSimpArgs false
set_option linter.unusedSectionVars false

theorem takeWhile_get {α} (p : α → Bool) (d : α) : ∀ (l : List α) (n : Nat), n < (l.takeWhile p).length → p (l.getD n d) = true
  | [], n, h => by simp at h
  | x :: l, n, h => by
    rw [List.takeWhile_cons] at h
    cases hx : p x
    · rw [hx] at h; simp at h
    · rw [hx] at h
      simp only [if_true, List.length_cons] at h
      cases n with
      | zero => simpa using hx
      | succ n => have := takeWhile_get p d l n (by omega); simpa using this

section
variable {l : List ByteArray} (hc : chk21 l = 0)
include hc
theorem chk_full {i : Nat} (hi : i < l.length) : l.getD i zE ≠ zE := by
  intro e
  have : hasT l zE = true := hasT_iff.2 ⟨i, hi, e⟩
  unfold chk21 at hc
  rw [if_pos this] at hc
  split at hc <;> cases hc
theorem bsT_lt (k : ByteArray) {i : Nat} (hi : i < bsT l k) : klt (l.getD i zE) k = true := takeWhile_get (fun s => klt s k) zE l i hi
theorem bsT_le (k : ByteArray) : bsT l k ≤ l.length := List.Sublist.length_le (List.takeWhile_sublist _)
theorem bsT_ge (k : ByteArray) {i : Nat} (hi : bsT l k ≤ i) (hl : i < l.length) : klt (l.getD i zE) k = false := by
  have ho := chk_ord hc
  cases h : klt (l.getD i zE) k
  · rfl
  · -- all below i are below, so the count is above i
    have h2 := below_all ho hl h
    have h3 : i + 1 ≤ bsT l k := by
      clear hi ho hc
      unfold bsT
      have hl' : i + 1 ≤ l.length := hl
      clear hl h
      generalize i + 1 = n at *
      clear i
      induction l generalizing n with
      | nil => simpa using hl'
      | cons x l ih =>
        cases n with
        | zero => omega
        | succ n =>
          have h0 := h2 0 (by omega)
          simp only [List.getD_cons_zero] at h0
          rw [List.takeWhile_cons, h0]
          simp only [if_true, List.length_cons]
          have := ih n (fun i hi => by have := h2 (i + 1) (by omega); simpa using this) (by simpa using hl')
          omega
    omega
theorem ofT_le (k : ByteArray) : ofT l k ≤ l.length := by
  unfold ofT
  have hb := bsT_le hc k
  split
  · rename_i h
    obtain ⟨i, hi, e⟩ := hasT_iff.1 h
    by_cases hh : bsT l k < l.length
    · omega
    · have := bsT_lt hc k (i := i) (by omega)
      rw [e, klt_irrefl] at this; cases this
  · omega
/-- What stands ahead of a key's place is not above it; what stands behind is. -/
theorem ofT_not (k : ByteArray) {i : Nat} (hi : i < ofT l k) : klt k (l.getD i zE) = false := by
  have ho := chk_ord hc
  unfold ofT at hi
  by_cases h : i < bsT l k
  · exact klt_asymm (bsT_lt hc k h)
  · split at hi
    · rename_i hh
      obtain rfl : i = bsT l k := by omega
      obtain ⟨j, hj, e⟩ := hasT_iff.1 hh
      have hj1 : ¬ j < bsT l k := fun hj' => by have := bsT_lt hc k hj'; rw [e, klt_irrefl] at this; cases this
      by_cases hj2 : j = bsT l k
      · rw [← hj2, e]; exact klt_irrefl _
      · have h1 := bsT_ge hc k (Nat.le_refl _) (by omega)
        have h2 := ordT_lt ho (i := bsT l k) (j := j) (by omega) hj
        rw [e] at h2; rw [h1] at h2; cases h2
    · omega
theorem ofT_above (k : ByteArray) {i : Nat} (hi : ofT l k ≤ i) (hl : i < l.length) : klt k (l.getD i zE) = true := by
  have ho := chk_ord hc
  unfold ofT at hi
  have h1 := bsT_ge hc k (i := i) (by omega) hl
  cases h : klt k (l.getD i zE)
  · have e := klt_total h h1
    have hh : hasT l k = true := hasT_iff.2 ⟨i, hl, e.symm⟩
    rw [hh] at hi
    simp only [if_true] at hi
    have h2 := ordT_lt ho (i := bsT l k) (j := i) (by omega) hl
    rw [← e] at h2
    rw [bsT_ge hc k (Nat.le_refl _) (by omega)] at h2; cases h2
  · rfl
theorem ofR_eq (k : ByteArray) : ofR l k = ofT l k := by unfold ofR; rw [if_pos hc]
theorem frT_zero : frT l 0 = zE := rfl
theorem frT_succ (i : Nat) : frT l (i + 1) = l.getD i zE := by unfold frT; simp
theorem toT_len : toT l l.length = zE := by unfold toT; simp [List.getD]
theorem le_frT (k : ByteArray) {i : Nat} (hi : i ≤ l.length) : klt k (frT l i) = !decide (i ≤ ofT l k) := by
  cases i with
  | zero => rw [frT_zero hc, klt_zE]; simp
  | succ i =>
    rw [frT_succ hc]
    by_cases h : i < ofT l k
    · rw [ofT_not hc k h]; simp; omega
    · rw [ofT_above hc k (by omega) (by omega)]; simp; omega
theorem lt_toT (k : ByteArray) {i : Nat} (hi : i ≤ l.length) : ltEnd k (toT l i) = decide (ofT l k ≤ i) := by
  unfold ltEnd
  by_cases h : i = l.length
  · subst h
    rw [toT_len hc, zE_list]
    have := ofT_le hc k
    simp [this]
  · have hl : i < l.length := by omega
    have hn : (toT l i).toList.isEmpty = false := by
      cases e : (toT l i).toList.isEmpty
      · rfl
      · exact absurd ((isE_iff _).1 e) (chk_full hc hl)
    rw [hn, Bool.false_or]
    by_cases h2 : i < ofT l k
    · unfold toT; rw [ofT_not hc k h2]; simp; omega
    · unfold toT; rw [ofT_above hc k (by omega) hl]; simp; omega
/-- Each key is in just one range. -/
theorem has_range (k : ByteArray) {i : Nat} (hi : i ≤ l.length) : sHas (frT l i) (toT l i) k = decide (i = ofT l k) := by
  have h := lt_toT hc k hi
  unfold ltEnd at h
  unfold sHas
  rw [h, le_frT hc k hi, Bool.not_not, ← Bool.decide_and]
  congr 1
  apply propext
  omega

/-- Where the parts of a span begin and end. -/
def paA (l : List ByteArray) (f : ByteArray) : Nat := ofT l f
def paB (l : List ByteArray) (t : ByteArray) : Nat := if t.toList.isEmpty then l.length else bsT l t
def paP (l : List ByteArray) (f t : ByteArray) (i : Nat) : ByteArray × ByteArray := (if i ≤ paA l f then f else frT l i, if i < paB l t then toT l i else t)
theorem paB_le (t : ByteArray) : paB l t ≤ l.length := by
  unfold paB; split
  · exact Nat.le_refl _
  · exact bsT_le hc t
theorem toT_full {i : Nat} (hi : i < l.length) : (toT l i).toList.isEmpty = false := by
  cases e : (toT l i).toList.isEmpty
  · rfl
  · exact absurd ((isE_iff _).1 e) (chk_full hc hi)
theorem paA_le_paB {f t : ByteArray} (he : sEmp f t = false) : paA l f ≤ paB l t := by
  unfold paA paB
  split
  · exact ofT_le hc f
  · rename_i h
    refine Classical.byContradiction fun hn => ?_
    have hl := ofT_le hc f
    have h1 := ofT_not hc f (i := bsT l t) (by omega)
    have h2 := bsT_ge hc t (i := bsT l t) (Nat.le_refl _) (by omega)
    have h3 : klt t f = false ∧ t.toList ≠ f.toList := by
      unfold sEmp at he
      cases h4 : t.toList.isEmpty
      · rw [h4] at he; simpa using he
      · exact absurd h4 h
    cases h4 : klt f t
    · exact h3.2 (by rw [klt_total h3.1 h4])
    · have := klt_of_lt_le h4 h2
      rw [h1] at this; cases this
theorem paF (f : ByteArray) {i : Nat} (hi : i ≤ l.length) : kmax (frT l i) f = if i ≤ paA l f then f else frT l i := by
  have h := le_frT hc f hi
  unfold kmax paA
  by_cases h1 : i ≤ ofT l f
  · rw [if_pos h1]
    cases h2 : klt (frT l i) f
    · have h3 : klt f (frT l i) = false := by rw [h]; simp [h1]
      simp [klt_total h2 h3]
    · simp
  · rw [if_neg h1]
    have h3 : klt f (frT l i) = true := by rw [h]; simp [h1]
    rw [klt_asymm h3]; simp
theorem paT (t : ByteArray) {i : Nat} (hi : i ≤ l.length) : meetT (toT l i) t = if i < paB l t then toT l i else t := by
  unfold meetT paB
  by_cases hn : i = l.length
  · subst hn
    rw [toT_len hc, zE_list]
    simp only [List.isEmpty_nil, Bool.true_or, if_true]
    have := bsT_le hc t
    rw [if_neg (by split <;> omega)]
  · have hl : i < l.length := by omega
    rw [toT_full hc hl, Bool.false_or]
    cases ht : t.toList.isEmpty
    · simp only [Bool.not_false, Bool.true_and, Bool.false_eq_true, if_false]
      by_cases h : i < bsT l t
      · have h1 : klt (toT l i) t = true := bsT_lt hc t h
        rw [klt_asymm h1, if_pos h]; simp
      · have h1 : klt (toT l i) t = false := bsT_ge hc t (by omega) hl
        rw [if_neg h]
        cases h2 : klt t (toT l i)
        · simp [klt_total h1 h2]
        · simp
    · simp [hl]
theorem paE {f t : ByteArray} (he : sEmp f t = false) {i : Nat} (hi : i ≤ l.length) : meetE (frT l i) (toT l i) f t = !decide (paA l f ≤ i ∧ i ≤ paB l t) := by
  have ho := chk_ord hc
  have hab := paA_le_paB hc he
  have hbl := paB_le hc t
  unfold meetE
  rw [paF hc f hi, paT hc t hi]
  have hft : t.toList.isEmpty = true ∨ klt f t = true := by
    unfold sEmp at he
    cases h4 : t.toList.isEmpty
    · rw [h4] at he
      simp at he
      right
      cases h5 : klt f t
      · exact absurd (congrArg ByteArray.toList (klt_total he.1 h5)) he.2
      · rfl
    · exact .inl rfl
  have hne : ∀ {x y : ByteArray}, klt x y = true → sEmp x y = false := fun {x y} h => by
    have h1 := klt_asymm h
    have h2 : y.toList ≠ x.toList := fun e => by rw [toList_inj e, klt_irrefl] at h; cases h
    unfold sEmp; rw [h1]; simp [h2]
  have hyes : ∀ {x y : ByteArray}, y.toList.isEmpty = false → klt x y = false → sEmp x y = true := fun {x y} h h1 => by
    unfold sEmp; rw [h]
    cases h2 : klt y x
    · simp [klt_total h2 h1]
    · simp
  by_cases ha : paA l f ≤ i
  · by_cases hb : i ≤ paB l t
    · rw [decide_eq_true ⟨ha, hb⟩, Bool.not_true]
      by_cases h1 : i ≤ paA l f
      · obtain rfl : i = paA l f := by omega
        rw [if_pos h1]
        split
        · rename_i h2
          exact hne (ofT_above hc f (Nat.le_refl _) (by unfold paA at *; omega))
        · exact he
      · rw [if_neg h1]
        obtain ⟨j, rfl⟩ : ∃ j, i = j + 1 := ⟨i - 1, by omega⟩
        rw [frT_succ hc]
        split
        · exact hne (ordT_lt ho (i := j) (j := j + 1) (by omega) (by omega))
        · rename_i h2
          unfold sEmp
          cases ht : t.toList.isEmpty
          · have h3 : klt (l.getD j zE) t = true := bsT_lt hc t (by unfold paB at h2 hb; rw [ht] at h2 hb; simp at h2 hb; omega)
            have := hne h3
            unfold sEmp at this
            rw [ht] at this
            exact this
          · rfl
    · rw [decide_eq_false (fun h => hb h.2), Bool.not_false, if_neg (by omega)]
      rw [if_neg (by omega)]
      obtain ⟨j, rfl⟩ : ∃ j, i = j + 1 := ⟨i - 1, by omega⟩
      rw [frT_succ hc]
      have ht : t.toList.isEmpty = false := by
        cases ht : t.toList.isEmpty
        · rfl
        · unfold paB at hb; rw [ht] at hb; simp at hb; omega
      refine hyes ht (bsT_ge hc t ?_ (by omega))
      unfold paB at hb; rw [ht] at hb; simp at hb; omega
  · rw [decide_eq_false (fun h => ha h.1), Bool.not_false, if_pos (by omega)]
    have hi2 : i < ofT l f := by unfold paA at ha; omega
    have hil : i < l.length := by have := ofT_le hc f; omega
    have h1 := ofT_not hc f hi2
    split
    · exact hyes (toT_full hc hil) h1
    · rename_i h2
      omega
/-- The parts of a span, one by one. -/
theorem partR_eq {f t : ByteArray} (he : sEmp f t = false) {i : Nat} (hi : i ≤ l.length) : partR l f t i = if paA l f ≤ i ∧ i ≤ paB l t then [paP l f t i] else [] := by
  unfold partR paP
  rw [paE hc he hi, paF hc f hi, paT hc t hi]
  by_cases h : paA l f ≤ i ∧ i ≤ paB l t
  · rw [if_pos h, decide_eq_true h]; rfl
  · rw [if_neg h, decide_eq_false h]; rfl
theorem partsUp_eq {f t : ByteArray} (he : sEmp f t = false) : ∀ (j : Nat), j ≤ l.length + 1 → partsUp l f t j = (List.range' (paA l f) (min j (paB l t + 1) - paA l f)).map (paP l f t)
  | 0, _ => by simp [partsUp]
  | j + 1, h => by
    rw [partsUp_succ, partsUp_eq he j (by omega), partR_eq hc he (by omega)]
    by_cases h1 : paA l f ≤ j ∧ j ≤ paB l t
    · rw [if_pos h1, show min (j + 1) (paB l t + 1) - paA l f = (min j (paB l t + 1) - paA l f) + 1 by omega, List.range'_concat, List.map_append]
      congr 1
      simp
      congr 1
      omega
    · rw [if_neg h1, List.append_nil]
      congr 2
      omega
theorem partsN_eq {f t : ByteArray} (he : sEmp f t = false) : partsN l f t = (List.range' (paA l f) (paB l t + 1 - paA l f)).map (paP l f t) := by
  unfold partsN
  rw [if_pos ⟨hc, he⟩, partsUp_eq hc he _ (Nat.le_refl _)]
  congr 2
  have := paB_le hc t
  omega
theorem partsN_len {f t : ByteArray} (he : sEmp f t = false) : (partsN l f t).length = paB l t + 1 - paA l f := by
  rw [partsN_eq hc he]; simp
theorem partsN_get {f t : ByteArray} (he : sEmp f t = false) {i : Nat} (hi : i < (partsN l f t).length) : (partsN l f t)[i] = paP l f t (paA l f + i) := by
  have h := partsN_eq hc he
  have h2 : (partsN l f t)[i]? = ((List.range' (paA l f) (paB l t + 1 - paA l f)).map (paP l f t))[i]? := by rw [h]
  rw [List.getElem?_eq_getElem hi] at h2
  have hi' : i < paB l t + 1 - paA l f := by rw [← partsN_len hc he]; exact hi
  rw [List.getElem?_map, List.getElem?_range' hi'] at h2
  simp at h2
  rw [h2]
theorem partsN_emp {f t : ByteArray} (he : sEmp f t = true) : partsN l f t = [] := by
  unfold partsN; rw [if_neg (fun h => by rw [he] at h; cases h.2)]
/-- Each part begins in its own range. -/
theorem paP_of {f t : ByteArray} (he : sEmp f t = false) {i : Nat} (h1 : paA l f ≤ i) (h2 : i ≤ paB l t) : ofT l (paP l f t i).1 = i := by
  have hbl := paB_le hc t
  unfold paP
  by_cases h : i ≤ paA l f
  · obtain rfl : i = paA l f := by omega
    simp only [Nat.le_refl, if_true]; rfl
  · simp only [h, if_false]
    have h3 := has_range hc (frT l i) (i := i) (by omega)
    have h4 : sHas (frT l i) (toT l i) (frT l i) = true := by
      obtain ⟨j, rfl⟩ : ∃ j, i = j + 1 := ⟨i - 1, by omega⟩
      unfold sHas
      rw [klt_irrefl, frT_succ hc]
      by_cases h5 : j + 1 = l.length
      · rw [h5, toT_len hc, zE_list]; rfl
      · have : klt (l.getD j zE) (toT l (j + 1)) = true := ordT_lt (chk_ord hc) (i := j) (j := j + 1) (by omega) (by omega)
        rw [this]; simp
    rw [h4] at h3
    exact (of_decide_eq_true h3.symm).symm
theorem paP_meet {f t : ByteArray} {i : Nat} (hi : i ≤ l.length) : (kmax (frT l i) f, meetT (toT l i) t) = paP l f t i := by
  unfold paP; rw [paF hc f hi, paT hc t hi]
theorem paP_next {f t : ByteArray} {i : Nat} (h1 : paA l f ≤ i) (h2 : i + 1 ≤ paB l t) : (paP l f t i).2 = (paP l f t (i + 1)).1 := by
  show (if i < paB l t then toT l i else t) = (if i + 1 ≤ paA l f then f else frT l (i + 1))
  rw [if_pos (by omega), if_neg (by omega), frT_succ hc]; rfl
theorem paP_first {f t : ByteArray} : (paP l f t (paA l f)).1 = f := by unfold paP; simp
theorem paP_last {f t : ByteArray} : (paP l f t (paB l t)).2 = t := by unfold paP; simp
/-- A part has just the keys of its range that are in the span. -/
theorem paP_has {f t k : ByteArray} {i : Nat} (hi : i ≤ l.length) : sHas (paP l f t i).1 (paP l f t i).2 k = (decide (i = ofT l k) && sHas f t k) := by
  rw [← paP_meet hc hi, has_meet, has_range hc k hi]
/-- The range of a key of the span is one of its parts'. -/
theorem has_in {f t k : ByteArray} (he : sEmp f t = false) (h : sHas f t k = true) : paA l f ≤ ofT l k ∧ ofT l k ≤ paB l t := by
  have hk := ofT_le hc k
  have h1 := paP_has hc (f := f) (t := t) (k := k) hk
  rw [h, decide_eq_true rfl] at h1
  have h2 : meetE (frT l (ofT l k)) (toT l (ofT l k)) f t = false := by
    cases h3 : meetE (frT l (ofT l k)) (toT l (ofT l k)) f t
    · rfl
    · have h4 := meet_none h3 k
      rw [h, has_range hc k hk, decide_eq_true rfl] at h4
      cases h4
  rw [paE hc he hk] at h2
  simpa using h2
end
end Go.Proofs.Ytlpdihcgdgkkbaa
