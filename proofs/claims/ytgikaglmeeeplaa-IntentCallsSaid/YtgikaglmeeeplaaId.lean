/- Plain law: which keys have a value at a stamp, which cells no read sees, of cells in order. -/
import Derived.Test.YtgikaglmeeeplaaIb
namespace Go.Proofs.Ytgikaglmeeeplaa
open Go.RowKit Go.St
set_option linter.unusedVariables false
set_option linter.unusedSimpArgs false

theorem ltC_tr {a b c : Cel} (h : ltC a b = true) (k : ltC b c = true) : ltC a c = true := by
  unfold ltC at *
  rw [Bool.or_eq_true, Bool.and_eq_true, decide_eq_true_eq] at *
  rcases h with h | ⟨h1, h2⟩
  · rcases k with k | ⟨k1, k2⟩
    · exact .inl (klt_tr h k)
    · exact .inl (k1 ▸ h)
  · rcases k with k | ⟨k1, k2⟩
    · exact .inl (h1 ▸ k)
    · exact .inr ⟨h1.trans k1, less_trans k2 h2⟩
theorem risC_lt {l : List Cel} (h : risC l) : ∀ (d j : Nat) (a b : Cel), l[j]? = some a → l[j + d + 1]? = some b → ltC a b = true
  | 0, j, a, b, ha, hb => h j a b ha hb
  | d + 1, j, a, b, ha, hb => by
    have hlt := (List.getElem?_eq_some_iff.1 hb).1
    have hc : l[j + d + 1]? = some l[j + d + 1] := List.getElem?_eq_getElem (by omega)
    exact ltC_tr (risC_lt h d j a _ ha hc) (h _ _ _ hc hb)
theorem risC_le {l : List Cel} (h : risC l) {j k : Nat} {a b : Cel} (hjk : j < k) (ha : l[j]? = some a) (hb : l[k]? = some b) : ltC a b = true :=
  risC_lt h (k - j - 1) j a b ha (by rwa [show j + (k - j - 1) + 1 = k by omega])
theorem ltC_key {a b : Cel} (h : ltC a b = true) : klt a.key b.key = true ∨ a.key = b.key ∧ less b.at_ a.at_ = true := by
  unfold ltC at h
  rw [Bool.or_eq_true, Bool.and_eq_true, decide_eq_true_eq] at h
  exact h
theorem klt_ne {a b : ByteArray} (h : klt a b = true) : b ≠ a := fun e => by rw [e, klt_irr] at h; cases h
/-- Where the key turns, it turns for good. -/
theorem ris_turn {l : List Cel} (h : risC l) {j k : Nat} {a b : Cel} (hjk : j < k) (ha : l[j]? = some a) (hb : l[k]? = some b) (hne : b.key ≠ a.key) : ∀ m c, k ≤ m → l[m]? = some c → klt a.key c.key = true := fun m c hm hc => by
  have h1 : klt a.key b.key = true := by
    rcases ltC_key (risC_le h hjk ha hb) with q | q
    · exact q
    · exact absurd q.1.symm hne
  rcases Nat.lt_or_ge k m with q | q
  · rcases ltC_key (risC_le h q hb hc) with r | r
    · exact klt_tr h1 r
    · exact r.1 ▸ h1
  · have e : m = k := by omega
    subst e
    rw [hb] at hc
    injection hc with hc
    exact hc ▸ h1

theorem drop_at {α : Type} {l : List α} {i : Nat} {a : α} (h : l[i]? = some a) : l.drop i = a :: l.drop (i + 1) := by
  obtain ⟨hi, e⟩ := List.getElem?_eq_some_iff.1 h
  rw [List.drop_eq_getElem_cons hi, e]
theorem rowsA_yes {at_ : Stp} {k : ByteArray} {c : Cel} {r : List Cel} (h : c.key ≠ k ∧ le c.at_ at_ = true) : rowsA at_ k (c :: r) = (if c.del then [] else [(c.key, c.val)]) ++ rowsA at_ c.key r := by
  rw [rowsA, if_pos h]
theorem rowsA_no {at_ : Stp} {k : ByteArray} {c : Cel} {r : List Cel} (h : ¬ (c.key ≠ k ∧ le c.at_ at_ = true)) : rowsA at_ k (c :: r) = rowsA at_ k r := by
  rw [rowsA, if_neg h]
theorem goneA_yes {thr : Stp} {k : ByteArray} {c : Cel} {r : List Cel} (h : le c.at_ thr = true) : goneA thr k (c :: r) = (if c.key = k ∨ c.del = true then [c] else []) ++ goneA thr c.key r := by
  rw [goneA, if_pos h]
theorem goneA_no {thr : Stp} {k : ByteArray} {c : Cel} {r : List Cel} (h : ¬ le c.at_ thr = true) : goneA thr k (c :: r) = goneA thr k r := by
  rw [goneA, if_neg h]
theorem rowsA_skip {at_ : Stp} {κ : ByteArray} {l : List Cel} : ∀ (d i : Nat), i + d ≤ l.length → (∀ j c, i ≤ j → j < i + d → l[j]? = some c → c.key = κ ∨ le c.at_ at_ = false) → rowsA at_ κ (l.drop i) = rowsA at_ κ (l.drop (i + d))
  | 0, i, _, _ => rfl
  | d + 1, i, hd, h => by
    have hc : l[i]? = some l[i] := List.getElem?_eq_getElem (by omega)
    rw [drop_at hc]
    have h1 := h i _ (Nat.le_refl _) (by omega) hc
    rw [rowsA_no (fun e => by
      rcases h1 with q | q
      · exact e.1 q
      · rw [q] at e
        cases e.2), rowsA_skip d (i + 1) (by omega) (fun j c hj hjd hc => h j c (by omega) (by omega) hc), show i + 1 + d = i + (d + 1) by omega]
theorem rowsA_key {at_ : Stp} {k1 k2 : ByteArray} : ∀ {l : List Cel}, (∀ c ∈ l, c.key ≠ k1 ∧ c.key ≠ k2) → rowsA at_ k1 l = rowsA at_ k2 l
  | [], _ => rfl
  | c :: r, h => by
    have h1 := h c (by simp)
    by_cases q : le c.at_ at_ = true
    · rw [rowsA_yes ⟨h1.1, q⟩, rowsA_yes ⟨h1.2, q⟩]
    · rw [rowsA_no (fun e => q e.2), rowsA_no (fun e => q e.2)]
      exact rowsA_key (fun x hx => h x (List.mem_cons_of_mem _ hx))
/-- A key without a value at the stamp. -/
theorem rows_end1 {at_ : Stp} {l : List Cel} {i k i' : Nat} {κ : ByteArray} (hik : i ≤ k) (hk : k ≤ l.length) (hB : ∀ j c, i ≤ j → j < k → l[j]? = some c → c.key = κ ∧ le c.at_ at_ = false) (hE : ∀ c, l[k]? = some c → c.key ≠ κ)
    (hi' : i < i') (hn' : i' ≤ l.length) (hA : ∀ j c, i ≤ j → j < i' → l[j]? = some c → c.key = κ) (hE' : ∀ c, l[i']? = some c → c.key ≠ κ) : rowsA at_ zE (l.drop i) = rowsA at_ zE (l.drop i') := by
  have e : i' = k := by
    rcases Nat.lt_or_ge i' k with h | h
    · have hc : l[i']? = some l[i'] := List.getElem?_eq_getElem (by omega)
      exact absurd (hB i' _ (by omega) h hc).1 (hE' _ hc)
    · rcases Nat.lt_or_ge k i' with h2 | h2
      · have hc : l[k]? = some l[k] := List.getElem?_eq_getElem (by omega)
        exact absurd (hA k _ hik h2 hc) (hE _ hc)
      · omega
  subst e
  have := rowsA_skip (at_ := at_) (κ := zE) (l := l) (i' - i) i (by omega) (fun j c h1 h2 h3 => .inr (hB j c h1 (by omega) h3).2)
  rwa [show i + (i' - i) = i' by omega] at this
/-- A key with a value, or a mark that it is deleted. -/
theorem rows_end2 {at_ : Stp} {l : List Cel} (hs : risC l) (hz : ∀ c ∈ l, c.key ≠ zE) {i k i' : Nat} {κ : ByteArray} (hik : i ≤ k) (hB : ∀ j c, i ≤ j → j < k → l[j]? = some c → c.key = κ ∧ le c.at_ at_ = false) {x : Cel} (hx : l[k]? = some x) (hxk : x.key = κ) (hxa : le x.at_ at_ = true)
    (hi' : i < i') (hn' : i' ≤ l.length) (hA : ∀ j c, i ≤ j → j < i' → l[j]? = some c → c.key = κ) (hE' : ∀ c, l[i']? = some c → c.key ≠ κ) : rowsA at_ zE (l.drop i) = (if x.del then [] else [(x.key, x.val)]) ++ rowsA at_ zE (l.drop i') := by
  have hkl := (List.getElem?_eq_some_iff.1 hx).1
  have hki : k < i' := by
    rcases Nat.lt_or_ge k i' with h | h
    · exact h
    · rcases Nat.lt_or_ge i' k with h2 | h2
      · have hc : l[i']? = some l[i'] := List.getElem?_eq_getElem (by omega)
        exact absurd (hB i' _ (by omega) h2 hc).1 (hE' _ hc)
      · have e : i' = k := by omega
        subst e
        exact absurd hxk (hE' _ hx)
  have h1 := rowsA_skip (at_ := at_) (κ := zE) (l := l) (k - i) i (by omega) (fun j c h1 h2 h3 => .inr (hB j c h1 (by omega) h3).2)
  rw [show i + (k - i) = k by omega] at h1
  rw [h1, drop_at hx, rowsA_yes ⟨hz x (List.mem_of_getElem? hx), hxa⟩, hxk]
  have h2 := rowsA_skip (at_ := at_) (κ := κ) (l := l) (i' - (k + 1)) (k + 1) (by omega) (fun j c h1 h2 h3 => .inl (hA j c (by omega) (by omega) h3))
  rw [show k + 1 + (i' - (k + 1)) = i' by omega] at h2
  rw [h2]
  congr 1
  refine rowsA_key (fun c hc => ⟨?_, ?_⟩)
  · obtain ⟨m, hm, e⟩ := List.getElem_of_mem hc
    have hm2 : l[i' + m]? = some c := by
      rw [← e, ← List.getElem?_drop, List.getElem?_eq_getElem hm]
    have hlt : i' < l.length := by have := (List.getElem?_eq_some_iff.1 hm2).1; omega
    have hq : l[i']? = some l[i'] := List.getElem?_eq_getElem hlt
    have := ris_turn hs hki hx hq (by rw [hxk]; exact hE' _ hq) (i' + m) c (by omega) hm2
    rw [hxk] at this
    exact klt_ne this
  · exact hz c (List.mem_of_mem_drop hc)

/-- What stands in the walk of Gone: the key that was settled last, and whether that is the last cell's. -/
structure InvG (l : List Cel) (i : Nat) (K : ByteArray) (lat : Int) : Prop where
  bd : -1 ≤ lat ∧ lat < (i : Int)
  yes : 0 ≤ lat → ∃ a j, i = j + 1 ∧ l[j]? = some a ∧ K = a.key
  no : lat < 0 → ∀ a j, i = j + 1 → l[j]? = some a → K ≠ a.key
  old : K = zE ∨ ∃ j a, j < i ∧ l[j]? = some a ∧ K = a.key
theorem InvG.first (l : List Cel) : InvG l 0 zE (-1) := ⟨by omega, fun h => by omega, fun _ a j h => by omega, .inl rfl⟩
theorem InvG.turn {l : List Cel} (hs : risC l) (hz : ∀ c ∈ l, c.key ≠ zE) {i : Nat} {K : ByteArray} {lat : Int} {p c : Cel} (h : InvG l (i + 1) K lat) (hp : l[i]? = some p) (hc : l[i + 1]? = some c) (hne : p.key ≠ c.key) : K ≠ c.key := by
  rcases h.old with e | ⟨j, a, hj, ha, e⟩
  · rw [e]; exact fun q => hz c (List.mem_of_getElem? hc) q.symm
  · rw [e]
    rcases Nat.lt_or_ge j i with q | q
    · have h1 := ris_turn hs (Nat.lt_succ_self i) hp hc (Ne.symm hne) (i + 1) c (Nat.le_refl _) hc
      rcases ltC_key (risC_le hs q ha hp) with r | r
      · exact fun q2 => klt_ne (klt_tr r h1) q2.symm
      · rw [r.1]; exact hne
    · have e2 : j = i := by omega
      subst e2
      rw [hp] at ha
      injection ha with ha
      rw [← ha]
      exact hne
theorem InvG.skip {l : List Cel} {i : Nat} {K : ByteArray} {lat lat2 : Int} {c : Cel} (h : InvG l i K lat) (hc : l[i]? = some c) (hb : -1 ≤ lat2 ∧ lat2 < (i : Int)) (h1 : 0 ≤ lat2 → K = c.key) (h2 : lat2 < 0 → K ≠ c.key) : InvG l (i + 1) K lat2 :=
  ⟨by omega, fun q => ⟨c, i, rfl, hc, h1 q⟩, fun q a j e ha => by
    have e2 : j = i := by omega
    subst e2
    rw [hc] at ha
    injection ha with ha
    rw [← ha]
    exact h2 q, by
    rcases h.old with e | ⟨j, a, hj, ha, e⟩
    · exact .inl e
    · exact .inr ⟨j, a, by omega, ha, e⟩⟩
theorem InvG.take {l : List Cel} {i : Nat} {K : ByteArray} {lat : Int} {c : Cel} (h : InvG l i K lat) (hc : l[i]? = some c) : InvG l (i + 1) c.key (i : Int) :=
  ⟨by omega, fun q => ⟨c, i, rfl, hc, rfl⟩, fun q => by omega, .inr ⟨i, c, by omega, hc, rfl⟩⟩
theorem gone_len (thr : Stp) : ∀ (l : List Cel) (k : ByteArray), (goneA thr k l).length ≤ l.length
  | [], _ => Nat.le_refl _
  | c :: r, k => by
    show _ ≤ r.length + 1
    by_cases q : le c.at_ thr = true
    · rw [goneA_yes q, List.length_append]
      have := gone_len thr r c.key
      have h2 : (if c.key = k ∨ c.del = true then [c] else []).length ≤ 1 := by split <;> simp
      omega
    · rw [goneA_no q]
      have := gone_len thr r k
      omega
theorem rows_len (at_ : Stp) : ∀ (l : List Cel) (k : ByteArray), (rowsA at_ k l).length ≤ l.length
  | [], _ => Nat.le_refl _
  | c :: r, k => by
    show _ ≤ r.length + 1
    by_cases q : c.key ≠ k ∧ le c.at_ at_ = true
    · rw [rowsA_yes q, List.length_append]
      have := rows_len at_ r c.key
      have h2 : (if c.del then [] else [(c.key, c.val)]).length ≤ 1 := by split <;> simp
      omega
    · rw [rowsA_no q]
      have := rows_len at_ r k
      omega
end Go.Proofs.Ytgikaglmeeeplaa
