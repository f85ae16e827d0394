/- Plain model of folding, and its laws. -/
import Derived.Test.YtmcpjpkidcbgiaaEm
namespace Go.Proofs.Ytmcpjpkidcbgiaa
open Go.RowKit Go.St
set_option linter.unusedVariables false
set_option linter.unusedSimpArgs false

def prB (pr : Option Int) (q : Int) : Bool := pr.all (fun p => decide (q < p))
/-- May somebody still ask for an entry of this Seq, behind one of its key? -/
def askB (qs : List Int) (pr : Option Int) (s : Int) : Bool := qs.any (fun q => decide (s ≤ q) && prB pr q)
def stG (qs : List Int) : Option Int → List Ent → List Ent
  | _, [] => []
  | pr, x :: r => if askB qs pr x.seq = true then x :: stG qs (some x.seq) r else stG qs (some x.seq) r
def trm : List Ent → List Ent
  | [] => []
  | x :: r => if x.del = true ∧ (trm r).isEmpty = true then [] else x :: trm r
def trI (last : Bool) (l : List Ent) : List Ent := if last then trm l else l
def sameK (k : ByteArray) (e : Ent) : Bool := decide (e.key = k)
def fldN (qs : List Int) (last : Bool) : Nat → List Ent → List Ent
  | 0, _ => []
  | _ + 1, [] => []
  | n + 1, x :: r => trI last (stG qs none (x :: r.takeWhile (sameK x.key))) ++ fldN qs last n (r.dropWhile (sameK x.key))
def foldE (l : List Ent) (keep : List Int) (last : Bool) : List Ent := fldN (1073741824 :: keep) last l.length l

/-- All at once. -/
def prO (p : Option Ent) (k : ByteArray) : Option Int := p.bind (fun y => if y.key = k then some y.seq else none)
def stA (qs : List Int) : Option Ent → List Ent → List Ent
  | _, [] => []
  | p, x :: r => if askB qs (prO p x.key) x.seq = true then x :: stA qs (some x) r else stA qs (some x) r
def trA : List Ent → List Ent
  | [] => []
  | x :: r => if x.del = true ∧ (trA r).head?.map Ent.key ≠ some x.key then trA r else x :: trA r

theorem trm_sub : ∀ l : List Ent, (trm l).Sublist l
  | [] => .slnil
  | x :: r => by
    rw [trm]
    split
    · exact List.nil_sublist _
    · exact (trm_sub r).cons_cons x
theorem trI_sub (b : Bool) (l : List Ent) : (trI b l).Sublist l := by
  unfold trI
  split
  · exact trm_sub l
  · exact List.Sublist.refl _
theorem stG_sub (qs : List Int) : ∀ (pr : Option Int) (l : List Ent), (stG qs pr l).Sublist l
  | _, [] => .slnil
  | pr, x :: r => by
    rw [stG]
    split
    · exact (stG_sub qs _ r).cons_cons x
    · exact (stG_sub qs _ r).cons x
theorem stA_sub (qs : List Int) : ∀ (p : Option Ent) (l : List Ent), (stA qs p l).Sublist l
  | _, [] => .slnil
  | p, x :: r => by
    rw [stA]
    split
    · exact (stA_sub qs _ r).cons_cons x
    · exact (stA_sub qs _ r).cons x
theorem trA_sub : ∀ l : List Ent, (trA l).Sublist l
  | [] => .slnil
  | x :: r => by
    rw [trA]
    split
    · exact (trA_sub r).cons x
    · exact (trA_sub r).cons_cons x
theorem fldN_sub (qs : List Int) (last : Bool) : ∀ (n : Nat) (l : List Ent), (fldN qs last n l).Sublist l
  | 0, l => List.nil_sublist _
  | _ + 1, [] => .slnil
  | n + 1, x :: r => by
    rw [fldN]
    have h : x :: r = (x :: r.takeWhile (sameK x.key)) ++ r.dropWhile (sameK x.key) := by rw [List.cons_append, List.takeWhile_append_dropWhile]
    have h2 := ((trI_sub last _).trans (stG_sub qs none (x :: r.takeWhile (sameK x.key)))).append (fldN_sub qs last n (r.dropWhile (sameK x.key)))
    rw [← h] at h2
    exact h2
theorem fold_sub (l : List Ent) (keep : List Int) (last : Bool) : (foldE l keep last).Sublist l := fldN_sub _ _ _ _
theorem fold_len (l : List Ent) (keep : List Int) (last : Bool) : (foldE l keep last).length ≤ l.length := (fold_sub l keep last).length_le

theorem ris_pw {l : List Ent} (h : risE l = true) : l.Pairwise (fun a b => ltE a b = true) := by
  rw [List.pairwise_iff_getElem]
  intro i j hi hj hij
  exact risE_pw h i j _ _ hij (List.getElem?_eq_getElem hi) (List.getElem?_eq_getElem hj)
theorem pw_ris {l : List Ent} (h : l.Pairwise (fun a b => ltE a b = true)) : risE l = true := by
  rw [risE, ris_iff]
  intro j a b ha hb
  obtain ⟨hj, rfl⟩ := List.getElem?_eq_some_iff.1 ha
  obtain ⟨hj2, rfl⟩ := List.getElem?_eq_some_iff.1 hb
  exact List.pairwise_iff_getElem.1 h j (j + 1) hj hj2 (by omega)
theorem fold_ris {l : List Ent} (h : risE l = true) (keep : List Int) (last : Bool) : risE (foldE l keep last) = true := pw_ris ((ris_pw h).sublist (fold_sub l keep last))
theorem ltE_key {a b : Ent} (h : ltE a b = true) : klt a.key b.key = true ∨ (a.key = b.key ∧ b.seq < a.seq) := by
  unfold ltE at h
  simpa only [Bool.or_eq_true, Bool.and_eq_true, decide_eq_true_eq] using h

theorem stA_head (qs : List Int) (p : Option Ent) (rest : List Ent) (h : ∀ y x r', p = some y → rest = x :: r' → y.key ≠ x.key) : stA qs p rest = stA qs none rest := by
  cases rest with
  | nil => rfl
  | cons x r =>
    have e : prO p x.key = none := by
      cases p with
      | none => rfl
      | some y => unfold prO; rw [Option.bind_some, if_neg (h y x r rfl rfl)]
    rw [stA, stA, e]
    rfl
theorem stA_grp (qs : List Int) (k : ByteArray) (rest : List Ent) (hr : ∀ x r', rest = x :: r' → x.key ≠ k) : ∀ (g : List Ent) (p : Option Ent), (∀ e ∈ g, e.key = k) → (∀ y, p = some y → y.key = k) → stA qs p (g ++ rest) = stG qs (p.map Ent.seq) g ++ stA qs none rest
  | [], p, _, hp => by
    rw [List.nil_append, stG, List.nil_append]
    exact stA_head qs p rest (fun y x r' h1 h2 h3 => hr x r' h2 (h3 ▸ hp y h1))
  | x :: g, p, hg, hp => by
    have hx := hg x (List.mem_cons_self ..)
    have e : prO p x.key = p.map Ent.seq := by
      cases p with
      | none => rfl
      | some y => unfold prO; rw [Option.bind_some, if_pos ((hp y rfl).trans hx.symm)]; rfl
    have ih := stA_grp qs k rest hr g (some x) (fun e he => hg e (List.mem_cons_of_mem _ he)) (fun y h => by injection h with h; rw [← h]; exact hx)
    rw [List.cons_append, stA, stG, e, ih]
    split <;> rfl
theorem dw_head {k : ByteArray} {r : List Ent} : ∀ x r', r.dropWhile (sameK k) = x :: r' → x.key ≠ k := by
  intro x r' h e
  have h2 := List.head?_dropWhile_not (sameK k) r
  rw [h] at h2
  simp [sameK, e] at h2
theorem tw_all {k : ByteArray} {r : List Ent} : ∀ e ∈ r.takeWhile (sameK k), e.key = k := by
  intro e he
  have h := List.all_takeWhile (l := r) (p := sameK k)
  rw [List.all_eq_true] at h
  exact of_decide_eq_true (h e he)
theorem grp_split (qs : List Int) (x : Ent) (r : List Ent) : stA qs none (x :: r) = stG qs none (x :: r.takeWhile (sameK x.key)) ++ stA qs none (r.dropWhile (sameK x.key)) := by
  have h : x :: r = (x :: r.takeWhile (sameK x.key)) ++ r.dropWhile (sameK x.key) := by rw [List.cons_append, List.takeWhile_append_dropWhile]
  conv => lhs; rw [h]
  exact stA_grp qs x.key _ dw_head _ none (fun e he => by
    rcases List.mem_cons.1 he with e1 | e1
    · rw [e1]
    · exact tw_all e e1) (fun y h => by cases h)
theorem fld_all (qs : List Int) : ∀ (n : Nat) (l : List Ent), l.length ≤ n → fldN qs false n l = stA qs none l
  | 0, l, h => by rw [List.eq_nil_of_length_eq_zero (Nat.le_zero.1 h)]; rfl
  | _ + 1, [], _ => rfl
  | n + 1, x :: r, h => by
    have hd : (r.dropWhile (sameK x.key)).length ≤ r.length := (List.dropWhile_suffix _).length_le
    rw [fldN, grp_split, fld_all qs n _ (by simp only [List.length_cons] at h; omega)]
    rfl
theorem trA_grp (k : ByteArray) (R : List Ent) (hR : ∀ e ∈ R, e.key ≠ k) : ∀ G : List Ent, (∀ e ∈ G, e.key = k) → trA (G ++ R) = trm G ++ trA R
  | [], _ => rfl
  | x :: G, hG => by
    have hx := hG x (List.mem_cons_self ..)
    have ih := trA_grp k R hR G (fun e he => hG e (List.mem_cons_of_mem _ he))
    rw [List.cons_append, trA, trm, ih]
    have hh : ((trm G ++ trA R).head?.map Ent.key ≠ some x.key) ↔ (trm G).isEmpty = true := by
      cases ht : trm G with
      | nil =>
        simp only [List.nil_append, List.isEmpty_nil, iff_true]
        cases hr : trA R with
        | nil => simp
        | cons z zs =>
          have hz : z ∈ R := (trA_sub R).subset (by rw [hr]; exact List.mem_cons_self ..)
          simp only [List.head?_cons, Option.map_some]
          intro e
          injection e with e
          exact hR z hz (e.trans hx)
      | cons z zs =>
        have hz : z ∈ G := (trm_sub G).subset (by rw [ht]; exact List.mem_cons_self ..)
        have hzk := hG z (List.mem_cons_of_mem _ hz)
        simp only [List.cons_append, List.head?_cons, Option.map_some, List.isEmpty_cons]
        constructor
        · intro h
          exact absurd (by rw [hzk, hx]) h
        · intro h; cases h
    by_cases h1 : x.del = true ∧ (trm G).isEmpty = true
    · rw [if_pos h1, if_pos ⟨h1.1, hh.2 h1.2⟩]
      have : trm G = [] := List.isEmpty_iff.1 h1.2
      rw [this]
    · rw [if_neg h1, if_neg (fun h2 => h1 ⟨h2.1, hh.1 h2.2⟩)]
      rfl
theorem dw_far {x : Ent} {r : List Ent} (h : (x :: r).Pairwise (fun a b => ltE a b = true)) : ∀ e ∈ r.dropWhile (sameK x.key), e.key ≠ x.key := by
  rw [List.pairwise_cons] at h
  have hs : (r.dropWhile (sameK x.key)).Sublist r := (List.dropWhile_suffix _).sublist
  cases hd : r.dropWhile (sameK x.key) with
  | nil => intro e he; cases he
  | cons y zs =>
    have hy := dw_head y zs hd
    have hyr : y ∈ r := hs.subset (by rw [hd]; exact List.mem_cons_self ..)
    have h2 := h.2.sublist hs
    rw [hd, List.pairwise_cons] at h2
    have hxy : klt x.key y.key = true := by
      rcases ltE_key (h.1 y hyr) with h3 | h3
      · exact h3
      · exact absurd h3.1.symm hy
    intro e he e2
    rcases List.mem_cons.1 he with e1 | e1
    · exact hy (e1 ▸ e2)
    · rcases ltE_key (h2.1 e e1) with h3 | h3
      · have := klt_tr hxy h3
        rw [e2, klt_irr] at this
        cases this
      · exact hy (h3.1.trans e2)
theorem fld_trA (qs : List Int) : ∀ (n : Nat) (l : List Ent), l.length ≤ n → l.Pairwise (fun a b => ltE a b = true) → fldN qs true n l = trA (stA qs none l)
  | 0, l, h, _ => by rw [List.eq_nil_of_length_eq_zero (Nat.le_zero.1 h)]; rfl
  | _ + 1, [], _, _ => rfl
  | n + 1, x :: r, h, hp => by
    have hd : (r.dropWhile (sameK x.key)).length ≤ r.length := (List.dropWhile_suffix _).length_le
    have hp2 : (r.dropWhile (sameK x.key)).Pairwise (fun a b => ltE a b = true) := (List.pairwise_cons.1 hp).2.sublist (List.dropWhile_suffix _).sublist
    rw [fldN, grp_split, fld_trA qs n _ (by simp only [List.length_cons] at h; omega) hp2]
    exact (trA_grp x.key _ (fun e he => dw_far hp e ((stA_sub qs none _).subset he)) _ (fun e he => by
      have h2 := (stG_sub qs none _).subset he
      rcases List.mem_cons.1 h2 with e1 | e1
      · rw [e1]
      · exact tw_all e e1)).symm
/-- Folding, all at once. -/
theorem fold_eq {l : List Ent} (h : risE l = true) (keep : List Int) (last : Bool) : foldE l keep last = if last then trA (stA (1073741824 :: keep) none l) else stA (1073741824 :: keep) none l := by
  unfold foldE
  cases last
  · exact fld_all _ _ _ (Nat.le_refl _)
  · exact fld_trA _ _ _ (Nat.le_refl _) (ris_pw h)

theorem visA_stA {qs : List Int} {q : Int} (hq : q ∈ qs) (fr to_ : ByteArray) : ∀ (l : List Ent) (last : Option ByteArray) (p : Option Ent), (∀ y, p = some y → inS fr to_ y.key = true → y.seq ≤ q → last = some y.key) → visA fr to_ q last (stA qs p l) = visA fr to_ q last l
  | [], _, _, _ => rfl
  | x :: r, last, p, hJ => by
    rw [stA]
    by_cases hC : inS fr to_ x.key = true ∧ x.seq ≤ q ∧ last ≠ some x.key
    · rw [visA_yes hC]
      have ha : askB qs (prO p x.key) x.seq = true := by
        unfold askB
        rw [List.any_eq_true]
        refine ⟨q, hq, ?_⟩
        rw [Bool.and_eq_true]
        refine ⟨decide_eq_true hC.2.1, ?_⟩
        unfold prB prO
        cases hp : p with
        | none => rfl
        | some y =>
          rw [Option.bind_some]
          by_cases hk : y.key = x.key
          · rw [if_pos hk, Option.all_some]
            refine decide_eq_true ?_
            rcases (by omega : q < y.seq ∨ y.seq ≤ q) with h1 | h1
            · exact h1
            · exact absurd ((hJ y hp (hk ▸ hC.1) h1).trans (congrArg some hk)) hC.2.2
          · rw [if_neg hk]
            rfl
      rw [if_pos ha, visA_yes hC, visA_stA hq fr to_ r (some x.key) (some x) (fun y h _ _ => by injection h with h; rw [h])]
    · rw [visA_no hC]
      have hJ2 : ∀ y, some x = some y → inS fr to_ y.key = true → y.seq ≤ q → last = some y.key := fun y h h1 h2 => by
        injection h with h
        subst h
        exact Classical.byContradiction fun h3 => hC ⟨h1, h2, h3⟩
      split
      · rw [visA_no hC]
        exact visA_stA hq fr to_ r last (some x) hJ2
      · exact visA_stA hq fr to_ r last (some x) hJ2
def putE (l : List Ent) : List Ent := l.filter (fun e => !e.del)
theorem visA_last (fr to_ : ByteArray) (q : Int) : ∀ (l : List Ent) (a b : Option ByteArray), (∀ z ∈ l, a ≠ some z.key) → (∀ z ∈ l, b ≠ some z.key) → visA fr to_ q a l = visA fr to_ q b l
  | [], _, _, _, _ => rfl
  | x :: r, a, b, ha, hb => by
    have ha1 := ha x (List.mem_cons_self ..)
    have hb1 := hb x (List.mem_cons_self ..)
    by_cases hC : inS fr to_ x.key = true ∧ x.seq ≤ q
    · rw [visA_yes ⟨hC.1, hC.2, ha1⟩, visA_yes ⟨hC.1, hC.2, hb1⟩]
    · rw [visA_no (fun h => hC ⟨h.1, h.2.1⟩), visA_no (fun h => hC ⟨h.1, h.2.1⟩)]
      exact visA_last fr to_ q r a b (fun z hz => ha z (List.mem_cons_of_mem _ hz)) (fun z hz => hb z (List.mem_cons_of_mem _ hz))
theorem puts_trA (fr to_ : ByteArray) (q : Int) : ∀ (l : List Ent) (last : Option ByteArray), l.Pairwise (fun a b => ltE a b = true) → (∀ k, last = some k → ∀ y ∈ l, klt y.key k = false) → putE (visA fr to_ q last (trA l)) = putE (visA fr to_ q last l)
  | [], _, _, _ => rfl
  | x :: r, last, hp, hk => by
    rw [List.pairwise_cons] at hp
    have hk2 : ∀ k, last = some k → ∀ y ∈ r, klt y.key k = false := fun k h y hy => hk k h y (List.mem_cons_of_mem _ hy)
    have hk3 : ∀ k, some x.key = some k → ∀ y ∈ r, klt y.key k = false := fun k h y hy => by
      injection h with h
      subst h
      rcases ltE_key (hp.1 y hy) with h3 | h3
      · exact klt_asym h3
      · rw [← h3.1, klt_irr]
    have ih1 := puts_trA fr to_ q r last hp.2 hk2
    have ih2 := puts_trA fr to_ q r (some x.key) hp.2 hk3
    rw [trA]
    by_cases hD : x.del = true ∧ (trA r).head?.map Ent.key ≠ some x.key
    · rw [if_pos hD]
      have hfar : ∀ z ∈ trA r, klt x.key z.key = true := by
        have hs := trA_sub r
        have h2 := hp.2.sublist hs
        cases ht : trA r with
        | nil => intro z hz; cases hz
        | cons y zs =>
          rw [ht] at h2 hD
          have hy : klt x.key y.key = true := by
            rcases ltE_key (hp.1 y (hs.subset (by rw [ht]; exact List.mem_cons_self ..))) with h3 | h3
            · exact h3
            · exact absurd (by rw [List.head?_cons, Option.map_some, h3.1]) hD.2
          intro z hz
          rcases List.mem_cons.1 hz with e | e
          · rw [e]; exact hy
          · rcases ltE_key ((List.pairwise_cons.1 h2).1 z e) with h3 | h3
            · exact klt_tr hy h3
            · rw [← h3.1]; exact hy
      by_cases hC : inS fr to_ x.key = true ∧ x.seq ≤ q ∧ last ≠ some x.key
      · rw [visA_yes hC]
        have e1 : putE (x :: visA fr to_ q (some x.key) r) = putE (visA fr to_ q (some x.key) r) := by
          unfold putE
          rw [List.filter_cons_of_neg (by rw [hD.1]; decide)]
        rw [e1, ← ih2]
        congr 1
        refine visA_last fr to_ q _ _ _ (fun z hz e => ?_) (fun z hz e => ?_)
        · have h3 := hfar z hz
          have h4 := hk z.key e x (List.mem_cons_self ..)
          rw [h3] at h4
          cases h4
        · have h3 := hfar z hz
          injection e with e
          rw [e, klt_irr] at h3
          cases h3
      · rw [visA_no hC, ih1]
    · rw [if_neg hD]
      by_cases hC : inS fr to_ x.key = true ∧ x.seq ≤ q ∧ last ≠ some x.key
      · rw [visA_yes hC, visA_yes hC]
        unfold putE at ih2 ⊢
        rw [List.filter_cons, List.filter_cons, ih2]
      · rw [visA_no hC, visA_no hC, ih1]
/-- Folding loses nothing that somebody may still ask for. -/
theorem fold_vis {l : List Ent} (h : risE l = true) (keep : List Int) (last : Bool) (q : Int) (hq : q ∈ (1073741824 :: keep : List Int)) (fr to_ : ByteArray) :
    putE (visE fr to_ q l) = putE (visE fr to_ q (foldE l keep last)) ∧ (last = false → visE fr to_ q l = visE fr to_ q (foldE l keep last)) := by
  have h1 := visA_stA hq fr to_ l none none (fun y h => by cases h)
  rw [fold_eq h]
  unfold visE
  cases last
  · rw [if_neg (by decide), h1]
    exact ⟨rfl, fun _ => rfl⟩
  · rw [if_pos rfl, puts_trA fr to_ q _ none ((ris_pw h).sublist (stA_sub _ _ _)) (fun k h => by cases h), h1]
    exact ⟨rfl, fun h => by cases h⟩
/-- Whether somebody may ask, as the document says it. -/
theorem find_first {l : List Ent} {key : ByteArray} {q : Int} {y : Ent} (h : findE l key q = some y) : visF key q y = true ∧ ∃ j : Nat, l[j]? = some y ∧ ∀ i x, i < j → l[i]? = some x → visF key q x = false := by
  unfold findE at h
  rw [List.find?_eq_some_iff_getElem] at h
  obtain ⟨h1, j, hj, h2, h3⟩ := h
  refine ⟨h1, j, by rw [List.getElem?_eq_getElem hj, h2], fun i x hi hx => ?_⟩
  obtain ⟨hi2, rfl⟩ := List.getElem?_eq_some_iff.1 hx
  have := h3 i hi
  simpa using this
theorem visF_iff {key : ByteArray} {q : Int} {x : Ent} : visF key q x = true ↔ x.key = key ∧ x.seq ≤ q := by
  unfold visF
  rw [Bool.and_eq_true, decide_eq_true_eq, decide_eq_true_eq]
def prev (l : List Ent) (i : Nat) : Option Ent := if i = 0 then none else l[i - 1]?
theorem prev_succ {l : List Ent} {i : Nat} {x : Ent} (h : l[i]? = some x) : prev l (i + 1) = some x := by
  unfold prev
  rw [if_neg (by omega), Nat.add_sub_cancel, h]
theorem ask_doc {l : List Ent} (h : risE l = true) {i : Nat} {x : Ent} (hx : l[i]? = some x) (q : Int) :
    (∃ y, findE l x.key q = some y ∧ y.seq = x.seq) ↔ (decide (x.seq ≤ q) && prB (prO (prev l i) x.key) q) = true := by
  have hpr : (prB (prO (prev l i) x.key) q = true) ↔ ∀ z, prev l i = some z → z.key = x.key → q < z.seq := by
    unfold prB prO
    cases hp : prev l i with
    | none => simp
    | some z =>
      rw [Option.bind_some]
      by_cases hk : z.key = x.key
      · rw [if_pos hk, Option.all_some, decide_eq_true_eq]
        constructor
        · intro h1 y e _; injection e with e; rw [← e]; exact h1
        · intro h1; exact h1 z rfl hk
      · rw [if_neg hk]
        simp only [Option.all_none, true_iff]
        intro y e h1
        injection e with e
        exact absurd (e ▸ h1) hk
  rw [Bool.and_eq_true, decide_eq_true_eq, hpr]
  constructor
  · rintro ⟨y, hy, hs⟩
    obtain ⟨h1, j, hj, hf⟩ := find_first hy
    rw [visF_iff] at h1
    have hji : j = i := by
      rcases Nat.lt_trichotomy j i with h2 | h2 | h2
      · rcases ltE_key (risE_pw h j i y x h2 hj hx) with h3 | h3
        · rw [h1.1, klt_irr] at h3; cases h3
        · omega
      · exact h2
      · rcases ltE_key (risE_pw h i j x y h2 hx hj) with h3 | h3
        · rw [h1.1, klt_irr] at h3; cases h3
        · omega
    subst hji
    refine ⟨by omega, fun z hz hk => ?_⟩
    unfold prev at hz
    split at hz
    · cases hz
    · have := hf (j - 1) z (by omega) hz
      rcases (by omega : q < z.seq ∨ z.seq ≤ q) with h4 | h4
      · exact h4
      · rw [visF_iff.2 ⟨hk, h4⟩] at this
        cases this
  · rintro ⟨h1, h2⟩
    have hno : ∀ j y, j < i → l[j]? = some y → visF x.key q y = false := fun j y hj hy => by
      cases hv : visF x.key q y
      · rfl
      · rw [visF_iff] at hv
        have hi : i < l.length := (List.getElem?_eq_some_iff.1 hx).1
        have hz : l[i - 1]? = some l[i - 1] := List.getElem?_eq_getElem (by omega)
        have hzp : prev l i = some l[i - 1] := by unfold prev; rw [if_neg (by omega), hz]
        have hzx := ltE_key (risE_pw h (i - 1) i _ x (by omega) hz hx)
        have hzk : l[i - 1].key = x.key ∧ l[i - 1].seq ≤ y.seq := by
          rcases Nat.lt_or_ge j (i - 1) with h3 | h3
          · rcases ltE_key (risE_pw h j (i - 1) y _ h3 hy hz) with h4 | h4
            · rcases hzx with h5 | h5
              · have := klt_tr h4 h5
                rw [hv.1, klt_irr] at this
                cases this
              · rw [hv.1, h5.1, klt_irr] at h4
                cases h4
            · exact ⟨h4.1.symm.trans hv.1, by omega⟩
          · have : j = i - 1 := by omega
            subst this
            rw [hz] at hy
            injection hy with hy
            rw [hy]
            exact ⟨hv.1, Int.le_refl _⟩
        have := h2 _ hzp hzk.1
        omega
    refine ⟨x, ?_, rfl⟩
    unfold findE
    rw [List.find?_eq_some_iff_getElem]
    obtain ⟨hi, rfl⟩ := List.getElem?_eq_some_iff.1 hx
    refine ⟨visF_iff.2 ⟨rfl, h1⟩, i, hi, rfl, fun j hj => ?_⟩
    rw [hno j _ hj (List.getElem?_eq_getElem (by omega))]
    rfl
theorem stA_at (qs : List Int) {l : List Ent} {i : Nat} {x : Ent} (hx : l[i]? = some x) : stA qs (prev l i) (l.drop i) = if askB qs (prO (prev l i) x.key) x.seq = true then x :: stA qs (prev l (i + 1)) (l.drop (i + 1)) else stA qs (prev l (i + 1)) (l.drop (i + 1)) := by
  rw [drop_at hx, stA, prev_succ hx]
end Go.Proofs.Ytmcpjpkidcbgiaa
