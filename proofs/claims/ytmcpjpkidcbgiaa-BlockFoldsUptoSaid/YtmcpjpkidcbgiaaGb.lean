/- Plain model of merging, and its laws. -/
import Derived.Test.YtmcpjpkidcbgiaaGa
namespace Go.Proofs.Ytmcpjpkidcbgiaa
open Go.RowKit Go.St
set_option linter.unusedVariables false
set_option linter.unusedSimpArgs false

def betM (x : Ent) (b : Option (Nat × Ent)) : Bool := b.all (fun p => ltE x p.2)
/-- The first of the least heads. -/
def bstM : List (List Ent) → Nat → Option (Nat × Ent) → Option (Nat × Ent)
  | [], _, b => b
  | [] :: r, i, b => bstM r (i + 1) b
  | (x :: _) :: r, i, b => bstM r (i + 1) (if betM x b = true then some (i, x) else b)
def okM (out : List Ent) (x : Ent) : Bool := out.getLast?.all (fun o => ltE o x)
def mrgN : Nat → List (List Ent) → List Ent → Option (List Ent)
  | 0, _, _ => none
  | n + 1, ls, out => (bstM ls 0 none).elim (some out) (fun p => if okM out p.2 = true then mrgN n (ls.set p.1 ((ls[p.1]?.getD []).tail)) (out ++ [p.2]) else none)
def totL (ls : List (List Ent)) : Nat := (ls.map List.length).sum
def mrgM (ls : List (List Ent)) (out : List Ent) : Option (List Ent) := mrgN (totL ls + 1) ls out
def mrgE (ls : List (List Ent)) : Int := if ls.all risE = true then (if (mrgM ls []).isSome = true then 0 else 9) else 10
def mrgL (ls : List (List Ent)) : List Ent := if ls.all risE = true then (mrgM ls []).getD [] else []

theorem bst_nil (i : Nat) (b : Option (Nat × Ent)) : bstM [] i b = b := rfl
theorem bst_empty (r : List (List Ent)) (i : Nat) (b : Option (Nat × Ent)) : bstM ([] :: r) i b = bstM r (i + 1) b := rfl
theorem bst_cons (x : Ent) (t : List Ent) (r : List (List Ent)) (i : Nat) (b : Option (Nat × Ent)) : bstM ((x :: t) :: r) i b = bstM r (i + 1) (if betM x b = true then some (i, x) else b) := rfl
theorem bst_in : ∀ (ls : List (List Ent)) (k : Nat) (b : Option (Nat × Ent)) (i : Nat) (x : Ent), bstM ls k b = some (i, x) → b = some (i, x) ∨ (k ≤ i ∧ ∃ r, ls[i - k]? = some (x :: r))
  | [], _, _, _, _, h => .inl h
  | [] :: r, k, b, i, x, h => by
    rcases bst_in r (k + 1) b i x h with h1 | ⟨h1, t, h2⟩
    · exact .inl h1
    · exact .inr ⟨by omega, t, by rw [show i - k = (i - (k + 1)) + 1 by omega]; exact h2⟩
  | (y :: s) :: r, k, b, i, x, h => by
    rw [bst_cons] at h
    rcases bst_in r (k + 1) _ i x h with h1 | ⟨h1, t, h2⟩
    · split at h1
      · injection h1 with h1
        injection h1 with h3 h4
        subst h3 h4
        exact .inr ⟨Nat.le_refl _, s, by rw [Nat.sub_self]; rfl⟩
      · exact .inl h1
    · exact .inr ⟨by omega, t, by rw [show i - k = (i - (k + 1)) + 1 by omega]; exact h2⟩
theorem bst_some : ∀ (ls : List (List Ent)) (k : Nat) (p : Nat × Ent), ∃ q, bstM ls k (some p) = some q
  | [], _, p => ⟨p, rfl⟩
  | [] :: r, k, p => bst_some r (k + 1) p
  | (y :: s) :: r, k, p => by
    rw [bst_cons]
    split
    · exact bst_some r (k + 1) _
    · exact bst_some r (k + 1) _
theorem bst_none : ∀ (ls : List (List Ent)) (k : Nat), bstM ls k none = none → ∀ l ∈ ls, l = []
  | [], _, _, l, hl => by cases hl
  | [] :: r, k, h, l, hl => by
    rcases List.mem_cons.1 hl with e | e
    · exact e
    · exact bst_none r (k + 1) h l e
  | (y :: s) :: r, k, h, l, hl => by
    rw [bst_cons] at h
    obtain ⟨q, hq⟩ := bst_some r (k + 1) (k, y)
    have : betM y none = true := rfl
    rw [if_pos this, hq] at h
    cases h
theorem ltE_tie {a b c : Ent} (hk : b.key = c.key) (hs : b.seq = c.seq) (h : ltE a b = true) : ltE a c = true := by
  unfold ltE at *
  rw [← hk, ← hs]
  exact h
theorem bst_least : ∀ (ls : List (List Ent)) (k : Nat) (b : Option (Nat × Ent)) (i : Nat) (x : Ent), bstM ls k b = some (i, x) → (∀ p, b = some p → ltE p.2 x = false) ∧ ∀ (j : Nat) (y : Ent) (r : List Ent), ls[j]? = some (y :: r) → ltE y x = false
  | [], k, b, i, x, h => ⟨fun p hp => by
      rw [bst_nil, hp] at h
      injection h with h
      rw [h]
      exact ltE_irr x, fun j y r hj => by simp at hj⟩
  | [] :: r, k, b, i, x, h => by
    obtain ⟨h1, h2⟩ := bst_least r (k + 1) b i x h
    refine ⟨h1, fun j y t hj => ?_⟩
    cases j with
    | zero => simp at hj
    | succ j => exact h2 j y t (by simpa using hj)
  | (z :: s) :: r, k, b, i, x, h => by
    rw [bst_cons] at h
    obtain ⟨h1, h2⟩ := bst_least r (k + 1) _ i x h
    have hz : ltE z x = false ∧ ∀ p, b = some p → ltE p.2 x = false := by
      by_cases hb : betM z b = true
      · have h3 := h1 (k, z) (if_pos hb)
        refine ⟨h3, fun p hp => ?_⟩
        rw [hp] at hb
        have hb2 : ltE z p.2 = true := hb
        cases h4 : ltE p.2 x
        · rfl
        · rw [ltE_tr hb2 h4] at h3
          cases h3
      · rw [if_neg hb] at h1
        refine ⟨?_, h1⟩
        cases b with
        | none => exact absurd rfl hb
        | some p =>
          have hb2 : ltE z p.2 = false := by
            cases h5 : ltE z p.2
            · rfl
            · exact absurd h5 hb
          have h3 := h1 p rfl
          cases h4 : ltE z x
          · rfl
          · cases h5 : ltE x p.2
            · have ht := ltE_tri h5 h3
              rw [ltE_tie ht.1 ht.2 h4] at hb2
              cases hb2
            · rw [ltE_tr h4 h5] at hb2
              cases hb2
    refine ⟨hz.2, fun j y t hj => ?_⟩
    cases j with
    | zero =>
      simp only [List.getElem?_cons_zero, Option.some.injEq, List.cons.injEq] at hj
      rw [← hj.1]
      exact hz.1
    | succ j => exact h2 j y t (by simpa using hj)

theorem tot_set : ∀ (ls : List (List Ent)) (i : Nat) (x : Ent) (r : List Ent), ls[i]? = some (x :: r) → totL (ls.set i r) + 1 = totL ls
  | [], i, x, r, h => by simp at h
  | l :: ls, 0, x, r, h => by
    have : l = x :: r := by simpa using h
    subst this
    simp [totL]
    omega
  | l :: ls, i + 1, x, r, h => by
    have ih := tot_set ls i x r (by simpa using h)
    simp only [totL, List.set_cons_succ, List.map_cons, List.sum_cons] at ih ⊢
    omega
theorem mrg_end {ls : List (List Ent)} (h : bstM ls 0 none = none) (out : List Ent) : mrgM ls out = some out := by
  unfold mrgM
  rw [mrgN, h]
  rfl
theorem mrg_bad {ls : List (List Ent)} {i : Nat} {x : Ent} (h : bstM ls 0 none = some (i, x)) {out : List Ent} (hk : okM out x = false) : mrgM ls out = none := by
  unfold mrgM
  rw [mrgN, h]
  show (if okM out x = true then _ else _) = _
  rw [hk]
  rfl
theorem mrg_go {ls : List (List Ent)} {i : Nat} {x : Ent} {r : List Ent} (h : bstM ls 0 none = some (i, x)) (hi : ls[i]? = some (x :: r)) {out : List Ent} (hk : okM out x = true) : mrgM ls out = mrgM (ls.set i r) (out ++ [x]) := by
  unfold mrgM
  rw [mrgN, h, tot_set ls i x r hi]
  show (if okM out x = true then mrgN (totL ls) (ls.set i ((ls[i]?.getD []).tail)) (out ++ [x]) else none) = _
  rw [if_pos hk, hi]
  rfl
theorem bst_at {ls : List (List Ent)} {i : Nat} {x : Ent} (h : bstM ls 0 none = some (i, x)) : ∃ r, ls[i]? = some (x :: r) := by
  rcases bst_in ls 0 none i x h with h1 | ⟨_, r, h2⟩
  · cases h1
  · exact ⟨r, h2⟩
theorem mem_set' {ls : List (List Ent)} {i : Nat} {l r : List Ent} (h : l ∈ ls.set i r) : l = r ∨ l ∈ ls := by
  rcases List.mem_or_eq_of_mem_set h with h | h
  · exact .inr h
  · exact .inl h
theorem ris_tail {x : Ent} {r : List Ent} (h : risE (x :: r) = true) : risE r = true := pw_ris (List.pairwise_cons.1 (ris_pw h)).2
theorem ris_snoc {out : List Ent} {x : Ent} (h : risE out = true) (hk : okM out x = true) : risE (out ++ [x]) = true := by
  rw [risE, ris_iff] at *
  intro j a b ha hb
  rcases Nat.lt_or_ge (j + 1) out.length with h1 | h1
  · rw [List.getElem?_append_left (by omega)] at ha
    rw [List.getElem?_append_left h1] at hb
    exact h j a b ha hb
  · have h2 : j + 1 = out.length := by
      have := (List.getElem?_eq_some_iff.1 hb).1
      rw [List.length_append, List.length_cons, List.length_nil] at this
      omega
    rw [List.getElem?_append_left (by omega)] at ha
    rw [List.getElem?_append_right (by omega), h2, Nat.sub_self] at hb
    have hb2 : x = b := by simpa using hb
    unfold okM at hk
    rw [List.getLast?_eq_getElem?, show out.length - 1 = j by omega, ha, Option.all_some] at hk
    rw [← hb2]
    exact hk

/-- All that was in them, in order. -/
theorem mrg_all : ∀ (n : Nat) (ls : List (List Ent)) (out a : List Ent), mrgN n ls out = some a → ∃ t, a = out ++ t ∧ t.length = totL ls ∧ (∀ (j : Nat) (l : List Ent), ls[j]? = some l → l.Sublist t) ∧ (risE out = true → risE a = true)
  | 0, _, _, _, h => by cases h
  | n + 1, ls, out, a, h => by
    rw [mrgN] at h
    cases hb : bstM ls 0 none with
    | none =>
      rw [hb] at h
      have h : some out = some a := h
      injection h with h
      subst h
      have he := bst_none ls 0 hb
      refine ⟨[], by simp, ?_, fun j l hj => ?_, fun h => h⟩
      · have : ∀ l : List (List Ent), (∀ x ∈ l, x = []) → totL l = 0 := by
          intro l
          induction l with
          | nil => intro _; rfl
          | cons x r ih =>
            intro h
            have h1 := h x (List.mem_cons_self ..)
            have h2 := ih (fun y hy => h y (List.mem_cons_of_mem _ hy))
            subst h1
            simp only [totL, List.map_cons, List.sum_cons, List.length_nil] at h2 ⊢
            omega
        rw [this ls he]
        rfl
      · rw [he l (List.mem_of_getElem? hj)]
        exact List.nil_sublist _
    | some p =>
      obtain ⟨i, x⟩ := p
      rw [hb] at h
      have h : (if okM out x = true then mrgN n (ls.set i ((ls[i]?.getD []).tail)) (out ++ [x]) else none) = some a := h
      obtain ⟨r, hi⟩ := bst_at hb
      by_cases hk : okM out x = true
      · rw [if_pos hk, hi] at h
        have h : mrgN n (ls.set i r) (out ++ [x]) = some a := h
        obtain ⟨t, h1, h2, h3, h4⟩ := mrg_all n _ _ _ h
        refine ⟨x :: t, by rw [h1]; simp, by rw [List.length_cons, h2, tot_set ls i x r hi], fun j l hj => ?_, fun h5 => h4 (ris_snoc h5 hk)⟩
        by_cases e : i = j
        · subst e
          rw [hi] at hj
          injection hj with hj
          subst hj
          exact (h3 i r (by rw [List.getElem?_set_self (List.getElem?_eq_some_iff.1 hi).1])).cons_cons x
        · exact (h3 j l (by rw [List.getElem?_set_ne e]; exact hj)).cons x
      · rw [if_neg hk] at h
        cases h
theorem mrg_len {ls : List (List Ent)} {a : List Ent} (h : mrgM ls [] = some a) : a.length = totL ls := by
  obtain ⟨t, h1, h2, -, -⟩ := mrg_all _ _ _ _ h
  rw [h1]
  exact h2
theorem mrg_ris {ls : List (List Ent)} {a : List Ent} (h : mrgM ls [] = some a) : risE a = true := by
  obtain ⟨t, -, -, -, h4⟩ := mrg_all _ _ _ _ h
  exact h4 rfl
theorem mrg_sub {ls : List (List Ent)} {a : List Ent} (h : mrgM ls [] = some a) {j : Nat} {l : List Ent} (hj : ls[j]? = some l) : l.Sublist a := by
  obtain ⟨t, h1, -, h3, -⟩ := mrg_all _ _ _ _ h
  rw [h1]
  exact h3 j l hj
/-- A list that is part of another one, gone through. -/
theorem sub_hit {l a : List Ent} {k j : Nat} {x : Ent} (h : (l.drop k).Sublist (a.drop j)) (hk : l[k]? = some x) (hj : a[j]? = some x) : (l.drop (k + 1)).Sublist (a.drop (j + 1)) := by
  rw [drop_at hk, drop_at hj] at h
  exact List.cons_sublist_cons.1 h
theorem sub_miss {l a : List Ent} {k j : Nat} {x y : Ent} (h : (l.drop k).Sublist (a.drop j)) (hk : l[k]? = some x) (hj : a[j]? = some y) (hn : y ≠ x) : (l.drop k).Sublist (a.drop (j + 1)) := by
  rw [drop_at hk, drop_at hj] at h
  rw [drop_at hk]
  cases h with
  | cons _ h => exact h
  | cons_cons _ h => exact absurd rfl hn
theorem sub_end {l a : List Ent} {k j : Nat} (h : (l.drop k).Sublist (a.drop j)) (hj : a.length ≤ j) : l.length ≤ k := by
  rw [List.drop_eq_nil_of_le hj] at h
  have := List.eq_nil_of_sublist_nil h
  rw [List.drop_eq_nil_iff] at this
  exact this

/-- The heads are not ahead of the last one told: then the document's test is the program's. -/
def InvM (ls : List (List Ent)) (out : List Ent) : Prop := (∀ l ∈ ls, risE l = true) ∧ ∀ o, out.getLast? = some o → ∀ (j : Nat) (y : Ent) (r : List Ent), ls[j]? = some (y :: r) → ltE y o = false
theorem inv_start {ls : List (List Ent)} (h : ls.all risE = true) : InvM ls [] := ⟨fun l hl => List.all_eq_true.1 h l hl, fun o ho => by cases ho⟩
theorem inv_go {ls : List (List Ent)} {out : List Ent} {i : Nat} {x : Ent} {r : List Ent} (h : InvM ls out) (hb : bstM ls 0 none = some (i, x)) (hi : ls[i]? = some (x :: r)) : InvM (ls.set i r) (out ++ [x]) := by
  have hx := h.1 _ (List.mem_of_getElem? hi)
  refine ⟨fun l hl => ?_, fun o ho j y t hj => ?_⟩
  · rcases mem_set' hl with e | e
    · rw [e]; exact ris_tail hx
    · exact h.1 l e
  · rw [List.getLast?_append, List.getLast?_singleton] at ho
    have ho : x = o := by simpa using ho
    subst ho
    by_cases e : i = j
    · subst e
      rw [List.getElem?_set_self (List.getElem?_eq_some_iff.1 hi).1] at hj
      injection hj with hj
      subst hj
      exact ltE_asym ((List.pairwise_cons.1 (ris_pw hx)).1 y (List.mem_cons_self ..))
    · rw [List.getElem?_set_ne e] at hj
      exact (bst_least ls 0 none i x hb).2 j y t hj
theorem inv_ok {ls : List (List Ent)} {out : List Ent} {i : Nat} {x o : Ent} (h : InvM ls out) (hb : bstM ls 0 none = some (i, x)) (ho : out.getLast? = some o) : okM out x = !(decide (o.key = x.key) && decide (o.seq = x.seq)) := by
  obtain ⟨r, hi⟩ := bst_at hb
  have h1 := h.2 o ho i x r hi
  have h2 : okM out x = ltE o x := by unfold okM; rw [ho]; rfl
  rw [h2]
  cases h3 : ltE o x
  · have ht := ltE_tri h1 h3
    rw [decide_eq_true ht.1.symm, decide_eq_true ht.2.symm]
    rfl
  · rcases ltE_key h3 with h4 | h4
    · have : o.key ≠ x.key := fun e => by rw [e, klt_irr] at h4; cases h4
      rw [decide_eq_false this]
      rfl
    · have : o.seq ≠ x.seq := by omega
      rw [decide_eq_false this, Bool.and_false]
      rfl
/-- Lists, each gone through up to a place. -/
def curM (L : List (List Ent)) (at_ : List Nat) : List (List Ent) := List.zipWith (fun l k => l.drop k) L at_
theorem cur_at {L : List (List Ent)} {at_ : List Nat} {i k : Nat} {l : List Ent} (hl : L[i]? = some l) (hk : at_[i]? = some k) : (curM L at_)[i]? = some (l.drop k) := by
  unfold curM
  rw [List.getElem?_zipWith, hl, hk]
theorem cur_zero (L : List (List Ent)) (n : Nat) (h : L.length = n) : curM L (List.replicate n 0) = L := by
  subst h
  unfold curM
  induction L with
  | nil => rfl
  | cons x r ih => rw [List.length_cons, List.replicate_succ, List.zipWith_cons_cons, ih, List.drop_zero]
theorem cur_set {L : List (List Ent)} {at_ : List Nat} {i k : Nat} {l : List Ent} {x : Ent} {r : List Ent} (hl : L[i]? = some l) (hk : at_[i]? = some k) (hx : (curM L at_)[i]? = some (x :: r)) : curM L (at_.set i (k + 1)) = (curM L at_).set i r := by
  have h1 := cur_at hl hk
  rw [hx] at h1
  injection h1 with h1
  apply List.ext_getElem?
  intro j
  unfold curM
  rw [List.getElem?_zipWith]
  by_cases e : i = j
  · subst e
    have hi : i < at_.length := (List.getElem?_eq_some_iff.1 hk).1
    rw [List.getElem?_set_self hi, hl]
    have hlen : i < (List.zipWith (fun l k => List.drop k l) L at_).length := (List.getElem?_eq_some_iff.1 hx).1
    rw [List.getElem?_set_self hlen]
    show some (l.drop (k + 1)) = some r
    rw [← List.drop_drop, ← h1]
    rfl
  · rw [List.getElem?_set_ne e, List.getElem?_set_ne e, List.getElem?_zipWith]
end Go.Proofs.Ytmcpjpkidcbgiaa
