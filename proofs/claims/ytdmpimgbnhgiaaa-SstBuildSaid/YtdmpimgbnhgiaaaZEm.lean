/- Plain model of entries: which may be, their order, what is visible. -/
import Derived.Test.YtdmpimgbnhgiaaaZBase
import Derived.Sort.Walk0

namespace Go.Proofs.Ytdmpimgbnhgiaaa
open Go.RowKit Go.St
set_option linter.unusedVariables false
set_option linter.unusedSimpArgs false

structure Ent where
  key : ByteArray
  val : ByteArray
  seq : Int
  del : Bool
deriving DecidableEq
def Ent.c (c : Ent) : List Value := [.string c.key, .string c.val, .int .i64 c.seq, .bool c.del]
def Ent.v (c : Ent) : Value := .agg #[.string c.key, .string c.val, .int .i64 c.seq, .bool c.del]
def zB : ByteArray := { data := #[] }
def Ent.z : Ent := ⟨zB, zB, 0, false⟩
/-- Lists as cells. -/
def env (l : List Ent) : List Value := (l.map Ent.c).flatten
theorem env_app (a b : List Ent) : env (a ++ b) = env a ++ env b := by simp [env]
theorem env_cons (a : Ent) (b : List Ent) : env (a :: b) = a.c ++ env b := by simp [env]
theorem env_len (l : List Ent) : (env l).length = l.length * 4 := by
  induction l with
  | nil => rfl
  | cons x r ih =>
    show (x.c ++ env r).length = (r.length + 1) * 4
    rw [List.length_append, ih]
    show 4 + r.length * 4 = _
    omega
theorem env_get {l : List Ent} {i : Nat} {c : Ent} (h : l[i]? = some c) (j : Nat) (v : Value) (hj : c.c[j]? = some v) : (env l)[i * 4 + j]? = some v := by
  induction l generalizing i with
  | nil => simp at h
  | cons x r ih =>
    cases i with
    | zero =>
      have e : x = c := by simpa using h
      subst e
      simp only [env, List.map_cons, List.flatten_cons]
      rw [List.getElem?_append_left (by rw [Nat.zero_mul, Nat.zero_add]; exact (List.getElem?_eq_some_iff.1 hj).1), Nat.zero_mul, Nat.zero_add]
      exact hj
    | succ i =>
      simp only [env, List.map_cons, List.flatten_cons]
      rw [List.getElem?_append_right (by simp [Ent.c]; omega), show (i + 1) * 4 + j - x.c.length = i * 4 + j by simp [Ent.c]; omega]
      exact ih (by simpa using h)
theorem env_one (l : List Ent) : ∀ u ∈ env l, u.oneCell' = true := by
  intro u hu
  simp only [env, List.mem_flatten, List.mem_map] at hu
  obtain ⟨_, ⟨c, _, rfl⟩, hu⟩ := hu
  simp [Ent.c] at hu
  rcases hu with rfl | rfl | rfl | rfl <;> rfl
theorem env_take (l : List Ent) (k : Nat) : env (l.take k) = (env l).take (k * 4) := by
  induction l generalizing k with
  | nil => simp [env]
  | cons x r ih =>
    cases k with
    | zero => simp [env]
    | succ k =>
      rw [List.take_succ_cons, env_cons, env_cons, ih, show (k + 1) * 4 = x.c.length + k * 4 by show _ = 4 + k * 4; omega, List.take_length_add_append]

theorem toList_inj {a b : ByteArray} (h : a.toList = b.toList) : a = b := by
  rw [Lib.toList_data, Lib.toList_data] at h
  cases a with
  | mk a => cases b with
    | mk b => exact congrArg ByteArray.mk (Array.toList_inj.1 h)
def klt (a b : ByteArray) : Bool := Op.bytesLess a.toList b.toList
def okE (e : Ent) : Bool := decide (1 ≤ e.seq ∧ e.seq ≤ 1073741824) && decide (1 ≤ e.key.size ∧ e.key.size ≤ 512) && decide (e.val.size ≤ 4096) && (!e.del || decide (e.val.size = 0))
def chkE (e : Ent) : Int := if okE e then 0 else 2
/-- Is an entry ahead of another one? -/
def ltE (a b : Ent) : Bool := klt a.key b.key || (decide (a.key = b.key) && decide (b.seq < a.seq))
def risB {α : Type} (lt : α → α → Bool) (l : List α) : Bool := (List.range (l.length - 1)).all (fun j => match l[j]?, l[j + 1]? with | some a, some b => lt a b | _, _ => true)
theorem ris_iff {α : Type} (l : List α) (lt : α → α → Bool) : risB lt l = true ↔ ∀ j a b, l[j]? = some a → l[j + 1]? = some b → lt a b = true := by
  unfold risB
  rw [List.all_eq_true]
  constructor
  · intro h j a b ha hb
    have hj : j + 1 < l.length := (List.getElem?_eq_some_iff.1 hb).1
    have := h j (List.mem_range.2 (by omega))
    rw [ha, hb] at this
    exact this
  · intro h j hj
    cases ha : l[j]? with
    | none => rfl
    | some a =>
      cases hb : l[j + 1]? with
      | none => rfl
      | some b => exact h j a b ha hb
def risE (l : List Ent) : Bool := risB ltE l
/-- Are entries a block? -/
def chkL (l : List Ent) : Int := if l.length = 0 then 2 else if 64 < l.length then 3 else if l.all okE then (if risE l then 0 else 10) else 2

theorem klt_irr (a : ByteArray) : klt a a = false := by
  unfold klt; rw [bytesLess_eq]; exact decide_eq_false (List.lt_irrefl _)
theorem klt_tr {a b c : ByteArray} (h : klt a b = true) (k : klt b c = true) : klt a c = true := by
  unfold klt at *
  rw [bytesLess_eq] at *
  rw [decide_eq_true_eq] at *
  exact List.lt_trans h k
theorem klt_tri {a b : ByteArray} (h : klt a b = false) (k : klt b a = false) : a = b := by
  unfold klt at *
  rw [bytesLess_eq] at *
  rw [decide_eq_false_iff_not] at *
  exact toList_inj (List.le_antisymm k h)
theorem klt_asym {a b : ByteArray} (h : klt a b = true) : klt b a = false := by
  cases k : klt b a
  · rfl
  · have := klt_tr h k
    rw [klt_irr] at this
    cases this
theorem klt_nle (a b : ByteArray) : (Op.bytesLess b.toList a.toList || b.toList == a.toList) = !klt a b := by
  cases h : klt a b
  · cases h2 : klt b a
    · have := klt_tri h h2
      subst this
      simp
    · show (klt b a || _) = _
      rw [h2]
      rfl
  · have h2 := klt_asym h
    show (klt b a || _) = _
    rw [h2]
    have : (b.toList == a.toList) = false := by
      rw [beq_eq_false_iff_ne]
      intro e
      rw [toList_inj e, klt_irr] at h
      cases h
    rw [this]
    rfl
theorem str_eqB (a b : ByteArray) : (a.toList == b.toList) = decide (a = b) := by
  by_cases h : a = b
  · subst h; simp
  · rw [decide_eq_false h, beq_eq_false_iff_ne]
    exact fun e => h (toList_inj e)
theorem ltE_irr (a : Ent) : ltE a a = false := by simp [ltE, klt_irr]
theorem ltE_tr {a b c : Ent} (h : ltE a b = true) (k : ltE b c = true) : ltE a c = true := by
  unfold ltE at *
  simp only [Bool.or_eq_true, Bool.and_eq_true, decide_eq_true_eq] at *
  rcases h with h | ⟨h1, h2⟩ <;> rcases k with k | ⟨k1, k2⟩
  · exact .inl (klt_tr h k)
  · exact .inl (k1 ▸ h)
  · exact .inl (h1 ▸ k)
  · exact .inr ⟨h1.trans k1, by omega⟩
theorem ltE_asym {a b : Ent} (h : ltE a b = true) : ltE b a = false := by
  cases k : ltE b a
  · rfl
  · have := ltE_tr h k
    rw [ltE_irr] at this
    cases this
/-- Two entries of which none is ahead of the other one have one key and one Seq. -/
theorem ltE_tri {a b : Ent} (h : ltE a b = false) (k : ltE b a = false) : a.key = b.key ∧ a.seq = b.seq := by
  unfold ltE at *
  simp only [Bool.or_eq_false_iff, Bool.and_eq_false_iff, decide_eq_false_iff_not] at *
  have e := klt_tri h.1 k.1
  refine ⟨e, ?_⟩
  rcases h.2 with h2 | h2
  · exact absurd e h2
  · rcases k.2 with k2 | k2
    · exact absurd e.symm k2
    · omega
/-- In order: each earlier one is ahead of each later one. -/
theorem risE_pw {l : List Ent} (h : risE l = true) : ∀ (i j : Nat) (a b : Ent), i < j → l[i]? = some a → l[j]? = some b → ltE a b = true := by
  have h1 := (ris_iff l ltE).1 h
  intro i j
  induction j with
  | zero => intro a b hij; omega
  | succ j ih =>
    intro a b hij ha hb
    rcases Nat.lt_or_ge i j with h2 | h2
    · have hj : j < l.length := by have := (List.getElem?_eq_some_iff.1 hb).1; omega
      exact ltE_tr (ih a l[j] h2 ha (List.getElem?_eq_getElem hj)) (h1 j _ b (List.getElem?_eq_getElem hj) hb)
    · have : i = j := by omega
      subst this
      exact h1 i a b ha hb

/-- The visible version of a key at a Seq. -/
def visF (key : ByteArray) (seq : Int) (e : Ent) : Bool := decide (e.key = key) && decide (e.seq ≤ seq)
def findE (l : List Ent) (key : ByteArray) (seq : Int) : Option Ent := l.find? (visF key seq)
/-- Is a key in a span? -/
def inS (fr to_ : ByteArray) (key : ByteArray) : Bool := !klt key fr && (to_.toList.isEmpty || klt key to_)
/-- What is visible in a span; last: the key of the last one that was told. -/
def visA (fr to_ : ByteArray) (seq : Int) : Option ByteArray → List Ent → List Ent
  | _, [] => []
  | last, e :: r => if inS fr to_ e.key = true ∧ e.seq ≤ seq ∧ last ≠ some e.key then e :: visA fr to_ seq (some e.key) r else visA fr to_ seq last r
def visE (fr to_ : ByteArray) (seq : Int) (l : List Ent) : List Ent := visA fr to_ seq none l
/-- The key of the last one. -/
def lastK (l : List Ent) : Option ByteArray := l.getLast?.map Ent.key
theorem lastK_app (l : List Ent) (e : Ent) : lastK (l ++ [e]) = some e.key := by simp [lastK]
theorem visA_yes {fr to_ : ByteArray} {seq : Int} {last : Option ByteArray} {e : Ent} {r : List Ent} (h : inS fr to_ e.key = true ∧ e.seq ≤ seq ∧ last ≠ some e.key) : visA fr to_ seq last (e :: r) = e :: visA fr to_ seq (some e.key) r := by rw [visA, if_pos h]
theorem visA_no {fr to_ : ByteArray} {seq : Int} {last : Option ByteArray} {e : Ent} {r : List Ent} (h : ¬ (inS fr to_ e.key = true ∧ e.seq ≤ seq ∧ last ≠ some e.key)) : visA fr to_ seq last (e :: r) = visA fr to_ seq last r := by rw [visA, if_neg h]
theorem visA_len (fr to_ : ByteArray) (seq : Int) : ∀ (last : Option ByteArray) (l : List Ent), (visA fr to_ seq last l).length ≤ l.length
  | _, [] => Nat.le_refl _
  | last, e :: r => by
    rw [visA]
    split
    · simp only [List.length_cons]; have := visA_len fr to_ seq (some e.key) r; omega
    · simp only [List.length_cons]; have := visA_len fr to_ seq last r; omega
theorem visE_len (fr to_ : ByteArray) (seq : Int) (l : List Ent) : (visE fr to_ seq l).length ≤ l.length := visA_len _ _ _ _ _
theorem drop_at {α : Type} {l : List α} {i : Nat} {x : α} (h : l[i]? = some x) : l.drop i = x :: l.drop (i + 1) := by
  have hi := (List.getElem?_eq_some_iff.1 h).1
  rw [List.drop_eq_getElem_cons hi]
  congr 1
  exact (List.getElem?_eq_some_iff.1 h).2

/-- The first place of a list in order that is not ahead of a goal. -/
def plcE (l : List Ent) (g : Ent) : Nat := (l.takeWhile (fun e => ltE e g)).length
theorem plcE_le (l : List Ent) (g : Ent) : plcE l g ≤ l.length := List.Sublist.length_le (List.takeWhile_sublist _)
theorem plcE_eq {l : List Ent} {g : Ent} {p : Nat} (hp : p ≤ l.length) (h1 : ∀ i e, i < p → l[i]? = some e → ltE e g = true) (h2 : ∀ e, l[p]? = some e → ltE e g = false) : plcE l g = p := by
  unfold plcE
  induction l generalizing p with
  | nil => simp at hp; subst hp; rfl
  | cons x r ih =>
    cases p with
    | zero =>
      have := h2 x rfl
      simp [List.takeWhile_cons, this]
    | succ p =>
      have hx := h1 0 x (by omega) rfl
      rw [List.takeWhile_cons, if_pos hx, List.length_cons]
      have := ih (p := p) (by simpa using hp) (fun i e hi he => h1 (i + 1) e (by omega) (by simpa using he)) (fun e he => h2 e (by simpa using he))
      omega
theorem plcE_lt {l : List Ent} {g : Ent} {i : Nat} {e : Ent} (hi : i < plcE l g) (he : l[i]? = some e) : ltE e g = true := by
  unfold plcE at hi
  induction l generalizing i with
  | nil => simp at he
  | cons x r ih =>
    rw [List.takeWhile_cons] at hi
    split at hi
    · rename_i hx
      cases i with
      | zero =>
        have : x = e := by simpa using he
        rw [← this]
        exact hx
      | succ i => exact ih (i := i) (by simpa using hi) (by simpa using he)
    · simp at hi
theorem plcE_at {l : List Ent} {g : Ent} {e : Ent} (he : l[plcE l g]? = some e) : ltE e g = false := by
  unfold plcE at he
  induction l with
  | nil => simp at he
  | cons x r ih =>
    rw [List.takeWhile_cons] at he
    cases hx : ltE x g
    · rw [hx] at he
      have : x = e := by simpa using he
      rw [← this]
      exact hx
    · rw [hx] at he
      exact ih (by simpa using he)
/-- Of a list in order, the visible version stands at the place of (key, seq), if anywhere. -/
theorem find_plc {l : List Ent} (h : risE l = true) (key : ByteArray) (seq : Int) : findE l key seq = (l[plcE l ⟨key, zB, seq, false⟩]?).bind (fun e => if e.key = key then some e else none) := by
  generalize hg : (⟨key, zB, seq, false⟩ : Ent) = g
  have gk : g.key = key := by rw [← hg]
  have gs : g.seq = seq := by rw [← hg]
  have hbefore : ∀ i e, i < plcE l g → l[i]? = some e → visF key seq e = false := fun i e hi he => by
    have := plcE_lt hi he
    unfold ltE at this
    unfold visF
    simp only [Bool.or_eq_true, Bool.and_eq_true, decide_eq_true_eq] at this
    simp only [Bool.and_eq_false_iff, decide_eq_false_iff_not]
    rcases this with h1 | ⟨h1, h2⟩
    · left; intro e1
      rw [e1, gk, klt_irr] at h1
      cases h1
    · right; omega
  have hafter : ∀ i e, plcE l g ≤ i → l[i]? = some e → ltE e g = false := fun i e hi he => by
    rcases Nat.lt_or_ge (plcE l g) i with h1 | h1
    · have hp : plcE l g < l.length := by have := (List.getElem?_eq_some_iff.1 he).1; omega
      have h2 := risE_pw h _ i _ e h1 (List.getElem?_eq_getElem hp) he
      have h3 := plcE_at (List.getElem?_eq_getElem hp)
      cases h4 : ltE e g
      · rfl
      · rw [ltE_tr h2 h4] at h3
        cases h3
    · have : i = plcE l g := by omega
      subst this
      exact plcE_at he
  unfold findE
  have hsplit : l = l.take (plcE l g) ++ l.drop (plcE l g) := (List.take_append_drop _ _).symm
  have h0 : (l.take (plcE l g)).find? (visF key seq) = none := by
    rw [List.find?_eq_none]
    intro x hx
    obtain ⟨i, hi⟩ := List.mem_iff_getElem?.1 hx
    rw [List.getElem?_take] at hi
    split at hi
    · rename_i h1
      rw [hbefore i x h1 hi]
      simp
    · cases hi
  conv => lhs; rw [hsplit, List.find?_append, h0, Option.none_or]
  cases he : l[plcE l g]? with
  | none =>
    rw [List.drop_eq_nil_of_le (List.getElem?_eq_none_iff.1 he)]
    rfl
  | some x =>
    rw [drop_at he, List.find?_cons, Option.bind_some]
    have hx := plcE_at he
    by_cases hk : x.key = key
    · have : visF key seq x = true := by
        unfold visF
        unfold ltE at hx
        simp only [Bool.or_eq_false_iff, Bool.and_eq_false_iff, decide_eq_false_iff_not] at hx
        simp only [Bool.and_eq_true, decide_eq_true_eq]
        refine ⟨hk, ?_⟩
        rcases hx.2 with h1 | h1
        · exact absurd (hk.trans gk.symm) h1
        · omega
      rw [this, if_pos hk]
    · have h1 : visF key seq x = false := by simp [visF, hk]
      rw [h1, if_neg hk]
      show (l.drop (plcE l g + 1)).find? (visF key seq) = none
      rw [List.find?_eq_none]
      intro y hy
      obtain ⟨i, hi⟩ := List.mem_iff_getElem?.1 hy
      rw [List.getElem?_drop] at hi
      have h2 := risE_pw h (plcE l g) (plcE l g + 1 + i) x y (by omega) he hi
      -- x is not ahead of g by key, and x ahead of y
      intro h3
      have hyk : y.key = key := by
        unfold visF at h3
        simp only [Bool.and_eq_true, decide_eq_true_eq] at h3
        exact h3.1
      unfold ltE at h2 hx
      simp only [Bool.or_eq_true, Bool.and_eq_true, decide_eq_true_eq] at h2
      simp only [Bool.or_eq_false_iff, Bool.and_eq_false_iff, decide_eq_false_iff_not] at hx
      rcases h2 with h2 | ⟨h2, _⟩
      · rw [hyk, ← gk] at h2
        rw [h2] at hx
        exact absurd hx.1 (by decide)
      · exact hk (h2.trans hyk)
end Go.Proofs.Ytdmpimgbnhgiaaa
