/- Plain model of chapter 24: cells, intents, what is met of them. -/
import Derived.Test.YtgikaglmeeeplaaPa
namespace Go.Proofs.Ytgikaglmeeeplaa
open Go.RowKit Go.St
set_option linter.unusedVariables false
set_option linter.unusedSimpArgs false

structure Cel where
  key : ByteArray
  at_ : Stp
  val : ByteArray
  del : Bool
deriving DecidableEq
def Cel.c (c : Cel) : List Value := [.string c.key, .int .i64 c.at_.wall, .int .i32 c.at_.logic, .int .i32 c.at_.tag, .string c.val, .bool c.del]
def Cel.v (c : Cel) : Value := .agg #[.string c.key, .int .i64 c.at_.wall, .int .i32 c.at_.logic, .int .i32 c.at_.tag, .string c.val, .bool c.del]
structure Itt where
  key : ByteArray
  nd : Int
  nu : Int
  bg : Stp
  anc : ByteArray
  at_ : Stp
  val : ByteArray
  del : Bool
deriving DecidableEq
def Itt.c (c : Itt) : List Value := [.string c.key, .int .i32 c.nd, .int .i32 c.nu, .int .i64 c.bg.wall, .int .i32 c.bg.logic, .int .i32 c.bg.tag, .string c.anc, .int .i64 c.at_.wall, .int .i32 c.at_.logic, .int .i32 c.at_.tag, .string c.val, .bool c.del]
def Itt.v (c : Itt) : Value := .agg #[.string c.key, .int .i32 c.nd, .int .i32 c.nu, .int .i64 c.bg.wall, .int .i32 c.bg.logic, .int .i32 c.bg.tag, .string c.anc, .int .i64 c.at_.wall, .int .i32 c.at_.logic, .int .i32 c.at_.tag, .string c.val, .bool c.del]
/-- Lists as cells. -/
def cev (l : List Cel) : List Value := (l.map Cel.c).flatten
def itv (l : List Itt) : List Value := (l.map Itt.c).flatten
def kvv (l : List (ByteArray × ByteArray)) : List Value := (l.map fun p => [Value.string p.1, Value.string p.2]).flatten
theorem cev_app (a b : List Cel) : cev (a ++ b) = cev a ++ cev b := by simp [cev]
theorem itv_app (a b : List Itt) : itv (a ++ b) = itv a ++ itv b := by simp [itv]
theorem kvv_app (a b : List (ByteArray × ByteArray)) : kvv (a ++ b) = kvv a ++ kvv b := by simp [kvv]
theorem cev_len (l : List Cel) : (cev l).length = l.length * 6 := by
  induction l with
  | nil => rfl
  | cons x r ih =>
    show (x.c ++ cev r).length = (r.length + 1) * 6
    rw [List.length_append, ih]
    show 6 + r.length * 6 = _
    omega
theorem itv_len (l : List Itt) : (itv l).length = l.length * 12 := by
  induction l with
  | nil => rfl
  | cons x r ih =>
    show (x.c ++ itv r).length = (r.length + 1) * 12
    rw [List.length_append, ih]
    show 12 + r.length * 12 = _
    omega
theorem kvv_len (l : List (ByteArray × ByteArray)) : (kvv l).length = l.length * 2 := by
  induction l with
  | nil => rfl
  | cons x r ih =>
    show ([Value.string x.1, Value.string x.2] ++ kvv r).length = (r.length + 1) * 2
    rw [List.length_append, ih]
    show 2 + r.length * 2 = _
    omega
theorem cev_get {l : List Cel} {i : Nat} {c : Cel} (h : l[i]? = some c) (j : Nat) (v : Value) (hj : c.c[j]? = some v) : (cev l)[i * 6 + j]? = some v := by
  induction l generalizing i with
  | nil => simp at h
  | cons x r ih =>
    cases i with
    | zero =>
      have e : x = c := by simpa using h
      subst e
      simp only [cev, List.map_cons, List.flatten_cons]
      rw [List.getElem?_append_left (by rw [Nat.zero_mul, Nat.zero_add]; exact (List.getElem?_eq_some_iff.1 hj).1), Nat.zero_mul, Nat.zero_add]
      exact hj
    | succ i =>
      simp only [cev, List.map_cons, List.flatten_cons]
      rw [List.getElem?_append_right (by simp [Cel.c]; omega), show (i + 1) * 6 + j - x.c.length = i * 6 + j by simp [Cel.c]; omega]
      exact ih (by simpa using h)
theorem itv_get {l : List Itt} {i : Nat} {c : Itt} (h : l[i]? = some c) (j : Nat) (v : Value) (hj : c.c[j]? = some v) : (itv l)[i * 12 + j]? = some v := by
  induction l generalizing i with
  | nil => simp at h
  | cons x r ih =>
    cases i with
    | zero =>
      have e : x = c := by simpa using h
      subst e
      simp only [itv, List.map_cons, List.flatten_cons]
      rw [List.getElem?_append_left (by rw [Nat.zero_mul, Nat.zero_add]; exact (List.getElem?_eq_some_iff.1 hj).1), Nat.zero_mul, Nat.zero_add]
      exact hj
    | succ i =>
      simp only [itv, List.map_cons, List.flatten_cons]
      rw [List.getElem?_append_right (by simp [Itt.c]; omega), show (i + 1) * 12 + j - x.c.length = i * 12 + j by simp [Itt.c]; omega]
      exact ih (by simpa using h)
theorem kvv_get {l : List (ByteArray × ByteArray)} {i : Nat} {c : ByteArray × ByteArray} (h : l[i]? = some c) : (kvv l)[i * 2]? = some (.string c.1) ∧ (kvv l)[i * 2 + 1]? = some (.string c.2) := by
  induction l generalizing i with
  | nil => simp at h
  | cons x r ih =>
    cases i with
    | zero =>
      have e : x = c := by simpa using h
      subst e
      exact ⟨rfl, rfl⟩
    | succ i =>
      have := ih (i := i) (by simpa using h)
      simp only [kvv, List.map_cons, List.flatten_cons] at *
      rw [List.getElem?_append_right (by simp; omega), List.getElem?_append_right (by simp; omega), show (i + 1) * 2 - [Value.string x.1, Value.string x.2].length = i * 2 by simp; omega, show (i + 1) * 2 + 1 - [Value.string x.1, Value.string x.2].length = i * 2 + 1 by simp; omega]
      exact this

def usr (k : ByteArray) : Bool := decide (1 ≤ k.size ∧ k.size ≤ 128)
def hld (v : ByteArray) (d : Bool) : Bool := decide (v.size ≤ 2048) && (!d || v.toList.isEmpty)
def okC (c : Cel) : Bool := usr c.key && hld c.val c.del && okS c.at_
def okI (i : Itt) : Bool := decide (¬ tagBad i.nd i.nu) && usr i.key && usr i.anc && hld i.val i.del && okS i.bg && okS i.at_ && decide (i.at_.tag = tagV i.nd i.nu)
def chkC (c : Cel) : Int := if okC c then 0 else 2
def chkI (c : Itt) : Int := if okI c then 0 else 2
/-- Is a cell ahead of another one? -/
def ltC (a b : Cel) : Bool := klt a.key b.key || (decide (a.key = b.key) && less b.at_ a.at_)
def ltI (a b : Itt) : Bool := klt a.key b.key
def risC (l : List Cel) : Prop := ∀ j a b, l[j]? = some a → l[j + 1]? = some b → ltC a b = true
def risI (l : List Itt) : Prop := ∀ j a b, l[j]? = some a → l[j + 1]? = some b → ltI a b = true
def okCI (cs : List Cel) (is : List Itt) : Prop := (∀ c ∈ cs, okC c = true) ∧ (∀ i ∈ is, okI i = true) ∧ risC cs ∧ risI is
def risB {α : Type} (lt : α → α → Bool) (l : List α) : Bool := (List.range (l.length - 1)).all (fun j => match l[j]?, l[j + 1]? with | some a, some b => lt a b | _, _ => true)
theorem ris_iff {α : Type} (l : List α) (lt : α → α → Bool) : risB lt l = true ↔ ∀ j a b, l[j]? = some a → l[j + 1]? = some b → lt a b = true := by
  unfold risB
  rw [List.all_eq_true]
  constructor
  · intro h j a b ha hb
    have hj : j + 1 < l.length := (List.getElem?_eq_some_iff.1 hb).1
    have := h j (List.mem_range.2 (by omega))
    rw [ha, hb] at this
    exact this
  · intro h j hj
    cases ha : l[j]? with
    | none => rfl
    | some a =>
      cases hb : l[j + 1]? with
      | none => rfl
      | some b => exact h j a b ha hb
def chkCI (cs : List Cel) (is : List Itt) : Int := if cs.all okC && is.all okI then (if risB ltC cs && risB ltI is then 0 else 10) else 2
theorem chkCI_or (cs : List Cel) (is : List Itt) : chkCI cs is = 0 ∨ chkCI cs is = 2 ∨ chkCI cs is = 10 := by
  unfold chkCI
  split
  · split
    · exact .inl rfl
    · exact .inr (.inr rfl)
  · exact .inr (.inl rfl)
theorem chkCI_two {cs : List Cel} {is : List Itt} (h : ¬ ((∀ c ∈ cs, okC c = true) ∧ ∀ i ∈ is, okI i = true)) : chkCI cs is = 2 := by
  unfold chkCI
  rw [if_neg (by rw [Bool.and_eq_true, List.all_eq_true, List.all_eq_true]; exact h)]
theorem chkCI_ten {cs : List Cel} {is : List Itt} (h : (∀ c ∈ cs, okC c = true) ∧ ∀ i ∈ is, okI i = true) (k : ¬ (risC cs ∧ risI is)) : chkCI cs is = 10 := by
  unfold chkCI
  rw [if_pos (by rw [Bool.and_eq_true, List.all_eq_true, List.all_eq_true]; exact h), if_neg (by rw [Bool.and_eq_true, ris_iff, ris_iff]; exact k)]
theorem chkCI_yes {cs : List Cel} {is : List Itt} (h : (∀ c ∈ cs, okC c = true) ∧ ∀ i ∈ is, okI i = true) (k : risC cs ∧ risI is) : chkCI cs is = 0 := by
  unfold chkCI
  rw [if_pos (by rw [Bool.and_eq_true, List.all_eq_true, List.all_eq_true]; exact h), if_pos (by rw [Bool.and_eq_true, ris_iff, ris_iff]; exact k)]
theorem chkCI_ok {cs : List Cel} {is : List Itt} : chkCI cs is = 0 ↔ okCI cs is := by
  constructor
  · intro e
    by_cases h : (∀ c ∈ cs, okC c = true) ∧ ∀ i ∈ is, okI i = true
    · by_cases k : risC cs ∧ risI is
      · exact ⟨h.1, h.2, k.1, k.2⟩
      · rw [chkCI_ten h k] at e
        cases e
    · rw [chkCI_two h] at e
      cases e
  · intro h
    exact chkCI_yes ⟨h.1, h.2.1⟩ h.2.2

/-- What a read meets: intents of others that it has to heed. -/
def le (a b : Stp) : Bool := !less b a
def heedF (at_ limit : Stp) (by_ : Int × Int) (kn : List (Int × Int)) (i : Itt) : Bool := !decide ((i.nd, i.nu) = by_) && (le i.at_ at_ || (le i.at_ limit && !decide ((i.nd, i.nu) ∈ kn)))
def heed (is : List Itt) (at_ limit : Stp) (by_ : Int × Int) (kn : List (Int × Int)) : List Itt := is.filter (heedF at_ limit by_ kn)
/-- The greatest stamp of a cell between two stamps. -/
def btw (fr to_ : Stp) (c : Cel) : Bool := less fr c.at_ && le c.at_ to_
def late (cs : List Cel) (fr to_ : Stp) : Stp := (cs.filter (btw fr to_)).foldl (fun b c => maxS b c.at_) zeroS
/-- The keys that have a value at a stamp; key: the last one that was settled. -/
def rowsA (at_ : Stp) : ByteArray → List Cel → List (ByteArray × ByteArray)
  | _, [] => []
  | k, c :: r => if c.key ≠ k ∧ le c.at_ at_ = true then (if c.del then [] else [(c.key, c.val)]) ++ rowsA at_ c.key r else rowsA at_ k r
def rowsL (cs : List Cel) (at_ : Stp) : List (ByteArray × ByteArray) := rowsA at_ zE cs
/-- The cells that no read sees from a threshold on. -/
def goneA (thr : Stp) : ByteArray → List Cel → List Cel
  | _, [] => []
  | k, c :: r => if le c.at_ thr = true then (if c.key = k ∨ c.del = true then [c] else []) ++ goneA thr c.key r else goneA thr k r
def goneL (cs : List Cel) (thr : Stp) : List Cel := goneA thr zE cs
end Go.Proofs.Ytgikaglmeeeplaa
