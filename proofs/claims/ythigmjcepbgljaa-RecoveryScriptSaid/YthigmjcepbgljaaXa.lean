/- Plain law: in whatever order a work gets its answers. -/
import Derived.Test.YthigmjcepbgljaaWd
import Derived.Test.YthigmjcepbgljaaWf
namespace Go.Proofs.Ythigmjcepbgljaa
open Go.RowKit Go.St
set_option linter.unusedVariables false

theorem klt_iff (a b : ByteArray) : klt a b = true ↔ a.toList < b.toList := by
  unfold klt
  rw [bytesLess_eq]
  exact decide_eq_true_iff
theorem rise_step {l : List ByteArray} (h : riseB l = true) {i : Nat} (hi : i + 1 < l.length) : l[i].toList < l[i + 1].toList := by
  unfold riseB riseU at h
  rw [List.all_eq_true] at h
  have h1 := h (i + 1) (List.mem_range.2 hi)
  unfold riseAt at h1
  simp only [Bool.and_eq_true, Bool.or_eq_true] at h1
  rcases h1.2 with h2 | h2
  · simp at h2
  · rw [getD_at hi] at h2
    have : i + 1 - 1 = i := by omega
    rw [this, getD_at (by omega)] at h2
    exact (klt_iff _ _).1 h2
theorem rise_lt {l : List ByteArray} (h : riseB l = true) {i : Nat} : ∀ {j : Nat} (hij : i < j) (hj : j < l.length), l[i].toList < l[j].toList := by
  intro j
  induction j with
  | zero => intro hij; omega
  | succ j ih =>
    intro hij hj
    have h1 := rise_step h hj
    rcases Nat.lt_or_ge i j with h2 | h2
    · exact List.lt_trans (ih h2 (by omega)) h1
    · obtain rfl : i = j := by omega
      exact h1
theorem rise_inj {l : List ByteArray} (h : riseB l = true) {i j : Nat} (hi : i < l.length) (hj : j < l.length) (e : l[i] = l[j]) : i = j := by
  rcases Nat.lt_trichotomy i j with h1 | h1 | h1
  · have := rise_lt h h1 hj; rw [e] at this; exact absurd this (List.lt_irrefl _)
  · exact h1
  · have := rise_lt h h1 hi; rw [e] at this; exact absurd this (List.lt_irrefl _)

/-- Whether the i-th key's answer is yes. -/
def yv (th : List Bool) (i : Nat) : Bool := th.getD i true
def vv (th : List Bool) (i : Nat) : Int := if yv th i then 1 else 2
def okA (th : List Bool) (ans : List Int) : Prop := ∀ (i : Nat) (v : Int), ans[i]? = some v → v = 0 ∨ v = vv th i
def cnt0 : List Int → Nat
  | [] => 0
  | x :: l => (if x = 0 then 1 else 0) + cnt0 l
theorem cnt0_rep (n : Nat) : cnt0 (List.replicate n 0) = n := by
  induction n with
  | zero => rfl
  | succ n ih => rw [List.replicate_succ, cnt0, ih]; simp; omega
theorem cnt0_set : ∀ (l : List Int) (i : Nat) (v : Int), l[i]? = some 0 → v ≠ 0 → cnt0 (l.set i v) + 1 = cnt0 l := by
  intro l
  induction l with
  | nil => intro i v h; simp at h
  | cons x l ih =>
    intro i v h hv
    cases i with
    | zero =>
      simp at h
      subst h
      simp [cnt0, hv]; omega
    | succ i =>
      simp at h
      have := ih i v h hv
      rw [List.set_cons_succ, cnt0, cnt0]
      omega
theorem cnt0_zero : ∀ (l : List Int), cnt0 l = 0 → any0 l = false := by
  intro l
  induction l with
  | nil => intro _; rfl
  | cons x l ih =>
    intro h
    rw [cnt0] at h
    have hx : x ≠ 0 := fun e => by rw [if_pos e] at h; omega
    have := ih (by omega)
    unfold any0 at *
    rw [List.any_cons, this]
    simp [nmIs]
    exact fun e => hx e.symm
theorem okA_set {th : List Bool} {ans : List Int} (h : okA th ans) (i : Nat) : okA th (ans.set i (vv th i)) := by
  intro j v hj
  rw [List.getElem?_set] at hj
  by_cases e : i = j
  · subst e
    rw [if_pos rfl] at hj
    split at hj
    · injection hj with hj; exact .inr hj.symm
    · cases hj
  · rw [if_neg e] at hj; exact h j v hj
theorem okA_rep (th : List Bool) (n : Nat) : okA th (List.replicate n 0) := by
  intro i v h
  rw [List.getElem?_replicate] at h
  split at h
  · injection h with h; exact .inl h.symm
  · cases h
/-- What is wanted stands among the keys, without an answer. -/
theorem want_at {l : List ByteArray} {ans : List Int} (hl : ans.length ≤ l.length) {s : ByteArray} (h : s ∈ wantF l ans) : ∃ i, i < ans.length ∧ (∃ hi : i < l.length, l[i] = s) ∧ ans[i]? = some 0 := by
  unfold wantF at h
  split at h
  · cases h
  · unfold wantU at h
    obtain ⟨i, hi, he⟩ := List.mem_filterMap.1 h
    have hi := List.mem_range.1 hi
    unfold wantAt at he
    split at he
    · rename_i h0
      injection he with he
      refine ⟨i, hi, ⟨by omega, by rw [← he, getD_at (by omega)]⟩, ?_⟩
      rw [getD_int hi] at h0
      rw [List.getElem?_eq_getElem hi, h0]
    · cases he
theorem want_none {l : List ByteArray} {ans : List Int} (hl : ans.length ≤ l.length) (h : wantF l ans = []) : doneB ans = true := by
  unfold wantF at h
  split at h
  · assumption
  · rename_i hd
    have hd : doneB ans = false := by simpa using hd
    have h0 : any0 ans = true := by
      unfold doneB at hd
      cases h2 : any0 ans
      · rw [h2] at hd; simp at hd
      · rfl
    unfold any0 at h0
    obtain ⟨x, hx, e⟩ := List.any_eq_true.1 h0
    obtain ⟨i, hi, he⟩ := List.getElem_of_mem hx
    have hx0 : ans[i] = 0 := by
      rw [he]; unfold nmIs at e; exact (by simpa using e : _ = x).symm
    have : l.getD i zE ∈ wantU l ans ans.length := by
      unfold wantU
      refine List.mem_filterMap.2 ⟨i, List.mem_range.2 hi, ?_⟩
      unfold wantAt
      rw [getD_int hi, if_pos hx0]
    rw [h] at this
    cases this
theorem tyIs_iff (k s : ByteArray) : tyIs k s = true ↔ k = s := by
  unfold tyIs
  rw [beq_iff_eq]
  exact ⟨toList_inj, fun e => by rw [e]⟩
theorem got_at {l : List ByteArray} (hr : riseB l = true) {ans : List Int} {i : Nat} (hi : i < l.length) (hw : l[i] ∈ wantF l ans) (yes : Bool) : gotE l ans l[i] = 0 ∧ gotA l ans l[i] yes = ans.set i (if yes then 1 else 2) := by
  have hq : gotQ l ans l[i] = true := List.any_eq_true.2 ⟨l[i], hw, (tyIs_iff _ _).2 rfl⟩
  have hf : l.findIdx (tyIs l[i]) = i := by
    rw [List.findIdx_eq hi]
    refine ⟨(tyIs_iff _ _).2 rfl, fun j hj => ?_⟩
    cases h : tyIs l[i] l[j]
    · rfl
    · have := rise_inj hr hi (by omega) ((tyIs_iff _ _).1 h)
      omega
  unfold gotE gotA
  rw [hq, hf]
  exact ⟨rfl, rfl⟩
def allY (th : List Bool) (n : Nat) : Bool := (List.range n).all (yv th)
theorem allY_succ (th : List Bool) (n : Nat) : allY th (n + 1) = (allY th n && yv th n) := by
  unfold allY; rw [List.range_succ, List.all_append]; simp
def yes_ (th : List Bool) (n : Nat) : List Bool := (List.range n).map (yv th)
theorem yes_length (th : List Bool) (n : Nat) : (yes_ th n).length = n := by simp [yes_]
theorem yes_get (th : List Bool) (n i : Nat) (h : i < n) : (yes_ th n)[i]? = some (yv th i) := by simp [yes_, h]
theorem yes_any (th : List Bool) (n : Nat) : (yes_ th n).any (blIs false) = !allY th n := by
  unfold yes_ allY
  rw [List.any_map, ← Bool.not_not ((List.range n).any _), List.not_any_eq_all_not]
  congr 1
  congr 1
  funext i
  simp [blIs]
theorem whole_all {th : List Bool} {ans : List Int} (h : okA th ans) (hd : doneB ans = true) : wholeB ans = allY th ans.length := by
  unfold wholeB
  unfold doneB at hd
  cases h2 : any2 ans
  · rw [h2] at hd
    have h0 : any0 ans = false := by simpa using hd
    rw [h0]
    symm
    show allY th ans.length = true
    unfold allY
    rw [List.all_eq_true]
    intro i hi
    have hi := List.mem_range.1 hi
    have h0i := List.any_eq_false.1 h0 ans[i] (List.getElem_mem hi)
    have h2i := List.any_eq_false.1 h2 ans[i] (List.getElem_mem hi)
    unfold nmIs at h0i h2i
    rcases h i ans[i] (by simp [hi]) with h3 | h3
    · rw [h3] at h0i; simp at h0i
    · unfold vv at h3
      cases hy : yv th i
      · rw [hy] at h3
        simp at h3
        rw [h3] at h2i
        simp at h2i
      · rfl
  · symm
    show allY th ans.length = false
    unfold any2 at h2
    obtain ⟨x, hx, e⟩ := List.any_eq_true.1 h2
    obtain ⟨i, hi, he⟩ := List.getElem_of_mem hx
    have hx2 : ans[i] = 2 := by
      rw [he]; unfold nmIs at e; exact (by simpa using e : _ = x).symm
    unfold allY
    rw [List.all_eq_false]
    refine ⟨i, List.mem_range.2 hi, ?_⟩
    rcases h i ans[i] (by simp [hi]) with h3 | h3
    · omega
    · rw [hx2] at h3
      unfold vv at h3
      intro hy
      rw [hy] at h3
      simp at h3
theorem chk_end {r : Rec} (h : chkR r = 0) (h2 : r.st = 2) : chkR (endR r 3 r.at_ r.n r.l) = 0 ∧ chkR (overO r) = 0 := by
  have hn := (chkR_st' h).2
  unfold chkR at h
  rw [if_neg (by omega)] at h
  have ho : okR r = true := by
    cases e : okR r
    · rw [e] at h; cases h
    · rfl
  unfold okR at ho
  rw [h2] at ho
  simp at ho
  constructor
  · unfold chkR
    rw [if_neg (by show ¬ 24 < r.n; omega)]
    have : okR (endR r 3 r.at_ r.n r.l) = true := by unfold okR endR; simp [ho]
    rw [this]; rfl
  · unfold chkR
    rw [if_neg (by show ¬ 24 < 0; omega)]
    have : okR (overO r) = true := by unfold okR overO endR; simp [ho]
    rw [this]; rfl
theorem chk_rise {r : Rec} (h : chkR r = 0) (h2 : r.st = 2) : riseB r.l = true := by
  have hn := (chkR_st' h).2
  unfold chkR at h
  rw [if_neg (by omega)] at h
  have ho : okR r = true := by
    cases e : okR r
    · rw [e] at h; cases h
    · rfl
  unfold okR at ho
  rw [h2] at ho
  simp at ho
  exact ho.2.2
end Go.Proofs.Ythigmjcepbgljaa
