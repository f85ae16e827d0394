/- Walks: a record's tag, its keys, whether it may be. -/
import Derived.Test.YtgikaglmeeeplaaHa
import Derived.Sort.Walk0
namespace Go.Proofs.Ytgikaglmeeeplaa
open Go.RowKit Go.St
set_option linter.unusedVariables false
set_option linter.unusedSimpArgs false
set_option maxRecDepth 100000

def sv (l : List ByteArray) : List Value := l.map Value.string
theorem sv_get (l : List ByteArray) (i : Nat) (h : i < l.length) : (sv l)[i]? = some (.string l[i]) := by simp [sv, h]
theorem sv_length (l : List ByteArray) : (sv l).length = l.length := by simp [sv]
def zE : ByteArray := ⟨#[]⟩
def klt (a b : ByteArray) : Bool := Op.bytesLess a.toList b.toList
theorem toList_inj {a b : ByteArray} (h : a.toList = b.toList) : a = b := by
  rw [Lib.toList_data, Lib.toList_data] at h
  cases a with
  | mk a => cases b with
    | mk b => exact congrArg ByteArray.mk (Array.toList_inj.1 h)
theorem klt_nle (a b : ByteArray) : (klt a b) = !(Op.bytesLess b.toList a.toList || b.toList == a.toList) := by
  unfold klt
  rw [bytesLess_eq, bytesLess_eq]
  by_cases h : a.toList < b.toList
  · rw [decide_eq_true h, decide_eq_false (List.lt_asymm h)]
    have : b.toList ≠ a.toList := fun e => by rw [e] at h; exact List.lt_irrefl _ h
    simp [this]
  · rw [decide_eq_false h]
    by_cases h2 : b.toList < a.toList
    · rw [decide_eq_true h2]; rfl
    · have : b.toList = a.toList := List.le_antisymm h h2
      simp [this]
theorem bel_dn {B : Nat} {a w : World} (h : Below B a w) (n : Nat) : Below B a (w.drewN n) := ⟨h.os, h.tape, h.output, h.size, h.block⟩

def tagBad (nd nu : Int) : Prop := nd < 0 ∨ 7 ≤ nd ∨ nu < 1 ∨ 100000 < nu
instance (nd nu : Int) : Decidable (tagBad nd nu) := by unfold tagBad; infer_instance
def tagV (nd nu : Int) : Int := if tagBad nd nu then 0 else nu * 8 + nd
def tagE (nd nu : Int) : Int := if tagBad nd nu then 2 else 0

set_option maxHeartbeats 800000 in
theorem tag_any (nd nu : Int) (w : World) : Calls Try.prog 57 #[.agg #[.int .i32 nd, .int .i32 nu]] w fun e w' => e = .returned (.tuple #[.int .i32 (tagV nd nu), .int .i64 (tagE nd nu)]) ∧ Below w.heap.size w w' := by
  by_cases h : tagBad nd nu
  · have e1 : tagV nd nu = 0 := by unfold tagV; rw [if_pos h]
    have e2 : tagE nd nu = 2 := by unfold tagE; rw [if_pos h]
    rw [e1, e2]
    clear e1 e2
    unfold tagBad at h
    by_cases h1 : nd < 0
    · clear h
      go_enter Try.func57, Try.ntmps57
      go_wp2
      go_ret2
      exact ⟨rfl, (Below.refl _ _).alloc (Nat.le_refl _) _⟩
    by_cases h2 : 7 ≤ nd
    · clear h
      go_enter Try.func57, Try.ntmps57
      go_wp2
      go_ret2
      exact ⟨rfl, (Below.refl _ _).alloc (Nat.le_refl _) _⟩
    by_cases h3 : nu < 1
    · clear h
      go_enter Try.func57, Try.ntmps57
      go_wp2
      go_ret2
      exact ⟨rfl, (Below.refl _ _).alloc (Nat.le_refl _) _⟩
    · have h4 : 100000 < nu := by omega
      clear h
      go_enter Try.func57, Try.ntmps57
      go_wp2
      go_ret2
      exact ⟨rfl, (Below.refl _ _).alloc (Nat.le_refl _) _⟩
  · have e1 : tagV nd nu = nu * 8 + nd := by unfold tagV; rw [if_neg h]
    have e2 : tagE nd nu = 0 := by unfold tagE; rw [if_neg h]
    rw [e1, e2]
    clear e1 e2
    unfold tagBad at h
    have h1 : ¬ nd < 0 := by omega
    have h2 : ¬ 7 ≤ nd := by omega
    have h3 : ¬ nu < 1 := by omega
    have h4 : ¬ 100000 < nu := by omega
    clear h
    go_enter Try.func57, Try.ntmps57
    go_wp2
    go_ret2
    exact ⟨rfl, (Below.refl _ _).alloc (Nat.le_refl _) _⟩
set_option maxHeartbeats 800000 in
theorem rtag_any (nd nu : Int) (w : World) : Calls Try.prog 61 #[.agg #[.int .i32 nd, .int .i32 nu]] w fun e w' => e = .returned (.tuple #[.int .i32 (tagV nd nu), .int .i64 (tagE nd nu)]) ∧ Below w.heap.size w w' := by
  by_cases h : tagBad nd nu
  · have e1 : tagV nd nu = 0 := by unfold tagV; rw [if_pos h]
    have e2 : tagE nd nu = 2 := by unfold tagE; rw [if_pos h]
    rw [e1, e2]
    clear e1 e2
    unfold tagBad at h
    by_cases h1 : nd < 0
    · clear h
      go_enter Try.func61, Try.ntmps61
      go_wp2
      go_ret2
      exact ⟨rfl, (Below.refl _ _).alloc (Nat.le_refl _) _⟩
    by_cases h2 : 7 ≤ nd
    · clear h
      go_enter Try.func61, Try.ntmps61
      go_wp2
      go_ret2
      exact ⟨rfl, (Below.refl _ _).alloc (Nat.le_refl _) _⟩
    by_cases h3 : nu < 1
    · clear h
      go_enter Try.func61, Try.ntmps61
      go_wp2
      go_ret2
      exact ⟨rfl, (Below.refl _ _).alloc (Nat.le_refl _) _⟩
    · have h4 : 100000 < nu := by omega
      clear h
      go_enter Try.func61, Try.ntmps61
      go_wp2
      go_ret2
      exact ⟨rfl, (Below.refl _ _).alloc (Nat.le_refl _) _⟩
  · have e1 : tagV nd nu = nu * 8 + nd := by unfold tagV; rw [if_neg h]
    have e2 : tagE nd nu = 0 := by unfold tagE; rw [if_neg h]
    rw [e1, e2]
    clear e1 e2
    unfold tagBad at h
    have h1 : ¬ nd < 0 := by omega
    have h2 : ¬ 7 ≤ nd := by omega
    have h3 : ¬ nu < 1 := by omega
    have h4 : ¬ 100000 < nu := by omega
    clear h
    go_enter Try.func61, Try.ntmps61
    go_wp2
    go_ret2
    exact ⟨rfl, (Below.refl _ _).alloc (Nat.le_refl _) _⟩

/-- The first so many keys rise, none empty. -/
def riseAt (l : List ByteArray) (i : Nat) : Bool := !(l.getD i zE).toList.isEmpty && (i == 0 || klt (l.getD (i - 1) zE) (l.getD i zE))
def riseU (l : List ByteArray) (j : Nat) : Bool := (List.range j).all (riseAt l)
def riseB (l : List ByteArray) : Bool := riseU l l.length
theorem riseU_succ {l : List ByteArray} {j : Nat} (h : riseU l j = true) (k : riseAt l j = true) : riseU l (j + 1) = true := by
  unfold riseU at *; rw [List.range_succ, List.all_append, h]; simp [k]
theorem riseU_no {l : List ByteArray} {j n : Nat} (h : j < n) (k : riseAt l j = false) : riseU l n = false := by
  unfold riseU; rw [List.all_eq_false]; exact ⟨j, List.mem_range.2 h, by rw [k]; decide⟩
end Go.Proofs.Ytgikaglmeeeplaa
