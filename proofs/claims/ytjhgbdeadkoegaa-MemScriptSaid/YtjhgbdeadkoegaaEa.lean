/- Walks: whether an entry may be; whether an entry is ahead of another one. -/
import Derived.Test.YtjhgbdeadkoegaaEm
import Derived.Test.YtjhgbdeadkoegaaChecked
import Derived.Test.YtjhgbdeadkoegaaQTail
import Derived.Test.YtjhgbdeadkoegaaTail
import Derived.Test.YtjhgbdeadkoegaaBox
import Derived.WalkSpells
import Derived.Handy
import Derived.Lib.Hide
import Derived.BigQuiet
import Derived.LoopTactic
import Derived.Maps.OwnSet
namespace Go.Proofs.Ytjhgbdeadkoegaa
open Go.RowKit Go.St Go.Maps
set_option linter.unusedVariables false
set_option linter.unusedSimpArgs false
set_option maxRecDepth 100000

theorem empty_size (k : ByteArray) : k.toList.isEmpty = decide (k.size = 0) := by
  rw [Lib.toList_data]
  cases k with
  | mk a =>
    cases a with
    | mk l => cases l <;> simp [ByteArray.size]
/-- May a write be? -/
def okW (k v : ByteArray) (d : Bool) : Bool := decide (1 ≤ k.size ∧ k.size ≤ 512) && decide (v.size ≤ 4096) && (!d || decide (v.size = 0))
theorem okE_eq (e : Ent) : okE e = (decide (1 ≤ e.seq ∧ e.seq ≤ 1073741824) && okW e.key e.val e.del) := by
  unfold okE okW
  simp only [Bool.and_assoc]
set_option maxHeartbeats 1600000 in
theorem fine_any (k v : ByteArray) (d : Bool) (w : World) : Calls Try.prog 54 #[.agg #[.string k, .string v, .bool d]] w fun e w' => e = .returned (.bool (okW k v d)) ∧ Below w.heap.size w w' := by
  have e1 := empty_size k
  have e2 := empty_size v
  by_cases a1 : k.size = 0
  · have hz : okW k v d = false := by simp [okW, a1]
    rw [hz]
    rw [decide_eq_true a1] at e1
    clear hz e2
    have a1' : ¬ (1 ≤ (k.size : Int)) := by omega
    clear a1
    go_enter Try.func54, Try.ntmps54
    go_wp2
    go_ret
    exact ⟨rfl, (Below.refl _ _).alloc (Nat.le_refl _) _⟩
  rw [decide_eq_false a1] at e1
  have a1' : 1 ≤ (k.size : Int) := by omega
  have b1 : 1 ≤ k.size := by omega
  clear a1
  by_cases a2 : k.size ≤ 512
  case neg =>
    have hz : okW k v d = false := by simp [okW, a2]
    rw [hz]
    clear hz e2
    have a2' : ¬ ((k.size : Int) ≤ 512) := by omega
    clear a2 b1
    go_enter Try.func54, Try.ntmps54
    go_wp2
    go_ret
    exact ⟨rfl, (Below.refl _ _).alloc (Nat.le_refl _) _⟩
  have a2' : (k.size : Int) ≤ 512 := by omega
  by_cases a3 : v.size ≤ 4096
  case neg =>
    have hz : okW k v d = false := by simp [okW, a3]
    rw [hz]
    clear hz e2
    have a3' : ¬ ((v.size : Int) ≤ 4096) := by omega
    clear a3 b1 a2
    go_enter Try.func54, Try.ntmps54
    go_wp2
    go_ret
    exact ⟨rfl, (Below.refl _ _).alloc (Nat.le_refl _) _⟩
  have a3' : (v.size : Int) ≤ 4096 := by omega
  have hz : okW k v d = (!d || decide (v.size = 0)) := by simp [okW, a2, a3, b1]
  rw [hz]
  clear hz a2 a3 b1
  rw [← e2]
  clear e2
  cases d
  · show Calls _ _ _ _ fun e w' => e = .returned (.bool true) ∧ _
    go_enter Try.func54, Try.ntmps54
    go_wp2
    go_ret
    exact ⟨rfl, (Below.refl _ _).alloc (Nat.le_refl _) _⟩
  · cases hz : v.toList.isEmpty
    all_goals
      go_enter Try.func54, Try.ntmps54
      go_wp2
      go_ret
      exact ⟨by simp [hz], (Below.refl _ _).alloc (Nat.le_refl _) _⟩
set_option maxHeartbeats 1600000 in
theorem rfine_any (k v : ByteArray) (d : Bool) (w : World) : Calls Try.prog 44 #[.agg #[.string k, .string v, .bool d]] w fun e w' => e = .returned (.bool (okW k v d)) ∧ Below w.heap.size w w' := by
  have e1 := empty_size k
  have e2 := empty_size v
  by_cases a1 : k.size = 0
  · have hz : okW k v d = false := by simp [okW, a1]
    rw [hz]
    rw [decide_eq_true a1] at e1
    clear hz e2
    have a1' : ¬ (1 ≤ (k.size : Int)) := by omega
    clear a1
    go_enter Try.func44, Try.ntmps44
    go_wp2
    go_ret
    exact ⟨rfl, (Below.refl _ _).alloc (Nat.le_refl _) _⟩
  rw [decide_eq_false a1] at e1
  have a1' : 1 ≤ (k.size : Int) := by omega
  have b1 : 1 ≤ k.size := by omega
  clear a1
  by_cases a2 : k.size ≤ 512
  case neg =>
    have hz : okW k v d = false := by simp [okW, a2]
    rw [hz]
    clear hz e2
    have a2' : ¬ ((k.size : Int) ≤ 512) := by omega
    clear a2 b1
    go_enter Try.func44, Try.ntmps44
    go_wp2
    go_ret
    exact ⟨rfl, (Below.refl _ _).alloc (Nat.le_refl _) _⟩
  have a2' : (k.size : Int) ≤ 512 := by omega
  by_cases a3 : v.size ≤ 4096
  case neg =>
    have hz : okW k v d = false := by simp [okW, a3]
    rw [hz]
    clear hz e2
    have a3' : ¬ ((v.size : Int) ≤ 4096) := by omega
    clear a3 b1 a2
    go_enter Try.func44, Try.ntmps44
    go_wp2
    go_ret
    exact ⟨rfl, (Below.refl _ _).alloc (Nat.le_refl _) _⟩
  have a3' : (v.size : Int) ≤ 4096 := by omega
  have hz : okW k v d = (!d || decide (v.size = 0)) := by simp [okW, a2, a3, b1]
  rw [hz]
  clear hz a2 a3 b1
  rw [← e2]
  clear e2
  cases d
  · show Calls _ _ _ _ fun e w' => e = .returned (.bool true) ∧ _
    go_enter Try.func44, Try.ntmps44
    go_wp2
    go_ret
    exact ⟨rfl, (Below.refl _ _).alloc (Nat.le_refl _) _⟩
  · cases hz : v.toList.isEmpty
    all_goals
      go_enter Try.func44, Try.ntmps44
      go_wp2
      go_ret
      exact ⟨by simp [hz], (Below.refl _ _).alloc (Nat.le_refl _) _⟩
end Go.Proofs.Ytjhgbdeadkoegaa
