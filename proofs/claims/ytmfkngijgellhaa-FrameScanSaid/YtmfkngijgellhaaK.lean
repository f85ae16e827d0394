/- One contract each for Opened and Burst, the program's and the reference's: both compute the same. -/
import Derived.Test.YtmfkngijgellhaaD
import Derived.Test.YtmfkngijgellhaaF
import Derived.Test.YtmfkngijgellhaaG
import Derived.Test.YtmfkngijgellhaaI
namespace Go.Proofs.Ytmfkngijgellhaa
open Go.RowKit Go.St
set_option linter.unusedVariables false

/-- Are bytes sealed ones? -/
def isOpen (bs : List UInt8) : Bool := decide (4 ≤ bs.length) && decide (CrcM.sealed (bs.take (bs.length - 4)) = bs)
/-- What stands ahead of the seal; nothing where there is none. -/
def openL (bs : List UInt8) : List UInt8 := if isOpen bs then bs.take (bs.length - 4) else []

theorem opened_any (A : Option Addr) (n c B : Nat) (bs : List UInt8) (hl : bs.length = n) (hn : n ≤ 140737488355328) (hc : n ≤ c) (w : World) (hr : Rd w B A (bv bs)) (hB : B ≤ w.heap.size) :
    Calls Try.prog 19 #[.slice A n c] w fun e w' => ∃ v, e = .returned (.tuple #[v, .bool (isOpen bs)]) ∧ w'.ownsRow w.heap.size 5 1 v (openL bs).length (bv (openL bs)) ∧ Below w.heap.size w w' := by
  by_cases h4 : 4 ≤ n
  · obtain ⟨m, rfl⟩ : ∃ m, n = m + 4 := ⟨n - 4, by omega⟩
    have e1 : bs.length - 4 = m := by omega
    by_cases hs : CrcM.sealed (bs.take m) = bs
    · have ho : isOpen bs = true := by unfold isOpen; rw [e1, decide_eq_true (by omega), decide_eq_true hs]; rfl
      have hx : openL bs = bs.take m := by unfold openL; rw [if_pos ho, e1]
      refine (opened_yes A m c B bs hl hn hc hs w hr hB).mono fun e w' ⟨v, he, ho', hb⟩ => ⟨v, by rw [ho]; exact he, ?_, hb⟩
      rw [hx]
      exact own_eq ho' (by simp; omega) rfl
    · have ho : isOpen bs = false := by unfold isOpen; rw [e1, decide_eq_false hs]; simp
      have hx : openL bs = [] := by unfold openL; rw [ho]; rfl
      refine (opened_no A m c B bs hl hn hc hs w hr hB).mono fun e w' ⟨he, hb⟩ => ⟨_, by rw [ho]; exact he, ?_, hb⟩
      rw [hx]
      exact World.ownsRow_nil _ _ _ _
  · have ho : isOpen bs = false := by unfold isOpen; rw [decide_eq_false (by omega)]; rfl
    have hx : openL bs = [] := by unfold openL; rw [ho]; rfl
    refine (opened_short A n c (by omega) w).mono fun e w' ⟨he, q, hw⟩ => ⟨_, by rw [ho]; exact he, ?_, ?_⟩
    · rw [hx]
      exact World.ownsRow_nil _ _ _ _
    · subst hw
      exact ⟨rfl, rfl, rfl, Nat.le_refl _, fun _ _ => rfl⟩

theorem ropened_any (A : Option Addr) (n c B : Nat) (bs : List UInt8) (hl : bs.length = n) (hn : n ≤ 140737488355328) (hc : n ≤ c) (w : World) (hr : Rd w B A (bv bs)) (hB : B ≤ w.heap.size) :
    Calls Try.prog 22 #[.slice A n c] w fun e w' => ∃ v, e = .returned (.tuple #[v, .bool (isOpen bs)]) ∧ w'.ownsRow w.heap.size 5 1 v (openL bs).length (bv (openL bs)) ∧ Below w.heap.size w w' := by
  by_cases h4 : 4 ≤ n
  · obtain ⟨m, rfl⟩ : ∃ m, n = m + 4 := ⟨n - 4, by omega⟩
    have e1 : bs.length - 4 = m := by omega
    have ho : isOpen bs = decide (CrcM.sealed (bs.take m) = bs) := by unfold isOpen; rw [e1, decide_eq_true (by omega)]; rfl
    refine (ropened_long A m c B bs hl hn hc w hr hB).mono fun e w' ⟨⟨v, he, hy, hno⟩, hb⟩ => ⟨v, by rw [ho]; exact he, ?_, hb⟩
    by_cases hs : CrcM.sealed (bs.take m) = bs
    · have hx : openL bs = bs.take m := by unfold openL; rw [ho, decide_eq_true hs, if_pos rfl, e1]
      rw [hx]
      exact own_eq (hy hs) (by simp; omega) rfl
    · have hx : openL bs = [] := by unfold openL; rw [ho, decide_eq_false hs]; rfl
      rw [hx, hno hs]
      exact World.ownsRow_nil _ _ _ _
  · have ho : isOpen bs = false := by unfold isOpen; rw [decide_eq_false (by omega)]; rfl
    have hx : openL bs = [] := by unfold openL; rw [ho]; rfl
    refine (ropened_short A n c (by omega) w).mono fun e w' ⟨he, hw⟩ => ⟨_, by rw [ho]; exact he, ?_, ?_⟩
    · rw [hx]
      exact World.ownsRow_nil _ _ _ _
    · subst hw
      exact Below.refl _ _

/-- May a burst be? -/
def burstOK (n : Nat) (a : Int) (t : Nat) : Bool := decide (0 ≤ a) && (decide (Lib.bitLen t = 0) || decide (a + Lib.bitLen t ≤ 8 * n))
def burstE (n : Nat) (a : Int) (t : Nat) : Int := if burstOK n a t then 0 else 2
def burstL (bs : List UInt8) (a : Int) (t : Nat) : List UInt8 := if burstOK bs.length a t then CrcM.turnTo bs a.toNat t (Lib.bitLen t) else []

theorem burst_any (A : Option Addr) (n c B : Nat) (bs : List UInt8) (hl : bs.length = n) (hn : n ≤ 140737488355328) (a : Int) (ha : a ≤ 9223372036854775807) (t : Nat) (ht : t < 4294967296) (w : World) (hr : Rd w B A (bv bs)) (hB : B ≤ w.heap.size) :
    Calls Try.prog 23 #[.slice A n c, .int .i64 a, .int .u32 (t : Int)] w fun e w' => ∃ v, e = .returned (.tuple #[v, .int .i64 (burstE n a t)]) ∧ w'.ownsRow w.heap.size 5 1 v (burstL bs a t).length (bv (burstL bs a t)) ∧ Below w.heap.size w w' := by
  subst hl
  have bad : burstOK bs.length a t = false → ∀ w' : World, w = w' → ∃ v, Ending.returned (.tuple #[.slice none 0 0, .int .i64 2]) = .returned (.tuple #[v, .int .i64 (burstE bs.length a t)]) ∧ w'.ownsRow w.heap.size 5 1 v (burstL bs a t).length (bv (burstL bs a t)) ∧ Below w.heap.size w w' := by
    intro h w' hw
    subst hw
    refine ⟨_, by unfold burstE; rw [h]; rfl, ?_, Below.refl _ _⟩
    unfold burstL
    rw [h]
    exact World.ownsRow_nil _ _ _ _
  by_cases hneg : a < 0
  · refine (burst_neg A bs.length c hn a hneg t ht w).mono fun e w' ⟨he, hw⟩ => ?_
    subst he
    exact bad (by unfold burstOK; rw [decide_eq_false (by omega)]; rfl) w' hw
  · by_cases hfar : 1 ≤ Lib.bitLen t ∧ 8 * (bs.length : Int) - Lib.bitLen t < a
    · refine (burst_far A bs.length c hn a (by omega) t ht hfar.1 hfar.2 w).mono fun e w' ⟨he, hw⟩ => ?_
      subst he
      exact bad (by unfold burstOK; rw [decide_eq_false (p := Lib.bitLen t = 0) (by omega), decide_eq_false (p := a + Lib.bitLen t ≤ 8 * (bs.length : Int)) (by omega)]; simp) w' hw
    · obtain ⟨a', rfl⟩ := Int.eq_ofNat_of_zero_le (show 0 ≤ a by omega)
      have hok : burstOK bs.length (a' : Int) t = true := by
        unfold burstOK
        rw [decide_eq_true (by omega)]
        rcases Nat.eq_zero_or_pos (Lib.bitLen t) with h | h
        · simp [h]
        · rw [decide_eq_true (p := (a' : Int) + Lib.bitLen t ≤ 8 * (bs.length : Int)) (by omega)]
          simp
      refine (burst_yes A bs.length c B bs rfl hn a' ha t ht (by omega) w hr hB).mono fun e w' ⟨v, he, ho, hb⟩ => ⟨v, by unfold burstE; rw [hok]; exact he, ?_, hb⟩
      have e1 : burstL bs (a' : Int) t = CrcM.turnTo bs a' t (Lib.bitLen t) := by unfold burstL; rw [hok]; rfl
      rw [e1]
      exact own_eq ho (by rw [CrcM.turnTo_length]) rfl

theorem rburst_all (A : Option Addr) (n c B : Nat) (bs : List UInt8) (hl : bs.length = n) (hn : n ≤ 140737488355328) (a : Int) (ha : a ≤ 9223372036854775807) (t : Nat) (ht : t < 4294967296) (w : World) (hr : Rd w B A (bv bs)) (hB : B ≤ w.heap.size) :
    Calls Try.prog 25 #[.slice A n c, .int .i64 a, .int .u32 (t : Int)] w fun e w' => ∃ v, e = .returned (.tuple #[v, .int .i64 (burstE n a t)]) ∧ w'.ownsRow w.heap.size 5 1 v (burstL bs a t).length (bv (burstL bs a t)) ∧ Below w.heap.size w w' := by
  subst hl
  have bad : burstOK bs.length a t = false → ∀ w' : World, Below w.heap.size w w' → ∃ v, Ending.returned (.tuple #[.slice none 0 0, .int .i64 2]) = .returned (.tuple #[v, .int .i64 (burstE bs.length a t)]) ∧ w'.ownsRow w.heap.size 5 1 v (burstL bs a t).length (bv (burstL bs a t)) ∧ Below w.heap.size w w' := by
    intro h w' hw
    refine ⟨_, by unfold burstE; rw [h]; rfl, ?_, hw⟩
    unfold burstL
    rw [h]
    exact World.ownsRow_nil _ _ _ _
  by_cases hneg : a < 0
  · refine (rburst_neg A bs.length c a hneg t w).mono fun e w' ⟨he, hw⟩ => ?_
    subst he
    exact bad (by unfold burstOK; rw [decide_eq_false (by omega)]; rfl) w' (by subst hw; exact Below.refl _ _)
  · obtain ⟨a', rfl⟩ := Int.eq_ofNat_of_zero_le (show 0 ≤ a by omega)
    refine (rburst_any A bs.length c B bs rfl hn a' ha t ht w hr hB).mono fun e w' h => ?_
    rcases h with ⟨hf, v, he, ho, hb⟩ | ⟨hf, he, hb⟩
    · have hok : burstOK bs.length (a' : Int) t = true := by
        unfold burstOK
        rw [decide_eq_true (by omega)]
        rcases hf with h | h
        · simp [h]
        · rw [decide_eq_true (p := (a' : Int) + Lib.bitLen t ≤ 8 * (bs.length : Int)) (by omega)]
          simp
      refine ⟨v, by unfold burstE; rw [hok]; exact he, ?_, hb⟩
      have e1 : burstL bs (a' : Int) t = CrcM.turnTo bs a' t (Lib.bitLen t) := by unfold burstL; rw [hok]; rfl
      rw [e1]
      exact own_eq ho (by rw [CrcM.turnTo_length]) rfl
    · subst he
      exact bad (by unfold burstOK; rw [decide_eq_false (p := Lib.bitLen t = 0) (by omega), decide_eq_false (p := (a' : Int) + Lib.bitLen t ≤ 8 * (bs.length : Int)) (by omega)]; simp) w' hb
end Go.Proofs.Ytmfkngijgellhaa
