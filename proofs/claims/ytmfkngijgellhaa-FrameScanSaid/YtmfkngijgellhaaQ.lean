/- The walks of the examples of the chapter on frames, and one contract for Append. -/
import Derived.Test.YtmfkngijgellhaaN
import Derived.Test.YtmfkngijgellhaaP
import Derived.Test.YtmfkngijgellhaaC
namespace Go.Proofs.Ytmfkngijgellhaa
open Go.RowKit Go.St
set_option linter.unusedVariables false

def appE (n : Nat) : Int := if 1048576 < n then 3 else 0
def appL (bs rs : List UInt8) : List UInt8 := if 1048576 < rs.length then [] else bs ++ frameL rs

theorem append_any (A A' : Option Addr) (n c B n' c' B' : Nat) (bs rs : List UInt8) (hl : bs.length = n) (hl' : rs.length = n') (hn : n' ≤ 1048576 → n + n' + 12 ≤ 140737488355328) (hn' : n' ≤ 9223372036854775807) (w : World)
    (hr : Rd w B A (bv bs)) (hB : B ≤ w.heap.size) (hr' : Rd w B' A' (bv rs)) (hB' : B' ≤ w.heap.size) :
    Calls Try.prog 32 #[.slice A n c, .slice A' n' c'] w fun e w' => ∃ v, e = .returned (.tuple #[v, .int .i64 (appE n')]) ∧ w'.ownsRow w.heap.size 5 1 v (appL bs rs).length (bv (appL bs rs)) ∧ Below w.heap.size w w' := by
  by_cases h : 1048576 < n'
  · refine (append_long A A' n c n' c' h hn' w).mono fun e w' ⟨he, hw⟩ => ⟨_, by rw [appE, if_pos h]; exact he, ?_, by subst hw; exact Below.refl _ _⟩
    rw [appL, if_pos (by omega)]
    exact World.ownsRow_nil _ _ _ _
  · refine (append_fits A A' n c B n' c' B' bs rs hl hl' (hn (by omega)) (by omega) w hr hB hr' hB').mono fun e w' ⟨v, he, ho, hb⟩ => ⟨v, by rw [appE, if_neg h]; exact he, ?_, hb⟩
    rw [appL, if_neg (by omega)]
    exact own_eq ho (by rw [List.length_append, frameL_length]; omega) rfl
theorem rappend_any (A A' : Option Addr) (n c B n' c' B' : Nat) (bs rs : List UInt8) (hl : bs.length = n) (hl' : rs.length = n') (hn : n' ≤ 1048576 → n + n' + 12 ≤ 140737488355328) (hn' : n' ≤ 9223372036854775807) (w : World)
    (hr : Rd w B A (bv bs)) (hB : B ≤ w.heap.size) (hr' : Rd w B' A' (bv rs)) (hB' : B' ≤ w.heap.size) :
    Calls Try.prog 33 #[.slice A n c, .slice A' n' c'] w fun e w' => ∃ v, e = .returned (.tuple #[v, .int .i64 (appE n')]) ∧ w'.ownsRow w.heap.size 5 1 v (appL bs rs).length (bv (appL bs rs)) ∧ Below w.heap.size w w' := by
  by_cases h : 1048576 < n'
  · refine (rappend_long A A' n c n' c' h hn' w).mono fun e w' ⟨he, hw⟩ => ⟨_, by rw [appE, if_pos h]; exact he, ?_, by subst hw; exact Below.refl _ _⟩
    rw [appL, if_pos (by omega)]
    exact World.ownsRow_nil _ _ _ _
  · refine (rappend_fits A A' n c B n' c' B' bs rs hl hl' (hn (by omega)) (by omega) w hr hB hr' hB').mono fun e w' ⟨v, he, ho, hb⟩ => ⟨v, by rw [appE, if_neg h]; exact he, ?_, hb⟩
    rw [appL, if_neg (by omega)]
    exact own_eq ho (by rw [List.length_append, frameL_length]; omega) rfl

def emptyL : List UInt8 := [0, 0, 0, 0, 199, 75, 103, 72, 0, 0, 0, 0]
theorem empty_any (w : World) : Calls Try.prog 36 #[] w fun e w' => ∃ v, e = .returned v ∧ w'.ownsRow w.heap.size 5 1 v 12 (bv emptyL) ∧ Below w.heap.size w w' := by
  go_enter Try.func36, Try.ntmps36
  go_wp2
  go_ret
  exact ⟨_, rfl, World.ownsRow_lit w _ 12 (Nat.le_refl _) (by decide) rfl, (Below.refl _ _).alloc (Nat.le_refl _) _⟩

set_option maxHeartbeats 1000000 in
theorem lives3_any (w : World) : Calls Try.prog 31 #[] w fun e w' => e = .returned (.bool true) ∧ Below w.heap.size w w' := by
  have hE : readE emptyL = 0 := by decide +kernel
  have hN : readN emptyL = 12 := by decide +kernel
  have hL : readL emptyL = [] := by decide +kernel
  have hA : appL [] [] = emptyL := by decide +kernel
  have hAE : appE 0 = 0 := rfl
  have HE := Lib.hid hE; clear hE
  have HN := Lib.hid hN; clear hN
  have HL := Lib.hid hL; clear hL
  have HA := Lib.hid hA; clear hA
  go_enter Try.func31, Try.ntmps31
  go_wp2_with fail
  refine (append_any none none 0 0 0 0 0 0 [] [] rfl rfl (by omega) (by omega) _ Rd.nil (Nat.zero_le _) Rd.nil (Nat.zero_le _)).mono ?_
  rintro e w1 ⟨v1, rfl, own1, hb1⟩
  rw [hAE]
  rw [HA.out] at own1
  have O1 := Lib.hid own1; clear own1
  have S1 := hb1.size
  go_wp2_with fail
  refine (empty_any _).mono ?_
  rintro e w2 ⟨v2, rfl, own2, hb2⟩
  have hb3 := hb1.trans (hb2.mono S1)
  have O2 := Lib.hid (own_keep O1.out hb2 (Nat.le_refl _))
  obtain ⟨A2, c2, rfl, hnc, _, rd2⟩ := own_rd4 own2
  have D2 := Lib.hid rd2; clear rd2 own2 O1
  have S2 := hb3.size
  clear hb1 hb2
  go_wp2_with fail
  refine (read_any A2 12 c2 _ emptyL rfl (by omega) hnc _ D2.out (Nat.le_refl _)).mono ?_
  rintro e w3 ⟨v3, rfl, own3, hb4⟩
  rw [HE.out, HN.out]
  rw [HL.out] at own3
  have own3 : w3.ownsRow w2.heap.size 5 1 v3 0 (bv []) := own3
  have hb5 := hb3.trans (hb4.mono S2)
  have O3 := Lib.hid (own_keep O2.out hb4 (Nat.le_refl _))
  obtain ⟨A3, c3, rfl, _, _, rd3⟩ := own_rd4 own3
  have S3 := hb5.size
  clear own3 rd3 hb4 hb3 D2 O2
  go_wp2_with fail
  refine (empty_any _).mono ?_
  rintro e w4 ⟨v4, rfl, own4, hb6⟩
  have hb7 := hb5.trans (hb6.mono S3)
  have o4 := own_keep O3.out hb6 (Nat.le_refl _)
  obtain ⟨A1, c1, rfl, _, _, rd1⟩ := own_rd4 o4
  obtain ⟨A4, c4, rfl, _, _, rd4⟩ := own_rd4 own4
  have D1 := Lib.hid rd1; clear rd1
  have D4 := Lib.hid rd4; clear rd4 own4 o4 O3 hb6 hb5
  go_wp2_with fail
  refine (same_any A1 A4 12 12 c1 c4 _ _ emptyL emptyL rfl rfl (by omega) _ D1.out D4.out).mono ?_
  rintro e w' ⟨rfl, q, rfl⟩
  rw [decide_eq_true (rfl : emptyL = emptyL)]
  go_wp2
  go_ret
  exact ⟨rfl, ⟨hb7.os, hb7.tape, hb7.output, hb7.size, hb7.block⟩⟩
end Go.Proofs.Ytmfkngijgellhaa
