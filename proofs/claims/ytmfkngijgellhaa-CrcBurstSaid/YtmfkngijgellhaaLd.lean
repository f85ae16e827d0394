/- The walk of the law CrcBurst: it returns true. -/
import Derived.Test.YtmfkngijgellhaaD
import Derived.Test.YtmfkngijgellhaaG
import Derived.Lib.ItoaNum
namespace Go.Proofs.Ytmfkngijgellhaa
open Go.RowKit Go.St
set_option linter.unusedVariables false

/-- A burst turned twice gives the bytes back. -/
theorem turnBit_comm (l : List UInt8) (p q : Nat) : CrcM.turnBit (CrcM.turnBit l p) q = CrcM.turnBit (CrcM.turnBit l q) p := by
  unfold CrcM.turnBit
  apply List.ext_getElem?
  intro j
  simp only [List.getElem?_modify]
  by_cases h1 : p / 8 = j <;> by_cases h2 : q / 8 = j <;> simp [h1, h2]
  cases l[j]? with
  | none => rfl
  | some x => simp [UInt8.xor_assoc, UInt8.xor_comm (UInt8.ofNat (2 ^ (p % 8)))]
theorem turnBit_twice (l : List UInt8) (p : Nat) : CrcM.turnBit (CrcM.turnBit l p) p = l := by
  unfold CrcM.turnBit
  apply List.ext_getElem?
  intro j
  simp only [List.getElem?_modify]
  by_cases h1 : p / 8 = j <;> simp [h1]
  cases l[j]? with
  | none => rfl
  | some x => simp [UInt8.xor_assoc]
theorem turnTo_bit (l : List UInt8) (a t q : Nat) : ∀ k, CrcM.turnTo (CrcM.turnBit l q) a t k = CrcM.turnBit (CrcM.turnTo l a t k) q := by
  intro k
  induction k with
  | zero => rfl
  | succ k ih =>
    unfold CrcM.turnTo
    split
    · rw [ih, turnBit_comm]
    · exact ih
theorem turnTo_twice (l : List UInt8) (a t : Nat) : ∀ k, CrcM.turnTo (CrcM.turnTo l a t k) a t k = l := by
  intro k
  induction k with
  | zero => rfl
  | succ k ih =>
    by_cases h : t.testBit k
    · rw [show CrcM.turnTo l a t (k + 1) = CrcM.turnBit (CrcM.turnTo l a t k) (a + k) by rw [CrcM.turnTo, if_pos h]]
      rw [CrcM.turnTo, if_pos h, turnTo_bit, turnBit_twice, ih]
    · rw [show CrcM.turnTo l a t (k + 1) = CrcM.turnTo l a t k by rw [CrcM.turnTo, if_neg h]]
      rw [CrcM.turnTo, if_neg h, ih]

set_option maxHeartbeats 1000000 in
theorem crcBurst_walk (w : World) (A0 : Option Addr) (n0 c0 : Nat) (b0 : List UInt8) (bl0 : b0.length = n0) (lc0 : n0 ≤ c0) (bn0 : c0 ≤ 140737488351232) (rd0 : Rd w w.heap.size A0 (bv b0))
    (a1 : Int) (w1 : (Lit.int .i64 a1).wf = true) (a2 : Int) (w2 : (Lit.int .u32 a2).wf = true) :
    Calls Try.prog 8 #[.slice A0 n0 c0, .int .i64 a1, .int .u32 a2] w fun e w' => e = .returned (.bool true) ∧ Below w.heap.size w w' := by
  have hb : 0 ≤ a2 ∧ a2 ≤ 4294967295 := by simpa [Lit.wf, IntKind.min, IntKind.max, IntKind.signed, IntKind.bits] using w2
  have ha : -9223372036854775808 ≤ a1 ∧ a1 ≤ 9223372036854775807 := by simpa [Lit.wf, IntKind.min, IntKind.max, IntKind.signed, IntKind.bits] using w1
  obtain ⟨t, rfl⟩ := Int.eq_ofNat_of_zero_le hb.1
  have ht : t < 4294967296 := by omega
  have H0 := Lib.hid bl0; clear bl0
  have R0 := Lib.hid rd0; clear rd0
  have hL := Lib.bitLen_le t 32 (by decide) ht
  go_enter Try.func8, Try.ntmps8
  go_wp2_with fail
  refine (lives_any _).mono ?_
  rintro e w3 ⟨rfl, hb3⟩
  have R3 := Lib.hid (R0.out.below hb3)
  go_wp2_with fail
  refine (sealed_any A0 n0 c0 _ b0 H0.out (by omega) _ R3.out hb3.size).mono ?_
  rintro e w4 ⟨v4, rfl, own4, hb4⟩
  have hb5 : Below w.heap.size w w4 := hb3.trans (hb4.mono hb3.size)
  obtain ⟨g, c4, rfl, hnc, hcm, hg1, hg2⟩ := own_blk own4 (by omega)
  have R4 := Lib.hid (Rd.own own4)
  have hsl : (CrcM.sealed b0).length = n0 + 4 := by rw [CrcM.sealed_length, H0.out]
  have HSL := Lib.hid hsl; clear hsl
  clear own4 hb3 hb4 R3 R0
  go_wp2_with fail
  have hne : ((2 : Int) != 0) = true := rfl
  have heq : ((2 : Int) == 0) = false := rfl
  by_cases hneg : a1 < 0
  · refine (burst_neg _ (n0 + 4) c4 (by omega) a1 hneg t ht _).mono ?_
    rintro e w' ⟨rfl, rfl⟩
    go_wp2
    go_ret
    exact ⟨rfl, hb5⟩
  · obtain ⟨a, rfl⟩ := Int.eq_ofNat_of_zero_le (show 0 ≤ a1 by omega)
    by_cases hfar : 1 ≤ Lib.bitLen t ∧ 8 * ((n0 + 4 : Nat) : Int) - Lib.bitLen t < (a : Int)
    · refine (burst_far _ (n0 + 4) c4 (by omega) (a : Int) (by omega) t ht hfar.1 hfar.2 _).mono ?_
      rintro e w' ⟨rfl, rfl⟩
      go_wp2
      go_ret
      exact ⟨rfl, hb5⟩
    · have hf : Lib.bitLen t = 0 ∨ a + Lib.bitLen t ≤ 8 * (n0 + 4) := by omega
      have HF := Lib.hid hf; clear hf hfar
      refine (burst_yes _ (n0 + 4) c4 _ (CrcM.sealed b0) HSL.out (by omega) a (by omega) t ht HF.out _ R4.out (Nat.le_refl _)).mono ?_
      rintro e w5 ⟨v5, rfl, own5, hb6⟩
      obtain ⟨g5, c5, rfl, hnc5, hcm5, hg51, hg52⟩ := own_blk own5 (by omega)
      have R5 := Lib.hid (Rd.own own5)
      have R45 := Lib.hid (R4.out.below hb6)
      have hb7 : Below w.heap.size w w5 := hb5.trans (hb6.mono hb5.size)
      clear own5 hb6 R4
      by_cases h0 : t = 0
      · have ez : (((t : Nat) : Int) == 0) = true := by subst h0; rfl
        clear h0
        go_wp2
        go_ret
        exact ⟨rfl, hb7⟩
      · have ez : (((t : Nat) : Int) == 0) = false := by
          rw [beq_eq_false_iff_ne]
          omega
        have hbl : t < 2 ^ Lib.bitLen t := (Lib.bitLenAux_bounds 64 t (by omega) h0).2.2
        have hbp : 1 ≤ Lib.bitLen t := (Lib.bitLenAux_bounds 64 t (by omega) h0).1
        have hno : CrcM.sealed ((CrcM.turnTo (CrcM.sealed b0) a t (Lib.bitLen t)).take n0) ≠ CrcM.turnTo (CrcM.sealed b0) a t (Lib.bitLen t) := by
          have := CrcM.altered_burst b0 a t (Lib.bitLen t) (by have := HF.out; rw [H0.out]; omega) hbl ht h0
          rwa [H0.out] at this
        have htw := turnTo_twice (CrcM.sealed b0) a t (Lib.bitLen t)
        have HTW := Lib.hid htw; clear htw
        have hml : (CrcM.turnTo (CrcM.sealed b0) a t (Lib.bitLen t)).length = n0 + 4 := by rw [CrcM.turnTo_length, HSL.out]
        have HM := Lib.hid hml; clear hml
        have HNO := Lib.hid hno; clear hno hbl h0
        generalize hx : CrcM.turnTo (CrcM.sealed b0) a t (Lib.bitLen t) = x at *
        have HX := Lib.hid hx; clear hx
        go_wp2_with fail
        refine (opened_no (some ⟨g5, 0, none⟩) n0 c5 _ x HM.out (by omega) hnc5 HNO.out _ R5.out (Nat.le_refl _)).mono ?_
        rintro e w6 ⟨rfl, hb8⟩
        have R6 := Lib.hid (R5.out.below hb8)
        have R46 := Lib.hid (R45.out.below (hb8.mono (by omega)))
        have hb9 := hb7.trans (hb8.mono hb7.size)
        clear R5 R45
        go_wp2_with fail
        refine (burst_yes _ (n0 + 4) c5 _ x HM.out (by omega) a (by omega) t ht HF.out _ R6.out hb8.size).mono ?_
        rintro e w7 ⟨v7, rfl, own7, hb10⟩
        rw [HTW.out] at own7
        obtain ⟨A7, c7, rfl, hr7⟩ := own_rd own7
        have hc1 := conv_str 22 9 5 (n0 + 4) c7 Try.underlying22 Try.underlying5 Try.underlying9 hr7 HSL.out
        have hc2 := conv_str 22 9 5 (n0 + 4) c4 Try.underlying22 Try.underlying5 Try.underlying9 (R46.out.below (hb10.mono (by have := hb8.size; omega))) HSL.out
        clear own7
        go_wp2
        go_ret
        exact ⟨by simp, hb9.trans (hb10.mono hb9.size)⟩
end Go.Proofs.Ytmfkngijgellhaa
