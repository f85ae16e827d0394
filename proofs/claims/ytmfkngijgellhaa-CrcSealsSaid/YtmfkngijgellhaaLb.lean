/- The walk of the law CrcSeals: it returns true. -/
import Derived.Test.YtmfkngijgellhaaD
import Derived.Test.YtmfkngijgellhaaF
namespace Go.Proofs.Ytmfkngijgellhaa
open Go.RowKit Go.St
set_option linter.unusedVariables false

theorem pick_any' (x : Int) (hx : (Lit.int .i64 x).wf = true) (N : Int) (n : Nat) (hN : N = (n : Int)) (h0 : 0 < n) (hn : n ≤ 9223372036854775807) (w : World) :
    Calls Try.prog 21 #[.int .i64 x, .int .i64 N] w fun e w' => e = .returned (.int .i64 (pickN x n : Nat)) ∧ w = w' := by
  subst hN
  exact pick_any x hx n h0 hn w

set_option maxHeartbeats 1000000 in
theorem crcSeals_walk (w : World) (A0 : Option Addr) (n0 c0 : Nat) (b0 : List UInt8) (bl0 : b0.length = n0) (lc0 : n0 ≤ c0) (bn0 : c0 ≤ 140737488351232) (rd0 : Rd w w.heap.size A0 (bv b0))
    (a1 : Int) (w1 : (Lit.int .i64 a1).wf = true) (a2 : Int) (w2 : (Lit.int .u8 a2).wf = true) :
    Calls Try.prog 5 #[.slice A0 n0 c0, .int .i64 a1, .int .u8 a2] w fun e w' => e = .returned (.bool true) ∧ Below w.heap.size w w' := by
  obtain ⟨t, rfl⟩ := byte_of a2 w2
  have H0 := Lib.hid bl0; clear bl0
  have R0 := Lib.hid rd0; clear rd0
  go_enter Try.func5, Try.ntmps5
  go_wp2_with fail
  refine (sealed_any A0 n0 c0 _ b0 H0.out (by omega) _ R0.out (Nat.le_refl _)).mono ?_
  rintro e w3 ⟨v3, rfl, own3, hb3⟩
  go_wp2_with fail
  refine (lives_any _).mono ?_
  rintro e w4 ⟨rfl, hb4⟩
  have own4 := own_keep own3 hb4 (Nat.le_refl _)
  have hb5 : Below w.heap.size w w4 := hb3.trans (hb4.mono hb3.size)
  clear own3 hb3 hb4
  obtain ⟨g, c3, rfl, hnc, hcm, hg1, hg2⟩ := own_blk own4 (by omega)
  have r4 := Rd.own own4
  have hne : (((n0 + 4 : Nat) : Int) != (n0 : Int) + 4) = false := by simp
  have O4 := Lib.hid own4; clear own4
  have R4 := Lib.hid r4; clear r4
  go_wp2_with fail
  have ht : (CrcM.sealed b0).take n0 = b0 := by rw [← H0.out]; simp [CrcM.sealed]
  have HTK := Lib.hid ht; clear ht
  refine (opened_yes (some ⟨g, 0, none⟩) n0 c3 _ (CrcM.sealed b0) (by rw [CrcM.sealed_length, H0.out]) (by omega) hnc (by rw [HTK.out]) _ R4.out (Nat.le_refl _)).mono ?_
  rintro e w5 ⟨v5, rfl, own5, hb6⟩
  rw [HTK.out] at own5
  obtain ⟨A5, c5, rfl, hnc5, hcm5, r5⟩ := own_rd4 own5
  have hb7 : Below w.heap.size w w5 := hb5.trans (hb6.mono hb5.size)
  have r0 := R0.out.below hb7
  have O5 := Lib.hid (own_keep O4.out hb6 (Nat.le_refl _))
  have hg5 : g < w5.heap.size := Nat.lt_of_lt_of_le hg2 hb6.size
  clear own5 O4 R4 hb6
  have R5 := Lib.hid r5; clear r5
  have R05 := Lib.hid r0; clear r0
  go_wp2_with fail
  refine (same_any A5 A0 n0 n0 c5 c0 _ _ b0 b0 H0.out H0.out (by omega) _ R5.out R05.out).mono ?_
  rintro e w6 ⟨rfl, q, rfl⟩
  have hdt : decide (b0 = b0) = true := by simp
  go_wp2_with fail
  have hp := pickN_lt a1 (n0 + 4) (by omega)
  refine (pick_any' a1 w1 _ (n0 + 4) (by omega) (by omega) (by omega) _).mono ?_
  rintro e w7 ⟨rfl, rfl⟩
  generalize pickN a1 (n0 + 4) = p at *
  have hcell := O5.out.cellAt p (by omega)
  have hfr := O5.out.frozenAt p
  have hpl : p < (CrcM.sealed b0).length := by rw [CrcM.sealed_length, H0.out]; exact hp
  rw [bv_get _ _ hpl] at hcell
  unfold bt at hcell
  have hxor := bt_xor ((CrcM.sealed b0)[p]) t
  go_wp2_with fail
  have hv : Value.int .u8 (((CrcM.sealed b0)[p].toNat ^^^ t.toNat : Nat) : Int) = bt ((CrcM.sealed b0)[p] ^^^ t) := by unfold bt; rw [UInt8.toNat_xor]
  rw [hv]
  have o6 := (World.ownsRow.stored (w := w5.drewN q) O5.out p (bt ((CrcM.sealed b0)[p] ^^^ t))).1
  have hb8 : Below w.heap.size w ((w5.drewN q).setCell ⟨g, p, none⟩ (bt ((CrcM.sealed b0)[p] ^^^ t))) := Below.setCell (show Below w.heap.size w (w5.drewN q) from ⟨hb7.os, hb7.tape, hb7.output, hb7.size, hb7.block⟩) (p := ⟨g, p, none⟩) hg1 _
  rw [bv_set, modify_set _ _ _ hpl] at o6
  clear hv hxor hcell hfr
  generalize ((w5.drewN q).setCell ⟨g, p, none⟩ (bt ((CrcM.sealed b0)[p] ^^^ t))) = W at *
  have r6 := Rd.own o6
  have hml : ((CrcM.sealed b0).modify p (· ^^^ t)).length = n0 + 4 := by simp [CrcM.sealed_length, H0.out]
  have HA : t ≠ 0 → CrcM.sealed (((CrcM.sealed b0).modify p (· ^^^ t)).take n0) ≠ (CrcM.sealed b0).modify p (· ^^^ t) := fun h => by
    have := CrcM.altered_byte b0 p t (by rw [H0.out]; exact hp) h
    rwa [H0.out] at this
  have HB : t = 0 → CrcM.sealed (((CrcM.sealed b0).modify p (· ^^^ t)).take n0) = (CrcM.sealed b0).modify p (· ^^^ t) := fun h => by
    subst h
    have e : (CrcM.sealed b0).modify p (· ^^^ (0 : UInt8)) = CrcM.sealed b0 := by
      apply List.ext_getElem?
      intro j
      rw [List.getElem?_modify]
      split <;> simp
    rw [e, HTK.out]
  have HM := Lib.hid hml; clear hml
  have R6 := Lib.hid r6; clear r6
  have HA' := Lib.hid HA; clear HA
  have HB' := Lib.hid HB; clear HB
  clear o6 O5 R5 R05
  generalize (CrcM.sealed b0).modify p (· ^^^ t) = l at *
  by_cases h0 : t = 0
  · have ez : (((t.toNat : Nat) : Int) == 0) = true := by subst h0; rfl
    have hs := HB'.out h0
    have HS := Lib.hid hs; clear hs
    clear h0 HA' HB'
    refine (opened_yes (some ⟨g, 0, none⟩) n0 c3 _ l HM.out (by omega) hnc HS.out _ R6.out (Nat.le_refl _)).mono ?_
    rintro e w9 ⟨v9, rfl, own9, hb9⟩
    have R9 := Lib.hid (R6.out.below hb9)
    have hb10 := hb8.trans (hb9.mono hb8.size)
    go_wp2_with fail
    refine (ropened_long (some ⟨g, 0, none⟩) n0 c3 _ l HM.out (by omega) hnc _ R9.out hb9.size).mono ?_
    rintro e w11 ⟨⟨v11, rfl, _, _⟩, hb11⟩
    rw [decide_eq_true HS.out]
    go_wp2
    go_ret
    exact ⟨rfl, hb10.trans (hb11.mono hb10.size)⟩
  · have ez : (((t.toNat : Nat) : Int) == 0) = false := by
      rw [beq_eq_false_iff_ne]
      intro h
      exact h0 (UInt8.toNat_inj.1 (by simpa using h))
    have hs := HA'.out h0
    have HS := Lib.hid hs; clear hs
    clear h0 HA' HB'
    refine (opened_no (some ⟨g, 0, none⟩) n0 c3 _ l HM.out (by omega) hnc HS.out _ R6.out (Nat.le_refl _)).mono ?_
    rintro e w9 ⟨rfl, hb9⟩
    have R9 := Lib.hid (R6.out.below hb9)
    have hb10 := hb8.trans (hb9.mono hb8.size)
    go_wp2_with fail
    refine (ropened_long (some ⟨g, 0, none⟩) n0 c3 _ l HM.out (by omega) hnc _ R9.out hb9.size).mono ?_
    rintro e w11 ⟨⟨v11, rfl, _, _⟩, hb11⟩
    rw [decide_eq_false HS.out]
    go_wp2
    go_ret
    exact ⟨rfl, hb10.trans (hb11.mono hb10.size)⟩
end Go.Proofs.Ytmfkngijgellhaa
