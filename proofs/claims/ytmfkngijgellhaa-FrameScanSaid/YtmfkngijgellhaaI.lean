/- The walk of the reference's Burst. -/
import Derived.Test.YtmfkngijgellhaaG
import Derived.Lib.ItoaNum
namespace Go.Proofs.Ytmfkngijgellhaa
open Go.RowKit Go.St
set_option linter.unusedVariables false

theorem bit_below (t k : Nat) (ht : t < 4294967296) (h : t.testBit k = true) : k < Lib.bitLen t := by
  rcases Nat.lt_or_ge k (Lib.bitLen t) with h1 | h1
  · exact h1
  · exfalso
    have h0 : t ≠ 0 := by rintro rfl; simp at h
    have hb := (Lib.bitLenAux_bounds 64 t (by omega) h0).2.2
    have : t.testBit k = false := Nat.testBit_lt_two_pow (Nat.lt_of_lt_of_le hb (Nat.pow_le_pow_right (by omega) h1))
    rw [this] at h
    cases h
theorem bit_top (t : Nat) (ht : t < 4294967296) (h : 1 ≤ Lib.bitLen t) : t.testBit (Lib.bitLen t - 1) = true := by
  have h0 : t ≠ 0 := by
    rintro rfl
    exact absurd h (by decide +kernel)
  have hb := Lib.bitLenAux_bounds 64 t (by omega) h0
  have e1 : 2 ^ (Lib.bitLen t - 1) ≤ t := hb.2.1
  have e2 : t < 2 ^ (Lib.bitLen t - 1 + 1) := by
    have : Lib.bitLen t - 1 + 1 = Lib.bitLen t := by omega
    rw [this]
    exact hb.2.2
  rw [Nat.testBit_eq_decide_div_mod_eq]
  have : t / 2 ^ (Lib.bitLen t - 1) = 1 := by
    rw [Nat.pow_succ] at e2
    exact Nat.div_eq_of_lt_le (by omega) (by omega)
  simp [this]
theorem turnTo_more (bs : List UInt8) (a t : Nat) (ht : t < 4294967296) : ∀ j, CrcM.turnTo bs a t (Lib.bitLen t + j) = CrcM.turnTo bs a t (Lib.bitLen t) := by
  intro j
  induction j with
  | zero => rfl
  | succ j ih =>
    rw [← Nat.add_assoc, CrcM.turnTo, if_neg, ih]
    intro h
    have := bit_below t _ ht h
    omega

/-- What the reference's Burst tells of a place from 0 on. -/
def RB (n a t : Nat) (bs : List UInt8) (w : World) (e : Ending) (w' : World) : Prop :=
  ((Lib.bitLen t = 0 ∨ a + Lib.bitLen t ≤ 8 * n) ∧ ∃ v, e = .returned (.tuple #[v, .int .i64 0]) ∧ w'.ownsRow w.heap.size 5 1 v n (bv (CrcM.turnTo bs a t (Lib.bitLen t))) ∧ Below w.heap.size w w') ∨
  ((1 ≤ Lib.bitLen t ∧ 8 * n < a + Lib.bitLen t) ∧ e = .returned (.tuple #[.slice none 0 0, .int .i64 2]) ∧ Below w.heap.size w w')

theorem rburst_neg (A : Option Addr) (n c : Nat) (a : Int) (ha : a < 0) (t : Nat) (w : World) :
    Calls Try.prog 25 #[.slice A n c, .int .i64 a, .int .u32 (t : Int)] w fun e w' => e = .returned (.tuple #[.slice none 0 0, .int .i64 2]) ∧ w = w' := by
  go_enter Try.func25, Try.ntmps25
  go_wp2
  go_ret2
  exact ⟨rfl, rfl⟩

theorem and_bit0 (t k : Nat) (ht : t < 4294967296) : (bits .and .u32 ((t : Int) / 2 ^ k) 1 == 0) = if t.testBit k then false else true := by
  have h1 : (t : Int) / 2 ^ k = ((t / 2 ^ k : Nat) : Int) := by simp
  have h2 : t / 2 ^ k < 4294967296 := Nat.lt_of_le_of_lt (Nat.div_le_self _ _) ht
  have h3 := u32_and_nat (t / 2 ^ k) 1 h2 (by decide)
  rw [h1, show (1 : Int) = ((1 : Nat) : Int) from rfl, h3, nat_mask1]
  rw [Nat.testBit_eq_decide_div_mod_eq]
  by_cases h : t / 2 ^ k % 2 = 1
  · simp [h]
  · have : t / 2 ^ k % 2 = 0 := by omega
    simp [this]

set_option maxHeartbeats 1000000 in
theorem rburst_any (A : Option Addr) (n c B : Nat) (bs : List UInt8) (hl : bs.length = n) (hn : n ≤ 140737488355328) (a : Nat) (ha64 : (a : Int) ≤ 9223372036854775807) (t : Nat) (ht : t < 4294967296) (w : World)
    (hr : Rd w B A (bv bs)) (hB : B ≤ w.heap.size) :
    Calls Try.prog 25 #[.slice A n c, .int .i64 (a : Int), .int .u32 (t : Int)] w (RB n a t bs w) := by
  have hL := Lib.bitLen_le t 32 (by decide) ht
  have HL := Lib.hid hl; clear hl
  have HR := Lib.hid hr; clear hr
  have ha0 : (0 : Int) ≤ (a : Int) := by omega
  go_enter Try.func25, Try.ntmps25
  go_wp2_with (at_builtin; refine wpList_app sty22 (.tmp 12) (.tmp 13) rfl rfl w.heap.size (World.ownsRow_lit w #[] 0 (Nat.le_refl _) (by decide) rfl) rfl n c (Rd.alloc HR.out hB _) rfl (by rw [bv_length, HL.out]; omega) (bv_one _) (by unfold maxLen; omega) (by omega) (by simp) ?_; intro v1 w1 own1 gr1 nil1 at1)
  have hb1 : Below w.heap.size w w1 := ((Below.refl _ _).alloc (Nat.le_refl _) _).grown gr1 (by simp) (by simp [Value.ownBlock])
  have O1 := Lib.hid (own_eq (m := n) (ys := bv (CrcM.turnTo bs a t 0)) own1 (by omega) (by simp [CrcM.turnTo]))
  clear own1 gr1 nil1 at1
  go_loopw [9] (fun i wr => ∃ k : Nat, k ≤ 32 ∧ i = .int .i64 k ∧ wr.ownsRow w.heap.size 5 1 v1 n (bv (CrcM.turnTo bs a t k)) ∧ Below w.heap.size w wr ∧ (1 ≤ Lib.bitLen t ∧ 8 * n < a + Lib.bitLen t → k < Lib.bitLen t)) (fun i _ => 32 - (intOf i).toNat)
  case atStart => exact ⟨0, Nat.zero_le _, rfl, O1.out, hb1, fun h => h.1⟩
  case round =>
    obtain ⟨k, hk, rfl, hown, hbw, hfar⟩ := hrel
    clear O1 hb1
    have HF := Lib.hid hfar; clear hfar
    have OW := Lib.hid hown; clear hown
    by_cases hlt : k < 32
    · have hand := and_bit0 t k ht
      by_cases hbit : t.testBit k
      · rw [if_pos hbit] at hand
        have hkL := bit_below t k ht hbit
        by_cases hin : a + k < 8 * n
        · obtain ⟨g, c3, rfl, hnc, hcm, hg1, hg2⟩ := own_blk OW.out (by omega)
          have hp : (a + k) / 8 < n := by omega
          have hpl : (a + k) / 8 < (CrcM.turnTo bs a t k).length := by rw [CrcM.turnTo_length, HL.out]; exact hp
          have hcx := OW.out.cellAt ((a + k) / 8) (by omega)
          rw [bv_get _ _ hpl] at hcx
          unfold bt at hcx
          have hfx := OW.out.frozenAt ((a + k) / 8)
          have e2 := bit_xor ((CrcM.turnTo bs a t k)[(a + k) / 8]) (a + k)
          go_wp2
          go_region
          go_wp2
          have o2 := (OW.out.stored ((a + k) / 8) (bt ((CrcM.turnTo bs a t k)[(a + k) / 8] ^^^ UInt8.ofNat (2 ^ ((a + k) % 8))))).1
          rw [bv_set, modify_set _ _ _ hpl] at o2
          have e3 : CrcM.turnTo bs a t (k + 1) = (CrcM.turnTo bs a t k).modify ((a + k) / 8) (· ^^^ UInt8.ofNat (2 ^ ((a + k) % 8))) := by
            rw [CrcM.turnTo, if_pos hbit]; rfl
          exact ⟨⟨k + 1, by omega, by go_num, by rw [e3]; exact o2, (hbw.setCell (p := ⟨g, (a + k) / 8, none⟩) hg1 _).drew, fun h => by omega⟩, by simp [intOf]; omega⟩
        · go_wp2
          go_ret2
          exact .inr ⟨⟨by omega, by omega⟩, rfl, hbw⟩
      · rw [if_neg hbit] at hand
        have hnt : ¬ (1 ≤ Lib.bitLen t ∧ k = Lib.bitLen t - 1) := fun h => hbit (by rw [h.2]; exact bit_top t ht h.1)
        go_wp2
        exact ⟨⟨k + 1, by omega, by go_num, by rw [CrcM.turnTo, if_neg hbit]; exact OW.out, hbw, fun h => by have := HF.out h; omega⟩, by simp [intOf]; omega⟩
    · obtain rfl : k = 32 := by omega
      go_wp2
      go_ret2
      refine .inl ⟨?_, _, rfl, ?_, hbw⟩
      · rcases Nat.lt_or_ge (8 * n) (a + Lib.bitLen t) with h1 | h1
        · rcases Nat.eq_zero_or_pos (Lib.bitLen t) with h2 | h2
          · exact .inl h2
          · exact absurd (HF.out ⟨h2, h1⟩) (by omega)
        · exact .inr h1
      · have := turnTo_more bs a t ht (32 - Lib.bitLen t)
        rw [show Lib.bitLen t + (32 - Lib.bitLen t) = 32 by omega] at this
        rw [← this]
        exact OW.out
end Go.Proofs.Ytmfkngijgellhaa
