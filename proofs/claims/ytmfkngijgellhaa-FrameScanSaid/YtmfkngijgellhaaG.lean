/- Walks: bits.Len32 and crc.Burst. -/
import Derived.Test.YtmfkngijgellhaaB
import Derived.Test.YtmfkngijgellhaaGa
namespace Go.Proofs.Ytmfkngijgellhaa
open Go.RowKit Go.St
set_option linter.unusedVariables false

theorem and_bit (t k : Nat) (ht : t < 4294967296) : (bits .and .u32 ((t : Int) / 2 ^ k) 1 == 1) = if t.testBit k then true else false := by
  have h1 : (t : Int) / 2 ^ k = ((t / 2 ^ k : Nat) : Int) := by simp
  have h2 : t / 2 ^ k < 4294967296 := Nat.lt_of_le_of_lt (Nat.div_le_self _ _) ht
  have h3 := u32_and_nat (t / 2 ^ k) 1 h2 (by decide)
  rw [h1, show (1 : Int) = ((1 : Nat) : Int) from rfl, h3, nat_mask1]
  rw [Nat.testBit_eq_decide_div_mod_eq]
  by_cases h : t / 2 ^ k % 2 = 1
  · simp [h]
  · have : t / 2 ^ k % 2 = 0 := by omega
    simp [this]

theorem bit_xor (x : UInt8) (p : Nat) : bits .xor .u8 ((x.toNat : Nat) : Int) ((2 : Int) ^ (p % 8) % 256) = (((x ^^^ UInt8.ofNat (2 ^ (p % 8))).toNat : Nat) : Int) := by
  have e : (2 : Int) ^ (p % 8) % 256 = (((UInt8.ofNat (2 ^ (p % 8))).toNat : Nat) : Int) := by
    rw [UInt8.toNat_ofNat']
    simp
  rw [e, bt_xor]

/-- A burst that goes beyond the end, or begins ahead of the first bit. -/
theorem burst_neg (A : Option Addr) (n c : Nat) (hn : n ≤ 140737488355328) (a : Int) (ha : a < 0) (t : Nat) (ht : t < 4294967296) (w : World) :
    Calls Try.prog 23 #[.slice A n c, .int .i64 a, .int .u32 (t : Int)] w fun e w' => e = .returned (.tuple #[.slice none 0 0, .int .i64 2]) ∧ w = w' := by
  have hL := Lib.bitLen_le t 32 (by decide) ht
  go_enter Try.func23, Try.ntmps23
  go_wp2_with fail
  refine (len32_any t _ (by omega) (by omega)).mono ?_
  rintro e w' ⟨rfl, rfl⟩
  rw [Int.toNat_natCast]
  generalize Lib.bitLen t = L at *
  go_wp2
  go_ret2
  exact ⟨rfl, rfl⟩

theorem burst_far (A : Option Addr) (n c : Nat) (hn : n ≤ 140737488355328) (a : Int) (ha : 0 ≤ a) (t : Nat) (ht : t < 4294967296) (h1 : 1 ≤ Lib.bitLen t) (hf : 8 * (n : Int) - Lib.bitLen t < a) (w : World) :
    Calls Try.prog 23 #[.slice A n c, .int .i64 a, .int .u32 (t : Int)] w fun e w' => e = .returned (.tuple #[.slice none 0 0, .int .i64 2]) ∧ w = w' := by
  have hL := Lib.bitLen_le t 32 (by decide) ht
  go_enter Try.func23, Try.ntmps23
  go_wp2_with fail
  refine (len32_any t _ (by omega) (by omega)).mono ?_
  rintro e w' ⟨rfl, rfl⟩
  rw [Int.toNat_natCast]
  generalize Lib.bitLen t = L at *
  go_wp2
  go_ret2
  exact ⟨rfl, rfl⟩

set_option maxHeartbeats 1000000 in
theorem burst_yes (A : Option Addr) (n c B : Nat) (bs : List UInt8) (hl : bs.length = n) (hn : n ≤ 140737488355328) (a : Nat) (ha64 : (a : Int) ≤ 9223372036854775807) (t : Nat) (ht : t < 4294967296) (hf : Lib.bitLen t = 0 ∨ a + Lib.bitLen t ≤ 8 * n) (w : World)
    (hr : Rd w B A (bv bs)) (hB : B ≤ w.heap.size) :
    Calls Try.prog 23 #[.slice A n c, .int .i64 (a : Int), .int .u32 (t : Int)] w fun e w' => ∃ v, e = .returned (.tuple #[v, .int .i64 0]) ∧ w'.ownsRow w.heap.size 5 1 v n (bv (CrcM.turnTo bs a t (Lib.bitLen t))) ∧ Below w.heap.size w w' := by
  have hL := Lib.bitLen_le t 32 (by decide) ht
  have HL := Lib.hid hl; clear hl
  have HR := Lib.hid hr; clear hr
  go_enter Try.func23, Try.ntmps23
  go_wp2_with fail
  refine (len32_any t _ (by omega) (by omega)).mono ?_
  rintro e w' ⟨rfl, rfl⟩
  rw [Int.toNat_natCast]
  generalize hbl : Lib.bitLen t = L at *
  have HBL := Lib.hid hbl; clear hbl
  by_cases h0 : L = 0
  · subst h0
    clear hf
    have hd : (0 : Int) ≤ (a : Int) := by omega
    go_wp2_with (at_builtin; refine wpList_app sty22 _ (.tmp 30) rfl rfl w.heap.size (World.ownsRow_nil w _ _ _) rfl n c HR.out rfl (by rw [bv_length, HL.out]; omega) (bv_one _) (by unfold maxLen; omega) (by omega) (Nat.le_refl _) ?_; intro v1 w1 own1 gr1 nil1 at1)
    refine wp_loop_rounds 1 ?_
    rw [rounds_succ]
    go_wp2
    go_ret2
    exact ⟨_, rfl, by rw [HBL.out]; exact own_eq own1 (by omega) (by simp [CrcM.turnTo]), (Below.refl _ _).grown gr1 (Nat.le_refl _) (by simp [Value.ownBlock])⟩
  · have h1 : 1 ≤ L := by omega
    have h2 : (a : Int) + L ≤ 8 * (n : Int) := by omega
    clear hf h0
    go_wp2_with (at_builtin; refine wpList_app sty22 _ (.tmp 30) rfl rfl w.heap.size (World.ownsRow_nil w _ _ _) rfl n c HR.out rfl (by rw [bv_length, HL.out]; omega) (bv_one _) (by unfold maxLen; omega) (by omega) (Nat.le_refl _) ?_; intro v1 w1 own1 gr1 nil1 at1)
    have hb1 : Below w.heap.size w w1 := (Below.refl _ _).grown gr1 (Nat.le_refl _) (by simp [Value.ownBlock])
    have O1 := Lib.hid (own_eq (m := n) (ys := bv (CrcM.turnTo bs a t 0)) own1 (by omega) (by simp [CrcM.turnTo]))
    clear own1 gr1 nil1 at1
    go_loopw [10] (fun i wr => ∃ k : Nat, k ≤ L ∧ i = .int .i64 k ∧ wr.ownsRow w.heap.size 5 1 v1 n (bv (CrcM.turnTo bs a t k)) ∧ Below w.heap.size w wr) (fun i _ => L - (intOf i).toNat)
    case atStart => exact ⟨0, Nat.zero_le _, rfl, O1.out, hb1⟩
    case round =>
      obtain ⟨k, hk, rfl, hown, hbw⟩ := hrel
      clear O1 hb1
      by_cases hlt : k < L
      · obtain ⟨g, c3, rfl, hnc, hcm, hg1, hg2⟩ := own_blk hown (by omega)
        have OW := Lib.hid hown; clear hown
        have hand := and_bit t k ht
        have hp : (a + k) / 8 < n := by omega
        have hpl : (a + k) / 8 < (CrcM.turnTo bs a t k).length := by rw [CrcM.turnTo_length, HL.out]; exact hp
        have hcx := OW.out.cellAt ((a + k) / 8) (by omega)
        rw [bv_get _ _ hpl] at hcx
        unfold bt at hcx
        have hfx := OW.out.frozenAt ((a + k) / 8)
        by_cases hbit : t.testBit k
        · rw [if_pos hbit] at hand
          have e2 := bit_xor ((CrcM.turnTo bs a t k)[(a + k) / 8]) (a + k)
          go_wp2
          go_region
          go_wp2
          have o2 := (OW.out.stored ((a + k) / 8) (bt ((CrcM.turnTo bs a t k)[(a + k) / 8] ^^^ UInt8.ofNat (2 ^ ((a + k) % 8))))).1
          rw [bv_set, modify_set _ _ _ hpl] at o2
          have e3 : CrcM.turnTo bs a t (k + 1) = (CrcM.turnTo bs a t k).modify ((a + k) / 8) (· ^^^ UInt8.ofNat (2 ^ ((a + k) % 8))) := by
            rw [CrcM.turnTo, if_pos hbit]; rfl
          exact ⟨⟨k + 1, by omega, by go_num, by rw [e3]; exact o2, (hbw.setCell (p := ⟨g, (a + k) / 8, none⟩) hg1 _).drew⟩, by simp [intOf]; omega⟩
        · rw [if_neg hbit] at hand
          go_wp2
          exact ⟨⟨k + 1, by omega, by go_num, by rw [CrcM.turnTo, if_neg hbit]; exact OW.out, hbw⟩, by simp [intOf]; omega⟩
      · obtain rfl : k = L := by omega
        go_wp2
        go_ret2
        exact ⟨_, rfl, by rw [HBL.out]; exact hown, hbw⟩
end Go.Proofs.Ytmfkngijgellhaa
