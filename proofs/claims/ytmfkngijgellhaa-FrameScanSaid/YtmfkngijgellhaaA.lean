/- The walk of crc.More: it computes the checksum of its bytes. -/
import Derived.Test.YtmfkngijgellhaaChecked
import Derived.Test.YtmfkngijgellhaaMath
import Derived.Test.YtmfkngijgellhaaBase
import Derived.WalkKit
import Derived.WalkLawsBesides
import Derived.WalkSpells
import Derived.Handy
import Derived.Lib.Hide
import Derived.Deep.LoopGhost
import Derived.Deep.DeepFit
namespace Go.Proofs.Ytmfkngijgellhaa
open Go.RowKit Go.St

theorem not32 (s : Nat) (h : s < 4294967296) : bits .xor .u32 IntKind.u32.max (s : Int) = ((4294967295 - s : Nat) : Int) := by
  have e : IntKind.u32.max = ((4294967295 : Nat) : Int) := by decide
  rw [e, u32_xor_nat _ _ (by decide) h, CrcM.not_xor s h]
theorem uns32 : IntKind.u32.signed = false := rfl

set_option maxHeartbeats 400000 in
theorem more_any (sum : Nat) (hs : sum < 4294967296) (A : Option Addr) (n c B : Nat) (bs : List UInt8) (hl : bs.length = n) (hn : n ≤ 9223372036854775807) (w : World) (hr : Rd w B A (bv bs)) :
    Calls Try.prog 16 #[.int .u32 (sum : Int), .slice A n c] w fun e w' => e = .returned (.int .u32 (CrcM.cmore sum bs : Nat)) ∧ w = w' := by
  have h0 := not32 sum hs
  have h1 := uns32
  have HL := Lib.hid hl; clear hl
  have HR := Lib.hid hr; clear hr
  go_enter Try.func16, Try.ntmps16
  go_wp2
  clear h0
  go_loop [0, 12] (fun s i => ∃ k : Nat, k ≤ n ∧ i = .int .i64 k ∧ s = .int .u32 (CrcM.crun (4294967295 - sum) (bs.take k) : Nat)) (fun _ i => n - (intOf i).toNat)
  case atStart => exact ⟨0, Nat.zero_le _, rfl, rfl⟩
  case round =>
    obtain ⟨k, hk, rfl, rfl⟩ := hrel
    have hs1 : CrcM.crun (4294967295 - sum) (bs.take k) < 4294967296 := CrcM.crun_lt _ _ (by omega)
    by_cases hlt : k < n
    · obtain ⟨b, off, rfl, hb, hcell⟩ := HR.out.at_ (bv_get bs k (by rw [HL.out]; exact hlt))
      have hsn : CrcM.crun (4294967295 - sum) (bs.take (k + 1)) = CrcM.cbyte (CrcM.crun (4294967295 - sum) (bs.take k)) (bs[k]'(by rw [HL.out]; exact hlt)).toNat := by
        rw [← CrcM.crun_snoc, take_snoc bs k (by rw [HL.out]; exact hlt)]
      have hb := CrcM.u8_lt (bs[k]'(by rw [HL.out]; exact hlt))
      unfold bt at hcell
      generalize CrcM.crun (4294967295 - sum) (bs.take k) = s at *
      generalize (bs[k]'(by rw [HL.out]; exact hlt)).toNat = v at *
      have HS := Lib.hid hsn; clear hsn
      have e1 : ((v : Int)) % 4294967296 = (v : Int) := by omega
      have e2 := u32_xor_nat s v hs1 (by omega)
      go_wp2
      have hx : s ^^^ v < 4294967296 := Nat.xor_lt_two_pow (n := 32) (by omega) (by omega)
      clear e1 e2 hcell
      unfold CrcM.cbyte at HS
      generalize s ^^^ v = x at *
      go_loop [0, 20] (fun s i => ∃ j : Nat, j ≤ 8 ∧ i = .int .i64 j ∧ s = .int .u32 (CrcM.citer j x : Nat)) (fun _ i => 8 - (intOf i).toNat)
      case atStart => exact ⟨0, Nat.zero_le _, rfl, rfl⟩
      case round =>
        obtain ⟨j, hj, rfl, rfl⟩ := hrel
        have ht := CrcM.citer_lt j x hx
        have hst := CrcM.citer_last j x
        have HT := Lib.hid hst; clear hst
        by_cases hj8 : j < 8
        · generalize CrcM.citer j x = t at *
          have e3 : bits .and .u32 (t : Int) 1 = ((t % 2 : Nat) : Int) := by
            have := u32_and_nat t 1 ht (by decide); rw [nat_mask1] at this; exact this
          have e4 := u32_xor_nat (t / 2) 2197175160 (by omega) (by decide)
          by_cases hb : t % 2 = 1
          · have e5 : (((t % 2 : Nat) : Int) == 1) = true := by simp; omega
            have HT2 : Hid (CrcM.citer (j + 1) x = (t / 2) ^^^ 2197175160) := by
              unfold Hid; rw [HT.out]; unfold CrcM.cstep; rw [if_pos hb]
            go_wp2
            exact ⟨⟨j + 1, by omega, by go_num, by rw [HT2.out]; exact int_eq e4⟩, by simp [intOf]; omega⟩
          · have e5 : (((t % 2 : Nat) : Int) == 1) = false := by simp; omega
            have HT2 : Hid (CrcM.citer (j + 1) x = t / 2) := by
              unfold Hid; rw [HT.out]; unfold CrcM.cstep; rw [if_neg hb]
            go_wp2
            exact ⟨⟨j + 1, by omega, by go_num, by rw [HT2.out]; go_num⟩, by simp [intOf]; omega⟩
        · obtain rfl : j = 8 := by omega
          go_wp2
          exact ⟨⟨k + 1, by omega, by go_num, by rw [HS.out]⟩, by simp [intOf]; omega⟩
    · obtain rfl : k = n := by omega
      have h0 := not32 _ hs1
      go_wp2
      go_ret
      refine ⟨ret_int ?_, rfl⟩
      rw [List.take_of_length_le (by rw [HL.out]; exact Nat.le_refl _)]
      rfl
end Go.Proofs.Ytmfkngijgellhaa
