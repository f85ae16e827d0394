/- Walks: Pick, and the reference's checksum and seal. -/
import Derived.Test.YtmfkngijgellhaaB
namespace Go.Proofs.Ytmfkngijgellhaa
open Go.RowKit Go.St

/-- The number that Pick says. -/
def pickN (x : Int) (n : Nat) : Nat := (x % (n : Int)).toNat
theorem pickN_lt (x : Int) (n : Nat) (h : 0 < n) : pickN x n < n := by
  unfold pickN
  have h1 := Int.emod_nonneg x (show (n : Int) ≠ 0 by omega)
  have h2 := Int.emod_lt_of_pos x (show (0 : Int) < n by omega)
  omega

theorem pickN_neg (x : Int) (n : Nat) (h : 0 < n) (hneg : x.tmod (n : Int) < 0) : ((pickN x n : Nat) : Int) = x.tmod (n : Int) + (n : Int) := by
  unfold pickN
  have h1 := Int.emod_nonneg x (show (n : Int) ≠ 0 by omega)
  rw [Int.toNat_of_nonneg h1, Int.emod_eq_tmod]
  rw [Int.tmod_eq_emod] at hneg ⊢
  split at hneg <;> split <;> simp_all <;> omega
theorem pickN_pos (x : Int) (n : Nat) (h : 0 < n) (hneg : 0 ≤ x.tmod (n : Int)) : ((pickN x n : Nat) : Int) = x.tmod (n : Int) := by
  unfold pickN
  have h1 := Int.emod_nonneg x (show (n : Int) ≠ 0 by omega)
  have h2 := Int.emod_lt_of_pos x (show (0 : Int) < n by omega)
  rw [Int.toNat_of_nonneg h1]
  rw [Int.tmod_eq_emod] at hneg ⊢
  split at hneg <;> split <;> simp_all <;> omega

set_option maxHeartbeats 400000 in
theorem pick_any (x : Int) (hx : (Lit.int .i64 x).wf = true) (n : Nat) (h0 : 0 < n) (hn : n ≤ 9223372036854775807) (w : World) :
    Calls Try.prog 21 #[.int .i64 x, .int .i64 (n : Int)] w fun e w' => e = .returned (.int .i64 (pickN x n : Nat)) ∧ w = w' := by
  have hb : -9223372036854775808 ≤ x ∧ x ≤ 9223372036854775807 := by simpa [Lit.wf, IntKind.min, IntKind.max, IntKind.signed, IntKind.bits] using hx
  obtain ⟨hb1, hb2⟩ := hb
  have h1 := Int.emod_nonneg x (show (n : Int) ≠ 0 by omega)
  have h2 := Int.emod_lt_of_pos x (show (0 : Int) < n by omega)
  by_cases hneg : x.tmod (n : Int) < 0
  · have h3 : 0 ≤ x.tmod (n : Int) + (n : Int) := by rw [← pickN_neg x n h0 hneg]; omega
    go_enter Try.func21, Try.ntmps21
    go_wp2
    go_ret
    refine ⟨ret_int ?_, rfl⟩
    rw [pickN_neg x n h0 hneg]
  · go_enter Try.func21, Try.ntmps21
    go_wp2
    go_ret
    refine ⟨ret_int ?_, rfl⟩
    rw [pickN_pos x n h0 (by omega)]

set_option maxHeartbeats 400000 in
theorem turned_any (s c : Nat) (hs : s < 4294967296) (hc : c < 256) (w : World) :
    Calls Try.prog 46 #[.int .u32 (s : Int), .int .u8 (c : Int)] w fun e w' => e = .returned (.int .u32 (CrcM.cbyte s c : Nat)) ∧ w = w' := by
  have e1 : ((c : Int)) % 4294967296 = (c : Int) := by omega
  have e2 := u32_xor_nat s c hs (by omega)
  have hx : s ^^^ c < 4294967296 := Nat.xor_lt_two_pow (n := 32) (by omega) (by omega)
  go_enter Try.func46, Try.ntmps46
  go_wp2
  clear e1 e2
  have HD : Hid (CrcM.cbyte s c = CrcM.citer 8 (s ^^^ c)) := rfl
  generalize s ^^^ c = x at *
  go_loop [0, 5] (fun s i => ∃ j : Nat, j ≤ 8 ∧ i = .int .i64 j ∧ s = .int .u32 (CrcM.citer j x : Nat)) (fun _ i => 8 - (intOf i).toNat)
  case atStart => exact ⟨0, Nat.zero_le _, rfl, rfl⟩
  case round =>
    obtain ⟨j, hj, rfl, rfl⟩ := hrel
    have ht := CrcM.citer_lt j x hx
    have hst := CrcM.citer_last j x
    have HT := Lib.hid hst; clear hst
    by_cases hj8 : j < 8
    · generalize CrcM.citer j x = t at *
      have e4 := u32_xor_nat (t / 2) 2197175160 (by omega) (by decide)
      by_cases hb : t % 2 = 1
      · have e5 : (((t : Nat) : Int) % 2 == 1) = true := by simp; omega
        have HT2 : Hid (CrcM.citer (j + 1) x = (t / 2) ^^^ 2197175160) := by
          unfold Hid; rw [HT.out]; unfold CrcM.cstep; rw [if_pos hb]
        go_wp2
        exact ⟨⟨j + 1, by omega, by go_num, by rw [HT2.out]; exact int_eq e4⟩, by simp [intOf]; omega⟩
      · have e5 : (((t : Nat) : Int) % 2 == 1) = false := by simp; omega
        have HT2 : Hid (CrcM.citer (j + 1) x = t / 2) := by
          unfold Hid; rw [HT.out]; unfold CrcM.cstep; rw [if_neg hb]
        go_wp2
        exact ⟨⟨j + 1, by omega, by go_num, by rw [HT2.out]; go_num⟩, by simp [intOf]; omega⟩
    · obtain rfl : j = 8 := by omega
      go_wp2
      go_ret
      exact ⟨ret_int (by rw [HD.out]), rfl⟩

set_option maxHeartbeats 400000 in
theorem rmore_any (sum : Nat) (hs : sum < 4294967296) (A : Option Addr) (n c B : Nat) (bs : List UInt8) (hl : bs.length = n) (hn : n ≤ 9223372036854775807) (w : World) (hr : Rd w B A (bv bs)) :
    Calls Try.prog 27 #[.int .u32 (sum : Int), .slice A n c] w fun e w' => e = .returned (.int .u32 (CrcM.cmore sum bs : Nat)) ∧ w = w' := by
  have h0 := not32 sum hs
  have h1 := uns32
  have HL := Lib.hid hl; clear hl
  have HR := Lib.hid hr; clear hr
  go_enter Try.func27, Try.ntmps27
  go_wp2
  clear h0
  go_loop [5, 6] (fun s i => ∃ k : Nat, k ≤ n ∧ i = .int .i64 k ∧ s = .int .u32 (CrcM.crun (4294967295 - sum) (bs.take k) : Nat)) (fun _ i => n - (intOf i).toNat)
  case atStart => exact ⟨0, Nat.zero_le _, rfl, rfl⟩
  case round =>
    obtain ⟨k, hk, rfl, rfl⟩ := hrel
    have hs1 : CrcM.crun (4294967295 - sum) (bs.take k) < 4294967296 := CrcM.crun_lt _ _ (by omega)
    by_cases hlt : k < n
    · obtain ⟨b, off, rfl, hb, hcell⟩ := HR.out.at_ (bv_get bs k (by rw [HL.out]; exact hlt))
      have hsn : CrcM.crun (4294967295 - sum) (bs.take (k + 1)) = CrcM.cbyte (CrcM.crun (4294967295 - sum) (bs.take k)) (bs[k]'(by rw [HL.out]; exact hlt)).toNat := by
        rw [← CrcM.crun_snoc, take_snoc bs k (by rw [HL.out]; exact hlt)]
      have hb := CrcM.u8_lt (bs[k]'(by rw [HL.out]; exact hlt))
      unfold bt at hcell
      generalize CrcM.crun (4294967295 - sum) (bs.take k) = s at *
      generalize (bs[k]'(by rw [HL.out]; exact hlt)).toNat = v at *
      have HS := Lib.hid hsn; clear hsn
      go_wp2_with fail
      refine (turned_any s v hs1 hb _).mono ?_
      rintro e w' ⟨rfl, rfl⟩
      go_wp2
      exact ⟨⟨k + 1, by omega, by go_num, by rw [HS.out]⟩, by simp [intOf]; omega⟩
    · obtain rfl : k = n := by omega
      have h0 := not32 _ hs1
      go_wp2
      go_ret
      refine ⟨ret_int ?_, rfl⟩
      rw [List.take_of_length_le (by rw [HL.out]; exact Nat.le_refl _)]
      rfl

set_option maxHeartbeats 400000 in
theorem rsum_any (A : Option Addr) (n c B : Nat) (bs : List UInt8) (hl : bs.length = n) (hn : n ≤ 9223372036854775807) (w : World) (hr : Rd w B A (bv bs)) :
    Calls Try.prog 26 #[.slice A n c] w fun e w' => e = .returned (.int .u32 (CrcM.cmore 0 bs : Nat)) ∧ w = w' := by
  have HL := Lib.hid hl; clear hl
  have HR := Lib.hid hr; clear hr
  go_enter Try.func26, Try.ntmps26
  go_wp2_with (go_at_call 27; refine (rmore_any 0 (by decide) A n c B bs HL.out hn _ HR.out).mono ?_; rintro e w' ⟨rfl, rfl⟩)
  go_ret
  exact ⟨rfl, rfl⟩

/-- Four cells that were just laid. -/
theorem rd_lit (w : World) (cs : Array Value) (t : TypeId) : Rd (w.alloc (.cells cs t)) (w.heap.size + 1) (some ⟨w.heap.size, 0, none⟩) cs.toList := fun _ => by
  refine ⟨w.heap.size, 0, rfl, by omega, fun i v hv => ?_⟩
  rw [World.cell?_alloc_at _ _ _ _ rfl]
  simpa using hv

set_option maxHeartbeats 400000 in
theorem rsealed_any (A : Option Addr) (n c B : Nat) (bs : List UInt8) (hl : bs.length = n) (hn : n + 4 ≤ 140737488355328) (w : World) (hr : Rd w B A (bv bs)) (hB : B ≤ w.heap.size) :
    Calls Try.prog 28 #[.slice A n c] w fun e w' => ∃ v, e = .returned v ∧ w'.ownsRow w.heap.size 5 1 v (n + 4) (bv (CrcM.sealed bs)) ∧ Below w.heap.size w w' := by
  have hs := CrcM.cmore_lt 0 bs
  have HL := Lib.hid hl; clear hl
  have HR := Lib.hid hr; clear hr
  go_enter Try.func28, Try.ntmps28
  go_wp2_with fail
  refine (rsum_any A n c B bs HL.out (by omega) _ HR.out).mono ?_
  rintro e w' ⟨rfl, rfl⟩
  generalize hsum : CrcM.cmore 0 bs = s at *
  have HS := Lib.hid hsum; clear hsum
  go_wp2_with (first
    | (at_builtin; refine wpList_app sty22 (.tmp 6) (.tmp 7) rfl rfl w.heap.size (World.ownsRow_lit w #[] 0 (Nat.le_refl _) (by decide) rfl) rfl n c (Rd.alloc HR.out hB _) rfl (by rw [bv_length, HL.out]; omega) (bv_one _) (by unfold maxLen; omega) (by omega) (by simp) ?_; intro v1 w1 own1 gr1 nil1 at1)
    | (at_builtin; refine wpList_app sty22 (.tmp 8) (.tmp 20) rfl rfl w.heap.size (own1.alloc _) rfl 4 4 (rd_lit _ _ _) rfl rfl (by simp [Value.oneCell']) (by unfold maxLen; omega) (by omega) (by have := gr1.size; simp at this ⊢; omega) ?_; intro v2 w2 own2 gr2 nil2 at2))
  go_ret
  have hb1 : Below w.heap.size w w1 := ((Below.refl _ _).alloc (Nat.le_refl _) _).grown gr1 (by simp) (by simp [Value.ownBlock])
  refine ⟨_, rfl, own_eq own2 (by omega) ?_, (hb1.alloc hb1.size _).grown gr2 (by have := hb1.size; simp; omega) (fun g hg => (own1.lt g hg).1)⟩
  have e : CrcM.sealed bs = bs ++ CrcM.le32 s := by unfold CrcM.sealed; rw [HS.out]
  rw [e]
  simp [bv, CrcM.le32, bt_ofNat]
  omega
end Go.Proofs.Ytmfkngijgellhaa
