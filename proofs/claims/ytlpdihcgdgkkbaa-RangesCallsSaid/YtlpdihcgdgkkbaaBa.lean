/- Walks: a key's hash, its bits, what is a filter. -/
import Derived.Test.YtlpdihcgdgkkbaaChecked
import Derived.Test.YtlpdihcgdgkkbaaBmath
import Derived.Test.YtlpdihcgdgkkbaaBase
import Derived.Test.YtlpdihcgdgkkbaaQTail
import Derived.WalkSpells
import Derived.Handy
import Derived.Lib.Hide
import Derived.Deep.LoopGhost
namespace Go.Proofs.Ytlpdihcgdgkkbaa
open Go.RowKit Go.St
set_option linter.unusedVariables false
set_option linter.unusedSimpArgs false

theorem hini_val : (14695981039346656037 : Int) = ((hini : Nat) : Int) := by unfold hini; rfl
theorem wrapn (a : Nat) : IntKind.u64.wrap (a : Int) = ((a % hmod : Nat) : Int) := by
  unfold hmod
  simp [IntKind.wrap, IntKind.signed, IntKind.bits]
theorem wrap_mul (a : Nat) : IntKind.u64.wrap ((a : Int) * 1099511628211) = (((a * hmul) % hmod : Nat) : Int) := by
  rw [← wrapn]
  unfold hmul
  congr 1
set_option maxHeartbeats 400000 in
theorem hash_any (s : ByteArray) (hs : s.size ≤ 9223372036854775807) (w : World) : Calls Try.prog 18 #[.string s] w fun e w' => e = .returned (.int .u64 (bhash s.data.toList : Nat)) ∧ w = w' := by
  go_enter Try.func18, Try.ntmps18
  go_wp2
  go_loop [3, 7] (fun h i => ∃ k : Nat, k ≤ s.size ∧ i = .int .i64 k ∧ h = .int .u64 (hrun hini (s.data.toList.take k) : Nat)) (fun _ i => s.size - (intOf i).toNat)
  case atStart => exact ⟨0, Nat.zero_le _, rfl, by rw [hini_val]; rfl⟩
  case round =>
    obtain ⟨k, hk, rfl, rfl⟩ := hrel
    have hl : hrun hini (s.data.toList.take k) < hmod := hrun_lt _ _ hini_lt
    by_cases hlt : k < s.size
    · have hsn : hrun hini (s.data.toList.take (k + 1)) = hstep (hrun hini (s.data.toList.take k)) (s[k]).toNat := by
        rw [← hrun_snoc, take_snoc s.data.toList k (by simpa using hlt)]; rfl
      have HS := Lib.hid hsn; clear hsn
      have HL := Lib.hid hl; clear hl
      generalize hrun hini (s.data.toList.take k) = h at *
      have hc : (s[k]).toNat < 256 := (s[k]).toNat_lt
      have e1 := u64_xor_nat h (s[k]).toNat (by have := HL.out; unfold hmod at this; exact this) (by omega)
      have E1 := Lib.hid e1; clear e1
      go_wp2
      exact ⟨⟨k + 1, by omega, by go_num, by rw [HS.out, E1.out]; exact int_eq (wrap_mul _)⟩, by simp [intOf]; omega⟩
    · obtain rfl : k = s.size := by omega
      go_wp2
      go_ret
      refine ⟨ret_int ?_, rfl⟩
      rw [List.take_of_length_le (by simp)]
      rfl
set_option maxHeartbeats 400000 in
theorem rhash_any (s : ByteArray) (hs : s.size ≤ 9223372036854775807) (w : World) : Calls Try.prog 29 #[.string s] w fun e w' => e = .returned (.int .u64 (bhash s.data.toList : Nat)) ∧ w = w' := by
  go_enter Try.func29, Try.ntmps29
  go_wp2
  go_loop [3, 4] (fun h i => ∃ k : Nat, k ≤ s.size ∧ i = .int .i64 k ∧ h = .int .u64 (hrun hini (s.data.toList.take k) : Nat)) (fun _ i => s.size - (intOf i).toNat)
  case atStart => exact ⟨0, Nat.zero_le _, rfl, by rw [hini_val]; rfl⟩
  case round =>
    obtain ⟨k, hk, rfl, rfl⟩ := hrel
    have hl : hrun hini (s.data.toList.take k) < hmod := hrun_lt _ _ hini_lt
    by_cases hlt : k < s.size
    · have hsn : hrun hini (s.data.toList.take (k + 1)) = hstep (hrun hini (s.data.toList.take k)) (s[k]).toNat := by
        rw [← hrun_snoc, take_snoc s.data.toList k (by simpa using hlt)]; rfl
      have HS := Lib.hid hsn; clear hsn
      have HL := Lib.hid hl; clear hl
      generalize hrun hini (s.data.toList.take k) = h at *
      have hc : (s[k]).toNat < 256 := (s[k]).toNat_lt
      have e1 := u64_xor_nat h (s[k]).toNat (by have := HL.out; unfold hmod at this; exact this) (by omega)
      have E1 := Lib.hid e1; clear e1
      go_wp2
      exact ⟨⟨k + 1, by omega, by go_num, by rw [HS.out, E1.out]; exact int_eq (wrap_mul _)⟩, by simp [intOf]; omega⟩
    · obtain rfl : k = s.size := by omega
      go_wp2
      go_ret
      refine ⟨ret_int ?_, rfl⟩
      rw [List.take_of_length_le (by simp)]
      rfl

theorem or1_val (h : Nat) (hh : h < hmod) : bits .or .u64 ((h : Int) / 4294967296) 1 = ((h / 4294967296 ||| 1 : Nat) : Int) := by
  have e : (h : Int) / 4294967296 = ((h / 4294967296 : Nat) : Int) := by omega
  have h2 : h / 4294967296 < 18446744073709551616 := by unfold hmod at hh; omega
  rw [e]
  exact u64_or_nat _ 1 h2 (by omega)
theorem and32_val (h : Nat) (hh : h < hmod) : bits .and .u64 (h : Int) 4294967295 = ((h % 4294967296 : Nat) : Int) := by
  have h2 := u64_and_nat h 4294967295 (by unfold hmod at hh; exact hh) (by omega)
  rw [show h &&& 4294967295 = h % 4294967296 from Nat.and_two_pow_sub_one_eq_mod h 32] at h2
  exact h2
theorem bit_val (h i m : Nat) (hm : 0 < m) (hm2 : m < 4294967296) :
    wrap64 ((IntKind.u64.wrap (((h % 4294967296 : Nat) : Int) + IntKind.u64.wrap ((i : Int) * ((h / 4294967296 ||| 1 : Nat) : Int)))).tmod (m : Int)) = ((bplace h i m : Nat) : Int) := by
  have e1 : (i : Int) * ((h / 4294967296 ||| 1 : Nat) : Int) = ((i * (h / 4294967296 ||| 1) : Nat) : Int) := (Int.natCast_mul _ _).symm
  rw [e1, wrapn]
  have e2 : ((h % 4294967296 : Nat) : Int) + ((i * (h / 4294967296 ||| 1) % hmod : Nat) : Int) = ((h % 4294967296 + i * (h / 4294967296 ||| 1) % hmod : Nat) : Int) := (Int.natCast_add _ _).symm
  rw [e2, wrapn, Nat.add_mod_mod]
  unfold bplace
  generalize (h % 4294967296 + i * (h / 4294967296 ||| 1)) % hmod = x
  have e3 : ((x : Nat) : Int).tmod (m : Int) = ((x % m : Nat) : Int) := by
    rw [Int.tmod_eq_emod_of_nonneg (by omega)]; rfl
  rw [e3]
  have := Nat.mod_lt x hm
  exact IntWalk.wrap64_in _ ⟨by omega, by omega⟩

set_option maxHeartbeats 400000 in
theorem bit_any (h i m : Nat) (hh : h < hmod) (hi : i < 256) (hm : 0 < m) (hm2 : m < 4294967296) (w : World) :
    Calls Try.prog 69 #[.int .u64 (h : Int), .int .i64 (i : Int), .int .i64 (m : Int)] w fun e w' => e = .returned (.int .i64 (bplace h i m : Nat)) ∧ w = w' := by
  have e1 := or1_val h hh
  have e2 := and32_val h hh
  have e3 := bit_val h i m hm hm2
  have E1 := Lib.hid e1; have E2 := Lib.hid e2; have E3 := Lib.hid e3
  have HH := Lib.hid hh; clear hh e1 e2 e3
  go_enter Try.func69, Try.ntmps69
  go_wp2
  go_ret
  refine ⟨ret_int ?_, rfl⟩
  rw [E1.out, E2.out]
  exact E3.out

/-- Whether bytes are a filter. -/
def bchk (l : List UInt8) : Int := if 2 ≤ l.length ∧ 1 ≤ (l.getD 0 0).toNat ∧ (l.getD 0 0).toNat ≤ 12 then 0 else 5
set_option maxHeartbeats 400000 in
theorem bcheck_any (A : Option Addr) (n c B : Nat) (l : List UInt8) (hl : l.length = n) (w : World) (hr : Rd w B A (bv l)) :
    Calls Try.prog 19 #[.slice A n c] w fun e w' => e = .returned (.int .i64 (bchk l)) ∧ w = w' := by
  by_cases h2 : n < 2
  · have hc : bchk l = 5 := by unfold bchk; rw [if_neg (by omega)]
    have HC := Lib.hid hc; clear hc hl
    go_enter Try.func19, Try.ntmps19
    go_wp2
    go_ret
    exact ⟨ret_int HC.out.symm, rfl⟩
  · obtain ⟨b, off, rfl, hb, hcell⟩ := hr.at_ (bv_get l 0 (by omega))
    have hg : l.getD 0 0 = l[0]'(by omega) := by simp [List.getD, show 0 < l.length by omega]
    unfold bt at hcell
    rw [Nat.add_zero] at hcell
    have hc : bchk l = if 1 ≤ (l[0]'(by omega)).toNat ∧ (l[0]'(by omega)).toNat ≤ 12 then 0 else 5 := by
      unfold bchk
      rw [hg]
      by_cases h : 1 ≤ (l[0]'(by omega)).toNat ∧ (l[0]'(by omega)).toNat ≤ 12
      · rw [if_pos ⟨by omega, h⟩, if_pos h]
      · rw [if_neg (fun k => h k.2), if_neg h]
    generalize (l[0]'(by omega)).toNat = x at *
    have HC := Lib.hid hc; clear hc hg hr hl
    have h3 : 2 ≤ n := by omega
    clear h2
    go_enter Try.func19, Try.ntmps19
    go_wp2
    all_goals
      go_ret
      refine ⟨ret_int ?_, rfl⟩
      rw [HC.out]
      split <;> first | rfl | omega
end Go.Proofs.Ytlpdihcgdgkkbaa
