/- Walks: whether a filter may have a key. -/
import Derived.Test.YtlpdihcgdgkkbaaBa
import Derived.BigQuiet
namespace Go.Proofs.Ytlpdihcgdgkkbaa
open Go.RowKit Go.St
set_option linter.unusedVariables false
set_option linter.unusedSimpArgs false

def hasB (f : List UInt8) (key : List UInt8) : Bool := decide (bchk f = 0) && ball f key
theorem bchk_ok {f : List UInt8} (h : bchk f = 0) : 2 ≤ f.length ∧ 1 ≤ (f.getD 0 0).toNat ∧ (f.getD 0 0).toNat ≤ 12 := by
  unfold bchk at h
  split at h
  · assumption
  · cases h
theorem bv_getD (f : List UInt8) (i : Nat) (h : i < f.length) : (bv f)[i]? = some (.int .u8 ((f.getD i 0).toNat : Nat)) := by
  rw [bv_get f i h]
  simp [bt, List.getD, h]
theorem and1_u8 (x j : Nat) (hx : x < 256) : (bits .and .u8 ((x : Int) / 2 ^ j) 1 == 0) = !(x / 2 ^ j % 2 == 1) := by
  have h1 : (x : Int) / 2 ^ j = ((x / 2 ^ j : Nat) : Int) := by simp
  have h3 := u8_and_nat (x / 2 ^ j) 1 (Nat.lt_of_le_of_lt (Nat.div_le_self _ _) hx) (by decide)
  rw [h1]
  rw [nat_mask1] at h3
  have h4 : bits .and .u8 ((x / 2 ^ j : Nat) : Int) 1 = ((x / 2 ^ j % 2 : Nat) : Int) := h3
  rw [h4]
  rcases Nat.mod_two_eq_zero_or_one (x / 2 ^ j) with h | h <;> rw [h] <;> rfl
theorem bchk_or (f : List UInt8) : bchk f = 0 ∨ bchk f = 5 := by unfold bchk; split <;> simp

/-- The first rounds' bits are set. -/
def bupto (f : List UInt8) (h m k : Nat) : Prop := ∀ j, j < k → bget f (bplace h j m) = true
theorem ball_of {f key : List UInt8} {h m k : Nat} (hh : h = bhash key) (hm : m = 8 * (f.length - 1)) (hk : k = (f.getD 0 0).toNat) (H : bupto f h m k) : ball f key = true := by
  subst hh hm hk
  unfold ball
  rw [List.all_eq_true]
  intro q hq
  obtain ⟨i, hi, rfl⟩ := List.mem_map.1 hq
  exact H i (List.mem_range.1 hi)
theorem ball_not {f key : List UInt8} {h m k j : Nat} (hh : h = bhash key) (hm : m = 8 * (f.length - 1)) (hk : k = (f.getD 0 0).toNat) (hj : j < k) (H : bget f (bplace h j m) = false) : ball f key = false := by
  subst hh hm hk
  unfold ball
  rw [List.all_eq_false]
  exact ⟨_, List.mem_map.2 ⟨j, List.mem_range.2 hj, rfl⟩, by rw [H]; decide⟩

set_option maxHeartbeats 800000 in
theorem has_any (A : Option Addr) (n c B : Nat) (f : List UInt8) (hl : f.length = n) (hn : n ≤ 500000000) (s : ByteArray) (hs : s.size ≤ 9223372036854775807) (w : World) (hr : Rd w B A (bv f)) :
    Calls Try.prog 16 #[.slice A n c, .string s] w fun e w' => e = .returned (.tuple #[.bool (hasB f s.data.toList), .int .i64 (bchk f)]) ∧ w = w' := by
  rcases bchk_or f with hc | hc
  · obtain ⟨h2, h3, h4⟩ := bchk_ok hc
    obtain ⟨b, off, rfl, hb, hcell⟩ := hr.at_ (bv_get f 0 (by omega))
    have hg : f.getD 0 0 = f[0]'(by omega) := by simp [List.getD, show 0 < f.length by omega]
    rw [← hg] at hcell
    unfold bt at hcell
    rw [Nat.add_zero] at hcell
    have hck := bcheck_any (some ⟨b, off, none⟩) n c B f hl w hr
    have hlt := bhash_lt s.data.toList
    have hhs := hash_any s hs
    have hb0 : hasB f s.data.toList = ball f s.data.toList := by unfold hasB; rw [hc]; simp
    rw [hb0]
    rw [hc] at hck ⊢
    obtain ⟨h, hh⟩ : ∃ h, h = bhash s.data.toList := ⟨_, rfl⟩
    obtain ⟨k, hk⟩ : ∃ k, k = (f.getD 0 0).toNat := ⟨_, rfl⟩
    obtain ⟨m, hm⟩ : ∃ m, m = 8 * (f.length - 1) := ⟨_, rfl⟩
    rw [← hh] at hhs hlt
    rw [← hk] at hcell h3 h4
    have e8 : (8 : Int) * ((n : Int) - 1) = ((m : Nat) : Int) := by omega
    have hm0 : 0 < m := by omega
    have hm1 : m < 4294967296 := by omega
    have hmn : m + 8 = 8 * n := by omega
    have H2 := Lib.hid h2; have HH := Lib.hid hh; have HK := Lib.hid hk; have HM := Lib.hid hm; have HC := Lib.hid hck; have HLT := Lib.hid hlt; have HS := Lib.hid hhs; have HR := Lib.hid hr; have HL := Lib.hid hl; have E8 := Lib.hid e8; have HMN := Lib.hid hmn
    have n2 : 2 ≤ n := by omega
    clear h2 hh hk hm hck hlt hhs hg hb0 hc hr hl e8 hmn hs
    go_enter Try.func16, Try.ntmps16
    go_wp2_with fail
    refine HC.out.mono ?_
    rintro e w' ⟨rfl, rfl⟩
    go_wp2_with fail
    refine (HS.out _).mono ?_
    rintro e w' ⟨rfl, rfl⟩
    go_wp2_with fail
    go_loop [21] (fun i => ∃ j : Nat, j ≤ k ∧ i = .int .i64 j ∧ Hid (bupto f h m j)) (fun i => k - (intOf i).toNat)
    case atStart => exact ⟨0, Nat.zero_le _, rfl, fun j hj => absurd hj (by omega)⟩
    case round =>
      obtain ⟨j, hj, rfl, hU⟩ := hrel
      by_cases hlt : j < k
      · have j12 : j < 256 := by omega
        have hp := bplace_lt h j m hm0
        have hbit := fun w => bit_any h j m HLT.out j12 hm0 hm1 w
        have HB := Lib.hid hbit; clear hbit
        have hpn : 1 + bplace h j m / 8 < n := by have := HMN.out; omega
        obtain ⟨b', off', e, -, hx⟩ := HR.out.at_ (bv_getD f (1 + bplace h j m / 8) (by rw [HL.out]; exact hpn))
        injection e with e
        injection e with e1 e2
        subst e1 e2
        go_wp2_with fail
        rw [E8.out]
        refine (HB.out _).mono ?_
        rintro e w' ⟨rfl, rfl⟩
        obtain ⟨p, hpp⟩ : ∃ p, p = bplace h j m := ⟨_, rfl⟩
        rw [← hpp] at hp hpn hx ⊢
        have HPP := Lib.hid hpp
        clear hpp
        have hxx : (f.getD (1 + p / 8) 0).toNat < 256 := UInt8.toNat_lt _
        have hbb := and1_u8 (f.getD (1 + p / 8) 0).toNat (p % 8) hxx
        have hgg : bget f p = ((f.getD (1 + p / 8) 0).toNat / 2 ^ (p % 8) % 2 == 1) := rfl
        rw [← hgg] at hbb
        have HG := Lib.hid hgg; clear hgg
        generalize (f.getD (1 + p / 8) 0).toNat = x at *
        by_cases hbg : bget f p = true
        · rw [hbg] at hbb
          have HBG := Lib.hid hbg; clear hbg HG
          go_wp2
          refine ⟨⟨j + 1, by omega, by go_num, fun i hi => ?_⟩, by simp [intOf]; omega⟩
          rcases Nat.lt_or_ge i j with h1 | h1
          · exact hU.out i h1
          · obtain rfl : i = j := by omega
            rw [← HPP.out]
            exact HBG.out
        · have hbf : bget f p = false := by simpa using hbg
          rw [hbf] at hbb
          have HBG := Lib.hid hbf; clear hbg hbf HG
          have hna := ball_not HH.out HM.out HK.out hlt (by rw [← HPP.out]; exact HBG.out)
          have HNA := Lib.hid hna; clear hna
          go_wp2
          go_ret2
          rw [HNA.out]
          exact ⟨rfl, rfl⟩
      · obtain rfl : j = k := by omega
        have hall := ball_of HH.out HM.out HK.out hU.out
        have HA := Lib.hid hall; clear hall
        go_wp2
        go_ret2
        rw [HA.out]
        exact ⟨rfl, rfl⟩
  · have hck := bcheck_any A n c B f hl w hr
    have hb0 : hasB f s.data.toList = false := by unfold hasB; rw [hc]; rfl
    rw [hb0]
    rw [hc] at hck ⊢
    have HC := Lib.hid hck
    clear hck hb0 hc hr hl
    go_enter Try.func16, Try.ntmps16
    go_wp2_with fail
    refine HC.out.mono ?_
    rintro e w' ⟨rfl, rfl⟩
    go_wp2
    go_ret2
    exact ⟨rfl, rfl⟩
end Go.Proofs.Ytlpdihcgdgkkbaa
