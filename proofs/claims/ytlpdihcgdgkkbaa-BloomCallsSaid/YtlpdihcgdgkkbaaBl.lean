/- Walks: the reference's Has. -/
import Derived.Test.YtlpdihcgdgkkbaaBk
namespace Go.Proofs.Ytlpdihcgdgkkbaa
open Go.RowKit Go.St
set_option linter.unusedVariables false
set_option linter.unusedSimpArgs false
set_option maxRecDepth 100000

set_option maxHeartbeats 1600000 in
theorem rhas_any (A : Option Addr) (n c B : Nat) (f : List UInt8) (hl : f.length = n) (hn : n ≤ 500000000) (s : ByteArray) (hs : s.size ≤ 9223372036854775807) (w : World) (hr : Rd w B A (bv f)) (hB : B ≤ w.heap.size) :
    Calls Try.prog 24 #[.slice A n c, .string s] w fun e w' => e = .returned (.tuple #[.bool (hasB f s.data.toList), .int .i64 (bchk f)]) ∧ Below w.heap.size w w' := by
  rcases bchk_or f with hc | hc
  · obtain ⟨h2, h3, h4⟩ := bchk_ok hc
    obtain ⟨b, off, rfl, hb, hcell⟩ := hr.at_ (bv_get f 0 (by omega))
    have hg : f.getD 0 0 = f[0]'(by omega) := by simp [List.getD, show 0 < f.length by omega]
    rw [← hg] at hcell
    unfold bt at hcell
    rw [Nat.add_zero] at hcell
    have hck := rcheck08_any (some ⟨b, off, none⟩) n c B f hl w hr
    have hb0 : hasB f s.data.toList = ball f s.data.toList := by unfold hasB; rw [hc]; simp
    rw [hb0]
    rw [hc] at hck ⊢
    obtain ⟨h, hh⟩ : ∃ h, h = bhash s.data.toList := ⟨_, rfl⟩
    obtain ⟨k, hk⟩ : ∃ k, k = (f.getD 0 0).toNat := ⟨_, rfl⟩
    obtain ⟨m, hm⟩ : ∃ m, m = 8 * (f.length - 1) := ⟨_, rfl⟩
    rw [← hk] at hcell h3 h4
    have e8 : (8 : Int) * ((n : Int) - 1) = ((m : Nat) : Int) := by omega
    have hm0 : 0 < m := by omega
    have hm1 : m < 4294967296 := by omega
    have hmn : m + 8 = 8 * n := by omega
    have hpl := fun w => places_any s hs k m (by omega) hm0 hm1 w
    rw [← hh] at hpl
    have H2 := Lib.hid h2; have HH := Lib.hid hh; have HK := Lib.hid hk; have HM := Lib.hid hm; have HC := Lib.hid hck; have HR := Lib.hid hr; have HL := Lib.hid hl; have E8 := Lib.hid e8; have HMN := Lib.hid hmn; have HP := Lib.hid hpl
    have n2 : 2 ≤ n := by omega
    clear h2 hh hk hm hck hg hb0 hc hr hl e8 hmn hs hpl
    go_enter Try.func24, Try.ntmps24
    go_wp2_with fail
    refine HC.out.mono ?_
    rintro e w' ⟨rfl, rfl⟩
    go_wp2_with fail
    rw [E8.out]
    refine (HP.out _).mono ?_
    rintro e w1 ⟨v, rfl, own1, hb1⟩
    obtain ⟨A1, c1, rfl, r1⟩ := own_rd own1
    obtain ⟨b1, off1, rfl, hb1', hc1⟩ := r1.at_ (iv_get _ 0 (by rw [bplaces_length]; omega))
    have HB1 := Lib.hid hb1; have R1 := Lib.hid r1; have RF := Lib.hid (HR.out.below (hb1.mono hB))
    clear hcell own1 hc1 hb1 r1
    go_wp2_with fail
    go_loopw [8] (fun i wr => ∃ j z : Nat, j ≤ k ∧ i = .int .i64 j ∧ wr = w1.drewN z ∧ Hid (bupto f h m j)) (fun i _ => k - (intOf i).toNat)
    case atStart => exact ⟨0, 0, Nat.zero_le _, rfl, rfl, fun j hj => absurd hj (by omega)⟩
    case round =>
      obtain ⟨j, z, hj, rfl, rfl, hU⟩ := hrel
      by_cases hlt : j < k
      · have hp := bplace_lt h j m hm0
        have hpn : 1 + bplace h j m / 8 < n := by have := HMN.out; omega
        obtain ⟨b', off', e, -, hx⟩ := RF.out.at_ (bv_getD f (1 + bplace h j m / 8) (by rw [HL.out]; exact hpn))
        injection e with e
        injection e with e1 e2
        subst e1 e2
        obtain ⟨b', off', e, -, hy⟩ := R1.out.at_ (iv_get (bplaces h k m) j (by rw [bplaces_length]; exact hlt))
        injection e with e
        injection e with e1 e2
        subst e1 e2
        have hj2 : (bplaces h k m)[j]'(by rw [bplaces_length]; exact hlt) = bplace h j m := by simp [bplaces]
        rw [hj2] at hy
        obtain ⟨p, hpp⟩ : ∃ p, p = bplace h j m := ⟨_, rfl⟩
        rw [← hpp] at hp hpn hx hy
        have HPP := Lib.hid hpp
        clear hpp hj2
        have hpi : (1 : Int) + (p : Int) / 8 < (n : Int) := by omega
        have hp8 : p % 8 < 8 := Nat.mod_lt _ (by omega)
        have hxx : (f.getD (1 + p / 8) 0).toNat < 256 := UInt8.toNat_lt _
        have hbb := and1_u8 (f.getD (1 + p / 8) 0).toNat (p % 8) hxx
        have hgg : bget f p = ((f.getD (1 + p / 8) 0).toNat / 2 ^ (p % 8) % 2 == 1) := rfl
        rw [← hgg] at hbb
        have HG := Lib.hid hgg; clear hgg
        generalize (f.getD (1 + p / 8) 0).toNat = x at *
        by_cases hbg : bget f p = true
        · rw [hbg] at hbb
          have HBG := Lib.hid hbg; clear hbg HG
          go_wp2_with fail
          go_quiet (fail)
          go_wp2
          refine ⟨⟨j + 1, z + nq, by omega, by go_num, by simp, fun i hi => ?_⟩, by simp [intOf]; omega⟩
          rcases Nat.lt_or_ge i j with h1 | h1
          · exact hU.out i h1
          · obtain rfl : i = j := by omega
            rw [← HPP.out]
            exact HBG.out
        · have hbf : bget f p = false := by simpa using hbg
          rw [hbf] at hbb
          have HBG := Lib.hid hbf; clear hbg hbf HG
          have hna := ball_not HH.out HM.out HK.out hlt (by rw [← HPP.out]; exact HBG.out)
          have HNA := Lib.hid hna; clear hna
          go_wp2_with fail
          go_quiet (fail)
          go_wp2
          go_ret2
          rw [HNA.out]
          have hb1 := HB1.out
          exact ⟨rfl, ⟨hb1.os, hb1.tape, hb1.output, hb1.size, hb1.block⟩⟩
      · obtain rfl : j = k := by omega
        have hall := ball_of HH.out HM.out HK.out hU.out
        have HA := Lib.hid hall; clear hall
        go_wp2
        go_ret2
        rw [HA.out]
        have hb1 := HB1.out
        exact ⟨rfl, ⟨hb1.os, hb1.tape, hb1.output, hb1.size, hb1.block⟩⟩
  · have hck := rcheck08_any A n c B f hl w hr
    have hb0 : hasB f s.data.toList = false := by unfold hasB; rw [hc]; rfl
    rw [hb0]
    rw [hc] at hck ⊢
    have HC := Lib.hid hck
    clear hck hb0 hc hr hl
    go_enter Try.func24, Try.ntmps24
    go_wp2_with fail
    refine HC.out.mono ?_
    rintro e w' ⟨rfl, rfl⟩
    go_wp2
    go_ret2
    exact ⟨rfl, Below.refl _ _⟩
end Go.Proofs.Ytlpdihcgdgkkbaa
