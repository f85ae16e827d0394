/- The walk of the law FrameAltered: it returns true. -/
import Derived.Test.YtmfkngijgellhaaQ
import Derived.Test.YtmfkngijgellhaaR
namespace Go.Proofs.Ytmfkngijgellhaa
open Go.RowKit Go.St
set_option linter.unusedVariables false

theorem burstOK_iff {n : Nat} {a : Int} {t : Nat} (h : burstOK n a t = true) : 0 ≤ a ∧ (Lib.bitLen t = 0 ∨ a + Lib.bitLen t ≤ 8 * n) := by
  unfold burstOK at h
  simpa using h

/-- A frame with a burst in it, and anything behind: corrupt. -/
theorem altered_read (r behind : List UInt8) (hr : r.length ≤ 1048576) (a : Int) (t : Nat) (ht : t < 4294967296) (h0 : t ≠ 0) (hok : burstOK (frameL r).length a t = true) : readE (burstL (frameL r) a t ++ behind) = 6 := by
  obtain ⟨h1, h2⟩ := burstOK_iff hok
  have hb := Lib.bitLenAux_bounds 64 t (by omega) h0
  have hbl : t < 2 ^ Lib.bitLen t := hb.2.2
  have hbp : 1 ≤ Lib.bitLen t := hb.1
  unfold burstL
  rw [if_pos hok]
  rw [frameL_length] at h2
  exact burst_found r behind hr a.toNat t (Lib.bitLen t) (by omega) hbl ht h0

set_option maxHeartbeats 2000000 in
theorem frameAltered_walk (w : World) (A0 : Option Addr) (n0 c0 : Nat) (b0 : List UInt8) (bl0 : b0.length = n0) (lc0 : n0 ≤ c0) (bn0 : c0 ≤ 140737488351232) (rd0 : Rd w w.heap.size A0 (bv b0))
    (A1 : Option Addr) (n1 c1 : Nat) (b1 : List UInt8) (bl1 : b1.length = n1) (lc1 : n1 ≤ c1) (bn1 : c1 ≤ 140737488351232) (rd1 : Rd w w.heap.size A1 (bv b1))
    (a2 : Int) (w2 : (Lit.int .i64 a2).wf = true) (a3 : Int) (w3 : (Lit.int .u32 a3).wf = true) :
    Calls Try.prog 12 #[.slice A0 n0 c0, .slice A1 n1 c1, .int .i64 a2, .int .u32 a3] w fun e w' => e = .returned (.bool true) ∧ Below w.heap.size w w' := by
  have hb3 : 0 ≤ a3 ∧ a3 ≤ 4294967295 := by simpa [Lit.wf, IntKind.min, IntKind.max, IntKind.signed, IntKind.bits] using w3
  have ha : -9223372036854775808 ≤ a2 ∧ a2 ≤ 9223372036854775807 := by simpa [Lit.wf, IntKind.min, IntKind.max, IntKind.signed, IntKind.bits] using w2
  obtain ⟨t, rfl⟩ := Int.eq_ofNat_of_zero_le hb3.1
  have ht : t < 4294967296 := by omega
  have ha2 := ha.2
  clear hb3 ha w2 w3
  have H0 := Lib.hid bl0; clear bl0
  have R0 := Lib.hid rd0; clear rd0
  have H1 := Lib.hid bl1; clear bl1
  have R1 := Lib.hid rd1; clear rd1
  go_enter Try.func12, Try.ntmps12
  go_wp2_with fail
  refine (lives3_any _).mono ?_
  rintro e w1 ⟨rfl, hb1⟩
  have S1 := hb1.size
  by_cases h0 : 4000 < n0
  · have y1 : (4000 : Int) < (n0 : Int) := by omega
    go_wp2
    go_ret
    exact ⟨rfl, hb1⟩
  by_cases h1 : 4000 < n1
  · have y1 : (n0 : Int) ≤ 4000 := by omega
    have y2 : (4000 : Int) < (n1 : Int) := by omega
    go_wp2
    go_ret
    exact ⟨rfl, hb1⟩
  have y1 : (n0 : Int) ≤ 4000 := by omega
  have y2 : (n1 : Int) ≤ 4000 := by omega
  by_cases hz : t = 0
  · have ez : (((t : Nat) : Int) == 0) = true := by subst hz; rfl
    clear hz
    go_wp2
    go_ret
    exact ⟨rfl, hb1⟩
  have ez : (((t : Nat) : Int) == 0) = false := by
    rw [beq_eq_false_iff_ne]
    omega
  have hfl : (frameL b0).length = n0 + 12 := by rw [frameL_length, H0.out]
  have HFL := Lib.hid hfl; clear hfl
  have hae : appE n0 = 0 := by unfold appE; rw [if_neg (by omega)]
  have hal : appL [] b0 = frameL b0 := by unfold appL; rw [if_neg (by rw [H0.out]; omega)]; rfl
  have HAE := Lib.hid hae; clear hae
  have HAL := Lib.hid hal; clear hal
  have HZ := Lib.hid hz; clear hz
  have E1 := Lib.hid (R0.out.below hb1)
  have F1 := Lib.hid (R1.out.below hb1)
  clear R0 R1
  go_wp2_with fail
  refine (append_any none A0 0 0 0 n0 c0 _ [] b0 rfl H0.out (by omega) (by omega) _ Rd.nil (Nat.zero_le _) E1.out S1).mono ?_
  rintro e w2 ⟨v2, rfl, own2, hb2⟩
  rw [HAE.out]
  rw [HAL.out, HFL.out] at own2
  have HB2 : Hid (Below w.heap.size w w2) := hb1.trans (hb2.mono S1)
  have S2 := hb2.size
  obtain ⟨g2, k2, rfl, hnk2, hkm2, _, _⟩ := own_blk own2 (by omega)
  have D2 := Lib.hid (Rd.own own2)
  have F2 := Lib.hid (F1.out.below (hb2.mono S1))
  clear own2 E1 F1 hb1 hb2
  go_wp2_with fail
  refine (burst_any (some ⟨g2, 0, none⟩) (n0 + 12) k2 _ (frameL b0) HFL.out (by omega) a2 ha2 t ht _ D2.out (Nat.le_refl _)).mono ?_
  rintro e w3 ⟨v3, rfl, own3, hb3⟩
  have HB3 : Hid (Below w.heap.size w w3) := HB2.out.trans (hb3.mono (by omega))
  have S3 := hb3.size
  have F3 := Lib.hid (F2.out.below (hb3.mono (by omega)))
  have O3 : Hid (w3.ownsRow w.heap.size 5 1 v3 (burstL (frameL b0) a2 t).length (bv (burstL (frameL b0) a2 t))) := own3.mono (by omega)
  clear own3 F2 hb3 D2 HB2
  cases hok : burstOK (n0 + 12) a2 t with
  | false =>
    have he : burstE (n0 + 12) a2 t = 2 := by unfold burstE; rw [hok]; rfl
    rw [he]
    have n2 : ((2 : Int) != 0) = true := rfl
    have n3 : ((2 : Int) == 2) = true := rfl
    go_wp2
    go_ret
    exact ⟨rfl, HB3.out⟩
  | true =>
    have he : burstE (n0 + 12) a2 t = 0 := by unfold burstE; rw [hok]; rfl
    rw [he]
    have hlen : (burstL (frameL b0) a2 t).length = n0 + 12 := by unfold burstL; rw [HFL.out, if_pos hok, CrcM.turnTo_length, HFL.out]
    have hE : readE (burstL (frameL b0) a2 t ++ b1) = 6 := altered_read b0 b1 (by rw [H0.out]; omega) a2 t ht HZ.out (by rw [HFL.out]; exact hok)
    have o3 := O3.out
    rw [hlen] at o3
    have O3 := Lib.hid o3; clear o3
    have HLEN := Lib.hid hlen; clear hlen
    have HE := Lib.hid hE; clear hE hok he
    have n0' : ((0 : Int) != 0) = false := rfl
    go_wp2_with (at_builtin; refine wpList_app sty22 (.tmp 47) (.tmp 48) rfl rfl w.heap.size O3.out rfl n1 c1 F3.out rfl (by rw [bv_length, H1.out]; omega) (bv_one _) (by unfold maxLen; omega) (by omega) (by omega) ?_; intro v4 w4 own4 gr4 nil4 at4)
    have hb4 : Below w.heap.size w w4 := HB3.out.grown gr4 (by omega) (fun g hg => (O3.out.lt g hg).1)
    have own5 : w4.ownsRow w.heap.size 5 1 v4 (n0 + 12 + n1) (bv (burstL (frameL b0) a2 t ++ b1)) := own_eq own4 rfl (bv_append _ _).symm
    obtain ⟨A5, k5, rfl, hnk5, _, rd5⟩ := own_rd4 own5
    have D5 := Lib.hid rd5; clear rd5 own4 own5 gr4 nil4 at4 O3 F3
    have S4 := hb4.size
    refine (read_any A5 (n0 + 12 + n1) k5 _ (burstL (frameL b0) a2 t ++ b1) (by rw [List.length_append, HLEN.out, H1.out]) (by omega) hnk5 _ D5.out (Nat.le_refl _)).mono ?_
    rintro e w6 ⟨v6, rfl, own6, hb6⟩
    have hN : readN (burstL (frameL b0) a2 t ++ b1) = 0 := by unfold readN; rw [HE.out]; rfl
    have hL : readL (burstL (frameL b0) a2 t ++ b1) = [] := by unfold readL; rw [HE.out]; rfl
    rw [HE.out, hN]
    rw [hL] at own6
    clear hN hL
    have own6 : w6.ownsRow w4.heap.size 5 1 v6 0 (bv []) := own6
    obtain ⟨A6, k6, rfl, _, _, _⟩ := own_rd4 own6
    have n6 : ((6 : Int) == 6) = true := rfl
    have hb7 := hb4.trans (hb6.mono S4)
    go_wp2
    go_ret
    exact ⟨rfl, hb7⟩
end Go.Proofs.Ytmfkngijgellhaa
