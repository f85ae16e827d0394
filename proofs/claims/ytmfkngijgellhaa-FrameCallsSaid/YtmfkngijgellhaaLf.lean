/- The walk of the law CrcCalls: it returns true. -/
import Derived.Test.YtmfkngijgellhaaJ
import Derived.Test.YtmfkngijgellhaaK
import Derived.Test.YtmfkngijgellhaaC
import Derived.Test.YtmfkngijgellhaaE
namespace Go.Proofs.Ytmfkngijgellhaa
open Go.RowKit Go.St
set_option linter.unusedVariables false

/-- Five lists of the call's own that lie apart, as ApartBytes asks. -/
theorem five_get {α : Type} {a b c d e v : α} {i : Nat} (h : [a, b, c, d, e][i]? = some v) : (i = 0 ∧ v = a) ∨ (i = 1 ∧ v = b) ∨ (i = 2 ∧ v = c) ∨ (i = 3 ∧ v = d) ∨ (i = 4 ∧ v = e) := by
  match i, h with
  | 0, h => simp at h; exact .inl ⟨rfl, h.symm⟩
  | 1, h => simp at h; exact .inr (.inl ⟨rfl, h.symm⟩)
  | 2, h => simp at h; exact .inr (.inr (.inl ⟨rfl, h.symm⟩))
  | 3, h => simp at h; exact .inr (.inr (.inr (.inl ⟨rfl, h.symm⟩)))
  | 4, h => simp at h; exact .inr (.inr (.inr (.inr ⟨rfl, h.symm⟩)))
  | k + 5, h => simp at h

def within (v : Value) (lo hi : Nat) : Prop := ∀ g, v.ownBlock = some g → lo ≤ g ∧ g < hi

theorem within_apart {v v' : Value} {a b c d : Nat} (h : within v a b) (h' : within v' c d) (hd : b ≤ c ∨ d ≤ a) : v.ownBlock = none ∨ v.ownBlock ≠ v'.ownBlock := by
  cases hv : v.ownBlock with
  | none => exact .inl rfl
  | some g =>
    refine .inr (fun e => ?_)
    have h1 := h g hv
    have h2 := h' g e.symm
    omega

theorem five_apart (v0 v1 v2 v3 v4 : Value) (a0 a1 a2 a3 a4 z0 z1 z2 z3 z4 : Nat) (h0 : within v0 a0 z0) (h1 : within v1 a1 z1) (h2 : within v2 a2 z2) (h3 : within v3 a3 z3) (h4 : within v4 a4 z4)
    (o4 : z4 ≤ a0) (o0 : z0 ≤ a1) (o1 : z1 ≤ a2) (o2 : z2 ≤ a3) (e0 : a0 ≤ z0) (e1 : a1 ≤ z1) (e2 : a2 ≤ z2) (e3 : a3 ≤ z3) (e4 : a4 ≤ z4) :
    ∀ (i j : Nat) (v v' : Value), i ≠ j → [v0, v1, v2, v3, v4][i]? = some v → [v0, v1, v2, v3, v4][j]? = some v' → v.ownBlock = none ∨ v.ownBlock ≠ v'.ownBlock := by
  intro i j v v' hij hv hv'
  rcases five_get hv with ⟨rfl, rfl⟩ | ⟨rfl, rfl⟩ | ⟨rfl, rfl⟩ | ⟨rfl, rfl⟩ | ⟨rfl, rfl⟩ <;> rcases five_get hv' with ⟨rfl, rfl⟩ | ⟨rfl, rfl⟩ | ⟨rfl, rfl⟩ | ⟨rfl, rfl⟩ | ⟨rfl, rfl⟩
  all_goals first
    | exact absurd rfl hij
    | exact within_apart h0 h1 (by omega)
    | exact within_apart h0 h2 (by omega)
    | exact within_apart h0 h3 (by omega)
    | exact within_apart h0 h4 (by omega)
    | exact within_apart h1 h0 (by omega)
    | exact within_apart h1 h2 (by omega)
    | exact within_apart h1 h3 (by omega)
    | exact within_apart h1 h4 (by omega)
    | exact within_apart h2 h0 (by omega)
    | exact within_apart h2 h1 (by omega)
    | exact within_apart h2 h3 (by omega)
    | exact within_apart h2 h4 (by omega)
    | exact within_apart h3 h0 (by omega)
    | exact within_apart h3 h1 (by omega)
    | exact within_apart h3 h2 (by omega)
    | exact within_apart h3 h4 (by omega)
    | exact within_apart h4 h0 (by omega)
    | exact within_apart h4 h1 (by omega)
    | exact within_apart h4 h2 (by omega)
    | exact within_apart h4 h3 (by omega)

theorem own_within {w : World} {base n : Nat} {e : TypeId} {size : Nat} {v : Value} {xs : List Value} (h : w.ownsRow base e size v n xs) : within v base w.heap.size := fun g hg => h.lt g hg

theorem burstL_le (bs : List UInt8) (a : Int) (t : Nat) : (burstL bs a t).length ≤ bs.length := by
  unfold burstL
  split
  · rw [CrcM.turnTo_length]; exact Nat.le_refl _
  · exact Nat.zero_le _
theorem openL_le (bs : List UInt8) : (openL bs).length ≤ bs.length := by
  unfold openL
  split
  · rw [List.length_take]; omega
  · exact Nat.zero_le _

set_option maxHeartbeats 2000000 in
theorem crcCalls_walk (w : World) (A0 : Option Addr) (n0 c0 : Nat) (b0 : List UInt8) (bl0 : b0.length = n0) (lc0 : n0 ≤ c0) (bn0 : c0 ≤ 140737488351232) (rd0 : Rd w w.heap.size A0 (bv b0))
    (a1 : Int) (w1 : (Lit.int .u32 a1).wf = true) (a2 : Int) (w2 : (Lit.int .i64 a2).wf = true) (a3 : Int) (w3 : (Lit.int .u32 a3).wf = true) :
    Calls Try.prog 7 #[.slice A0 n0 c0, .int .u32 a1, .int .i64 a2, .int .u32 a3] w fun e w' => e = .returned (.bool true) ∧ Below w.heap.size w w' := by
  have hb1 : 0 ≤ a1 ∧ a1 ≤ 4294967295 := by simpa [Lit.wf, IntKind.min, IntKind.max, IntKind.signed, IntKind.bits] using w1
  have hb3 : 0 ≤ a3 ∧ a3 ≤ 4294967295 := by simpa [Lit.wf, IntKind.min, IntKind.max, IntKind.signed, IntKind.bits] using w3
  have ha : -9223372036854775808 ≤ a2 ∧ a2 ≤ 9223372036854775807 := by simpa [Lit.wf, IntKind.min, IntKind.max, IntKind.signed, IntKind.bits] using w2
  obtain ⟨s, rfl⟩ := Int.eq_ofNat_of_zero_le hb1.1
  obtain ⟨t, rfl⟩ := Int.eq_ofNat_of_zero_le hb3.1
  have hs : s < 4294967296 := by omega
  have ht : t < 4294967296 := by omega
  have ha2 := ha.2
  clear hb1 hb3 ha w1 w2 w3
  have H0 := Lib.hid bl0; clear bl0
  have R0 := Lib.hid rd0; clear rd0
  go_enter Try.func7, Try.ntmps7
  go_wp2_with fail
  refine (lent_any A0 n0 c0 _ b0 H0.out (by omega) _ R0.out (Nat.le_refl _)).mono ?_
  rintro e w1 ⟨v1, rfl, own1, hb1⟩
  obtain ⟨g1, c1, rfl, hnc1, hcm1, hg1, hg2⟩ := own_blk own1 (by omega)
  have O1 := Lib.hid own1
  have W1 := Lib.hid (own_within own1)
  have R1 : Hid (Rd w1 w1.heap.size (some ⟨g1, 0, none⟩) (bv b0)) := by
    have h := (Rd.own own1).take n0
    have e : (bv (lent b0)).take n0 = bv b0 := by
      rw [bv, bv, ← List.map_take, lent, ← H0.out, List.take_left']
      rfl
    rw [e] at h
    exact h
  have R01 := Lib.hid (R0.out.below hb1)
  have S1 := hb1.size
  have i0 : (0 : Int) ≤ (n0 : Int) := by omega
  have i1 : (n0 : Int) ≤ (c1 : Int) := by omega
  clear own1 R0
  go_wp2_with fail
  refine (sealed_any _ n0 c1 _ b0 H0.out (by omega) _ R1.out (Nat.le_refl _)).mono ?_
  rintro e w2 ⟨v2, rfl, own2, hb2⟩
  have O1' := Lib.hid (own_keep O1.out hb2 (Nat.le_refl _))
  have O2 := Lib.hid own2
  have W2 := Lib.hid (own_within own2)
  have R2 := Lib.hid (R1.out.below hb2)
  have R02 := Lib.hid (R01.out.below (hb2.mono S1))
  have HB2 : Hid (Below w.heap.size w w2) := hb1.trans (hb2.mono S1)
  have S2 := hb2.size
  clear own2 R1 R01 O1 hb1
  go_wp2_with fail
  refine (sealed_any _ n0 c1 _ b0 H0.out (by omega) _ R2.out S2).mono ?_
  rintro e w3 ⟨v3, rfl, own3, hb3⟩
  have O1 := Lib.hid (own_keep O1'.out hb3 (Nat.le_refl _))
  have O2' := Lib.hid (own_keep O2.out hb3 (Nat.le_refl _))
  have O3 := Lib.hid own3
  have W3 := Lib.hid (own_within own3)
  have R3 := Lib.hid (R2.out.below (hb3.mono S2))
  have R03 := Lib.hid (R02.out.below (hb3.mono (by omega)))
  have HB3 : Hid (Below w.heap.size w w3) := HB2.out.trans (hb3.mono (by omega))
  have S3 := hb3.size
  clear own3 R2 R02 O1' O2 HB2 hb2
  go_wp2_with fail
  refine (opened_any _ n0 c1 _ b0 H0.out (by omega) (by omega) _ R3.out (by omega)).mono ?_
  rintro e w4 ⟨v4, rfl, own4, hb4⟩
  have O1' := Lib.hid (own_keep O1.out hb4 (Nat.le_refl _))
  have O2 := Lib.hid (own_keep O2'.out hb4 (Nat.le_refl _))
  have O3' := Lib.hid (own_keep O3.out hb4 (Nat.le_refl _))
  have O4 := Lib.hid own4
  have W4 := Lib.hid (own_within own4)
  have R4 := Lib.hid (R3.out.below (hb4.mono (by omega)))
  have R04 := Lib.hid (R03.out.below (hb4.mono (by omega)))
  have HB4 : Hid (Below w.heap.size w w4) := HB3.out.trans (hb4.mono (by omega))
  have S4 := hb4.size
  clear own4 R3 R03 O1 O2' O3 HB3 hb3
  go_wp2_with fail
  refine (ropened_any A0 n0 c0 _ b0 H0.out (by omega) lc0 _ R04.out (by omega)).mono ?_
  rintro e w5 ⟨v5, rfl, own5, hb5⟩
  have O1 := Lib.hid (own_keep O1'.out hb5 (Nat.le_refl _))
  have O2' := Lib.hid (own_keep O2.out hb5 (Nat.le_refl _))
  have O3 := Lib.hid (own_keep O3'.out hb5 (Nat.le_refl _))
  have O4' := Lib.hid (own_keep O4.out hb5 (Nat.le_refl _))
  have O5 := Lib.hid own5
  have R5 := Lib.hid (R4.out.below (hb5.mono (by omega)))
  have R05 := Lib.hid (R04.out.below (hb5.mono (by omega)))
  have HB5 : Hid (Below w.heap.size w w5) := HB4.out.trans (hb5.mono (by omega))
  have S5 := hb5.size
  clear own5 R4 R04 O1' O2 O3' O4 HB4 hb4
  go_wp2_with fail
  refine (burst_any _ n0 c1 _ b0 H0.out (by omega) a2 ha2 t ht _ R5.out (by omega)).mono ?_
  rintro e w6 ⟨v6, rfl, own6, hb6⟩
  have O1' := Lib.hid (own_keep O1.out hb6 (Nat.le_refl _))
  have O2 := Lib.hid (own_keep O2'.out hb6 (Nat.le_refl _))
  have O3' := Lib.hid (own_keep O3.out hb6 (Nat.le_refl _))
  have O4 := Lib.hid (own_keep O4'.out hb6 (Nat.le_refl _))
  have O5' := Lib.hid (own_keep O5.out hb6 (Nat.le_refl _))
  have O6 := Lib.hid own6
  have W6 := Lib.hid (own_within own6)
  have R6 := Lib.hid (R5.out.below (hb6.mono (by omega)))
  have R06 := Lib.hid (R05.out.below (hb6.mono (by omega)))
  have HB6 : Hid (Below w.heap.size w w6) := HB5.out.trans (hb6.mono (by omega))
  have S6 := hb6.size
  clear own6 R5 R05 O1 O2' O3 O4' O5 HB5 hb5
  go_wp2_with fail
  refine (rburst_all A0 n0 c0 _ b0 H0.out (by omega) a2 ha2 t ht _ R06.out (by omega)).mono ?_
  rintro e w7 ⟨v7, rfl, own7, hb7⟩
  have O1 := Lib.hid (own_keep O1'.out hb7 (Nat.le_refl _))
  have O2' := Lib.hid (own_keep O2.out hb7 (Nat.le_refl _))
  have O3 := Lib.hid (own_keep O3'.out hb7 (Nat.le_refl _))
  have O4' := Lib.hid (own_keep O4.out hb7 (Nat.le_refl _))
  have O5 := Lib.hid (own_keep O5'.out hb7 (Nat.le_refl _))
  have O6' := Lib.hid (own_keep O6.out hb7 (Nat.le_refl _))
  have O7 := Lib.hid own7
  have R7 := Lib.hid (R6.out.below (hb7.mono (by omega)))
  have R07 := Lib.hid (R06.out.below (hb7.mono (by omega)))
  have HB7 : Hid (Below w.heap.size w w7) := HB6.out.trans (hb7.mono (by omega))
  have S7 := hb7.size
  clear own7 R6 R06 O1' O2 O3' O4 O5' O6 HB6 hb6
  go_wp2_with fail
  refine (lives_any _).mono ?_
  rintro e w8 ⟨rfl, hb8⟩
  have O1' := Lib.hid (own_keep O1.out hb8 (Nat.le_refl _))
  have O2 := Lib.hid (own_keep O2'.out hb8 (Nat.le_refl _))
  have O3' := Lib.hid (own_keep O3.out hb8 (Nat.le_refl _))
  have O4 := Lib.hid (own_keep O4'.out hb8 (Nat.le_refl _))
  have O5' := Lib.hid (own_keep O5.out hb8 (Nat.le_refl _))
  have O6 := Lib.hid (own_keep O6'.out hb8 (Nat.le_refl _))
  have O7' := Lib.hid (own_keep O7.out hb8 (Nat.le_refl _))
  have R8 := Lib.hid (R7.out.below (hb8.mono (by omega)))
  have R08 := Lib.hid (R07.out.below (hb8.mono (by omega)))
  have HB8 : Hid (Below w.heap.size w w8) := HB7.out.trans (hb8.mono (by omega))
  have S8 := hb8.size
  clear R7 R07 O1 O2' O3 O4' O5 O6' O7 HB7 hb7
  go_wp2_with fail
  refine (sum_any _ n0 c1 _ b0 H0.out (by omega) _ R8.out).mono ?_
  rintro e w' ⟨rfl, rfl⟩
  have q1 : ((((CrcM.cmore 0 b0 : Nat) : Int)) != ((CrcM.cmore 0 b0 : Nat) : Int)) = false := by simp
  go_wp2_with fail
  refine (rsum_any A0 n0 c0 _ b0 H0.out (by omega) _ R08.out).mono ?_
  rintro e w' ⟨rfl, rfl⟩
  have q2 : ((((CrcM.cmore s b0 : Nat) : Int)) != ((CrcM.cmore s b0 : Nat) : Int)) = false := by simp
  go_wp2_with fail
  refine (more_any s hs _ n0 c1 _ b0 H0.out (by omega) _ R8.out).mono ?_
  rintro e w' ⟨rfl, rfl⟩
  go_wp2_with fail
  refine (rmore_any s hs A0 n0 c0 _ b0 H0.out (by omega) _ R08.out).mono ?_
  rintro e w' ⟨rfl, rfl⟩
  have q3 : (isOpen b0 != isOpen b0) = false := by simp
  have q4 : (burstE n0 a2 t != burstE n0 a2 t) = false := by simp
  go_wp2_with fail
  refine (rsealed_any A0 n0 c0 _ b0 H0.out (by omega) _ R08.out (by omega)).mono ?_
  rintro e w9 ⟨v9, rfl, own9, hb9⟩
  clear q1 q2 q3 q4
  have O1 := Lib.hid (own_keep O1'.out hb9 (Nat.le_refl _))
  have O2' := Lib.hid (own_keep O2.out hb9 (Nat.le_refl _))
  have O3 := Lib.hid (own_keep O3'.out hb9 (Nat.le_refl _))
  have O4' := Lib.hid (own_keep O4.out hb9 (Nat.le_refl _))
  have O5 := Lib.hid (own_keep O5'.out hb9 (Nat.le_refl _))
  have O6' := Lib.hid (own_keep O6.out hb9 (Nat.le_refl _))
  have O7 := Lib.hid (own_keep O7'.out hb9 (Nat.le_refl _))
  have R09 := Lib.hid (R08.out.below (hb9.mono (by omega)))
  have HB9 : Hid (Below w.heap.size w w9) := HB8.out.trans (hb9.mono (by omega))
  have S9 := hb9.size
  obtain ⟨A2, c2, rfl, _, _, rd2⟩ := own_rd4 O2'.out
  obtain ⟨A9, c9, rfl, _, _, rd9⟩ := own_rd4 own9
  obtain ⟨A4, c4, rfl, _, _, rd4⟩ := own_rd4 O4'.out
  obtain ⟨A5, c5, rfl, _, _, rd5⟩ := own_rd4 O5.out
  obtain ⟨A6, c6, rfl, _, _, rd6⟩ := own_rd4 O6'.out
  obtain ⟨A7, c7, rfl, _, _, rd7⟩ := own_rd4 O7.out
  obtain ⟨A3, c3, rfl, _, _, _⟩ := own_rd4 O3.out
  have D2 := Lib.hid rd2; clear rd2
  have D9 := Lib.hid rd9; clear rd9
  have D4 := Lib.hid rd4; clear rd4
  have D5 := Lib.hid rd5; clear rd5
  have D6 := Lib.hid rd6; clear rd6
  have D7 := Lib.hid rd7; clear rd7
  have hsl : (CrcM.sealed b0).length = n0 + 4 := by rw [CrcM.sealed_length, H0.out]
  have HSL := Lib.hid hsl; clear hsl
  have lo := openL_le b0
  have lb := burstL_le b0 a2 t
  rw [H0.out] at lo lb
  clear own9 R8 R08 O1' O2 O3' O4 O5' O6 O7' HB8 hb8 hb9
  go_wp2_with fail
  refine (same_any A2 A9 (n0 + 4) (n0 + 4) c2 c9 _ _ (CrcM.sealed b0) (CrcM.sealed b0) HSL.out HSL.out (by omega) _ D2.out D9.out).mono ?_
  rintro e w' ⟨rfl, q10, rfl⟩
  rw [decide_eq_true (rfl : CrcM.sealed b0 = CrcM.sealed b0)]
  go_wp2_with fail
  refine (same_any A4 A5 _ _ c4 c5 _ _ (openL b0) (openL b0) rfl rfl (by omega) _ (show Rd (w9.drewN q10) _ _ _ from D4.out) (show Rd (w9.drewN q10) _ _ _ from D5.out)).mono ?_
  rintro e w' ⟨rfl, q11, rfl⟩
  rw [decide_eq_true (rfl : openL b0 = openL b0)]
  go_wp2_with fail
  refine (same_any A6 A7 _ _ c6 c7 _ _ (burstL b0 a2 t) (burstL b0 a2 t) rfl rfl (by omega) _ (show Rd (w9.drewN (q10 + q11)) _ _ _ from D6.out) (show Rd (w9.drewN (q10 + q11)) _ _ _ from D7.out)).mono ?_
  rintro e w' ⟨rfl, q12, rfl⟩
  rw [decide_eq_true (rfl : burstL b0 a2 t = burstL b0 a2 t)]
  have RF : Hid (Rd w9 w9.heap.size (some ⟨g1, 0, none⟩) (bv (lent b0))) := Rd.own O1.out
  go_wp2_with fail
  refine (kept_any (some ⟨g1, 0, none⟩) A0 (n0 + 3) n0 c1 c0 w9.heap.size w.heap.size (lent b0) b0 (by rw [lent_length, H0.out]) H0.out (by omega) (by omega) (w9.drewN (q10 + q11 + q12)) (show Rd (w9.drewN (q10 + q11 + q12)) _ _ _ from RF.out) (Nat.le_refl w9.heap.size) (show Rd (w9.drewN (q10 + q11 + q12)) _ _ _ from R09.out) (show w.heap.size ≤ w9.heap.size by omega)).mono ?_
  rintro e w10 ⟨rfl, hb10⟩
  rw [decide_eq_true (rfl : lent b0 = lent b0)]
  have hb10 : Below w9.heap.size w9 w10 := ⟨hb10.os, hb10.tape, hb10.output, hb10.size, hb10.block⟩
  have S10 : w9.heap.size ≤ w10.heap.size := hb10.size
  have HB10 : Hid (Below w.heap.size w w10) := HB9.out.trans (hb10.mono (by omega))
  have O1' := Lib.hid ((own_keep O1.out hb10 (Nat.le_refl _)).alloc (.cells #[.slice A2 (n0 + 4) c2, .slice A3 (n0 + 4) c3, .slice A4 (openL b0).length c4, .slice A6 (burstL b0 a2 t).length c6, .slice (some ⟨g1, 0, none⟩) (n0 + 3) c1] 22))
  have O2 := Lib.hid ((own_keep O2'.out hb10 (Nat.le_refl _)).alloc (.cells #[.slice A2 (n0 + 4) c2, .slice A3 (n0 + 4) c3, .slice A4 (openL b0).length c4, .slice A6 (burstL b0 a2 t).length c6, .slice (some ⟨g1, 0, none⟩) (n0 + 3) c1] 22))
  have O3' := Lib.hid ((own_keep O3.out hb10 (Nat.le_refl _)).alloc (.cells #[.slice A2 (n0 + 4) c2, .slice A3 (n0 + 4) c3, .slice A4 (openL b0).length c4, .slice A6 (burstL b0 a2 t).length c6, .slice (some ⟨g1, 0, none⟩) (n0 + 3) c1] 22))
  have O4 := Lib.hid ((own_keep O4'.out hb10 (Nat.le_refl _)).alloc (.cells #[.slice A2 (n0 + 4) c2, .slice A3 (n0 + 4) c3, .slice A4 (openL b0).length c4, .slice A6 (burstL b0 a2 t).length c6, .slice (some ⟨g1, 0, none⟩) (n0 + 3) c1] 22))
  have O6 := Lib.hid ((own_keep O6'.out hb10 (Nat.le_refl _)).alloc (.cells #[.slice A2 (n0 + 4) c2, .slice A3 (n0 + 4) c3, .slice A4 (openL b0).length c4, .slice A6 (burstL b0 a2 t).length c6, .slice (some ⟨g1, 0, none⟩) (n0 + 3) c1] 22))
  clear O1 O2' O3 O4' O5 O6' O7 HB9 R09 RF D2 D9 D4 D5 D6 D7 hb10
  go_wp2_with fail
  refine (apart_any (some ⟨w10.heap.size, 0, none⟩) 5 5 (w10.heap.size + 1) w.heap.size
    [.slice A2 (n0 + 4) c2, .slice A3 (n0 + 4) c3, .slice A4 (openL b0).length c4, .slice A6 (burstL b0 a2 t).length c6, .slice (some ⟨g1, 0, none⟩) (n0 + 3) c1]
    [CrcM.sealed b0, CrcM.sealed b0, openL b0, burstL b0 a2 t, lent b0] rfl rfl (by omega) _ (rd_lit _ _ _) (by simp) (by simp; omega) ?_ ?_ ?_ ?_).mono ?_
  · intro i v bs hv hbs
    rcases five_get hv with ⟨rfl, rfl⟩ | ⟨rfl, rfl⟩ | ⟨rfl, rfl⟩ | ⟨rfl, rfl⟩ | ⟨rfl, rfl⟩
    · obtain rfl : CrcM.sealed b0 = bs := by simpa using hbs
      exact own_eq (O2.out.mono (base' := w.heap.size) (by omega)) HSL.out.symm rfl
    · obtain rfl : CrcM.sealed b0 = bs := by simpa using hbs
      exact own_eq (O3'.out.mono (base' := w.heap.size) (by omega)) HSL.out.symm rfl
    · obtain rfl : openL b0 = bs := by simpa using hbs
      exact O4.out.mono (base' := w.heap.size) (by omega)
    · obtain rfl : burstL b0 a2 t = bs := by simpa using hbs
      exact O6.out.mono (base' := w.heap.size) (by omega)
    · obtain rfl : lent b0 = bs := by simpa using hbs
      exact own_eq O1'.out (by rw [lent_length, H0.out]) rfl
  · exact five_apart _ _ _ _ _ _ _ _ _ _ _ _ _ _ _ W2.out W3.out W4.out W6.out W1.out (Nat.le_refl _) (Nat.le_refl _) (Nat.le_refl _) (by omega) S2 S3 S4 S6 S1
  · intro g o hA i v hv hvg
    injection hA with hA
    injection hA with e1 e2
    rcases five_get hv with ⟨rfl, rfl⟩ | ⟨rfl, rfl⟩ | ⟨rfl, rfl⟩ | ⟨rfl, rfl⟩ | ⟨rfl, rfl⟩
    · have := (W2.out g hvg).2; omega
    · have := (W3.out g hvg).2; omega
    · have := (W4.out g hvg).2; omega
    · have := (W6.out g hvg).2; omega
    · have := (W1.out g hvg).2; omega
  · intro i bs hbs
    rcases five_get hbs with ⟨rfl, rfl⟩ | ⟨rfl, rfl⟩ | ⟨rfl, rfl⟩ | ⟨rfl, rfl⟩ | ⟨rfl, rfl⟩
    · rw [HSL.out]; omega
    · rw [HSL.out]; omega
    · omega
    · omega
    · rw [lent_length, H0.out]; omega
  · rintro e w' ⟨rfl, hb11⟩
    go_wp2
    go_ret
    exact ⟨rfl, (HB10.out.alloc HB10.out.size _).trans hb11⟩
end Go.Proofs.Ytmfkngijgellhaa
