/- Walk: blocks are checked, written and read as the document says. -/
import Derived.Test.YtmcpjpkidcbgiaaEs
import Derived.Test.YtmcpjpkidcbgiaaEx
import Derived.Test.YtmcpjpkidcbgiaaApart2
namespace Go.Proofs.Ytmcpjpkidcbgiaa
open Go.RowKit Go.St Go.Maps
set_option linter.unusedVariables false
set_option linter.unusedSimpArgs false
set_option maxRecDepth 100000

theorem three_get {α : Type} {a b c v : α} {i : Nat} (h : [a, b, c][i]? = some v) : (i = 0 ∧ a = v) ∨ (i = 1 ∧ b = v) ∨ (i = 2 ∧ c = v) := by
  match i, h with
  | 0, h => left; exact ⟨rfl, by simpa using h⟩
  | 1, h => right; left; exact ⟨rfl, by simpa using h⟩
  | 2, h => right; right; exact ⟨rfl, by simpa using h⟩
  | i + 3, h => simp at h
theorem three_apart {a b c : Value} {x0 x1 x2 x3 x4 x5 : Nat} (ha : ∀ g, a.ownBlock = some g → x0 ≤ g ∧ g < x1) (hb : ∀ g, b.ownBlock = some g → x2 ≤ g ∧ g < x3) (hc : ∀ g, c.ownBlock = some g → x4 ≤ g ∧ g < x5)
    (h1 : x1 ≤ x2) (h2 : x5 ≤ x0) (h3 : x5 ≤ x2) : ∀ (i j : Nat) (v v' : Value), i ≠ j → [a, b, c][i]? = some v → [a, b, c][j]? = some v' → v.ownBlock = none ∨ v.ownBlock ≠ v'.ownBlock := by
  intro i j v v' hij hi hj
  cases hv : v.ownBlock with
  | none => exact .inl rfl
  | some g =>
    right
    intro e
    rcases three_get hi with ⟨rfl, rfl⟩ | ⟨rfl, rfl⟩ | ⟨rfl, rfl⟩ <;> rcases three_get hj with ⟨rfl, rfl⟩ | ⟨rfl, rfl⟩ | ⟨rfl, rfl⟩
    · exact hij rfl
    · have := ha g hv; have := hb g e.symm; omega
    · have := ha g hv; have := hc g e.symm; omega
    · have := hb g hv; have := ha g e.symm; omega
    · exact hij rfl
    · have := hb g hv; have := hc g e.symm; omega
    · have := hc g hv; have := ha g e.symm; omega
    · have := hc g hv; have := hb g e.symm; omega
    · exact hij rfl
theorem lent_take (l : List Ent) : (env (lentE l)).take (l.length * 4) = env l := by
  unfold lentE
  rw [env_app, List.take_append_of_le_length (by rw [env_len]; exact Nat.le_refl _), List.take_of_length_le (by rw [env_len]; exact Nat.le_refl _)]
theorem lentb_take (b : List UInt8) : (bv (lent b)).take b.length = bv b := by
  unfold lent
  rw [bv_append, List.take_append_of_le_length (by rw [bv_length]; exact Nat.le_refl _), List.take_of_length_le (by rw [bv_length]; exact Nat.le_refl _)]

set_option maxHeartbeats 3200000 in
theorem blockCalls_walk (w : World) (A : Option Addr) (n c : Nat) (l : List Ent) (hl : l.length = n) (hc : n ≤ c) (hn : c ≤ 140737488351232) (hr : Rd w w.heap.size A (env l)) (Ab : Option Addr) (nb cb : Nat) (b : List UInt8) (bl : b.length = nb) (lcb : nb ≤ cb) (bnb : cb ≤ 140737488351232) (rdb : Rd w w.heap.size Ab (bv b)) :
    Calls Try.prog 3 #[.slice A n c, .slice Ab nb cb] w fun e w' => e = .returned (.bool true) ∧ Below w.heap.size w w' := by
  obtain ⟨p, hp⟩ : ∃ p, p = w.heap.size := ⟨_, rfl⟩
  have HP := Lib.hid hp
  rw [← hp] at hr rdb
  have HL := Lib.hid hl
  have BL := Lib.hid bl
  have HR := Lib.hid hr
  have HB := Lib.hid rdb
  have hpw : p ≤ w.heap.size := by omega
  clear hr hl bl rdb hp
  go_enter Try.func3, Try.ntmps3
  go_wp2_with fail
  refine (lives07_any w).mono ?_
  rintro e w2 ⟨rfl, hb⟩
  have B2 : Hid (Below p w w2) := Lib.hid (hb.mono hpw)
  have R2 := Lib.hid (HR.out.below B2.out)
  have S2 := Lib.hid (HB.out.below B2.out)
  have z2 : p ≤ w2.heap.size := Nat.le_trans hpw hb.size
  clear hb HR HB hpw
  go_wp2_with fail
  refine (small7_any A n c l HL.out (by omega) p w2 R2.out z2).mono ?_
  rintro e w3 ⟨rfl, hb⟩
  have B3 := Lib.hid (B2.out.trans (hb.mono z2))
  have R3 := Lib.hid (R2.out.below (hb.mono z2))
  have S3 := Lib.hid (S2.out.below (hb.mono z2))
  have z3 : p ≤ w3.heap.size := Nat.le_trans z2 hb.size
  have t3 : w2.heap.size ≤ w3.heap.size := hb.size
  clear B2 R2 S2
  clear hb
  cases hsm : smallE l
  · go_wp2_with fail
    go_ret
    exact ⟨rfl, by rw [← HP.out]; exact B3.out⟩
  have HSM := Lib.hid (smallE_b hsm)
  have hn70 : n ≤ 70 := by have := HSM.out.1; rwa [HL.out] at this
  clear hsm
  by_cases hb8 : 8000 < nb
  · have i8 : (8000 : Int) < (nb : Int) := by omega
    go_wp2_with fail
    go_ret
    exact ⟨rfl, by rw [← HP.out]; exact B3.out⟩
  have i8 : ¬ (8000 : Int) < (nb : Int) := by omega
  have HKM := Lib.hid (fun y (hy : y ∈ l) => show y.key.size ≤ maxLen by have := HSM.out.2 y hy; unfold maxLen; omega)
  go_wp2_with fail
  refine (lentE_any A n c p l HL.out (by omega) w3 R3.out z3).mono ?_
  rintro e w4 ⟨v4, rfl, own4, hb⟩
  obtain ⟨F, cF, rfl, hcF, hrF⟩ := own_sl own4
  obtain ⟨gF, rfl⟩ := own_blkC own4 (by omega)
  have F4 := Lib.hid hrF
  have B4 := Lib.hid (B3.out.trans (hb.mono z3))
  have R4 := Lib.hid (R3.out.below (hb.mono z3))
  have S4 := Lib.hid (S3.out.below (hb.mono z3))
  have z4 : p ≤ w4.heap.size := Nat.le_trans z3 hb.size
  have t4 : w3.heap.size ≤ w4.heap.size := hb.size
  clear B3 R3 S3
  clear hb own4 hrF i8
  go_wp2_with fail
  refine (lent_any Ab nb cb p b BL.out (by omega) w4 S4.out z4).mono ?_
  rintro e w5 ⟨v5, rfl, own5, hb⟩
  obtain ⟨G, cG, rfl, hcG, hrG⟩ := own_sl own5
  obtain ⟨gB, rfl⟩ := own_blkC own5 (by omega)
  have hcGm : cG ≤ 9223372036854775807 := by have := (own_caps own5).2; unfold maxLen at this; omega
  have OG5 := Lib.hid own5
  have HG := Lib.hid (fun g (h : (Value.slice (some ⟨gB, 0, none⟩) (nb + 3) cG).ownBlock = some g) => own5.lt g h)
  have B5 := Lib.hid (B4.out.trans (hb.mono z4))
  have R5 := Lib.hid (R4.out.below (hb.mono z4))
  have S5 := Lib.hid (S4.out.below (hb.mono z4))
  have z5 : p ≤ w5.heap.size := Nat.le_trans z4 hb.size
  have t5 : w4.heap.size ≤ w5.heap.size := hb.size
  clear B4 R4 S4
  have F5 := Lib.hid ((F4.out.below hb).more hb.size)
  clear F4
  clear hb own5 hrG
  have hcF3 : (n : Int) ≤ (cF : Int) := by omega
  have hcG3 : (nb : Int) ≤ (cG : Int) := by omega
  have hn0 : (0 : Int) ≤ (n : Int) := by omega
  have hm0 : (0 : Int) ≤ (nb : Int) := by omega
  have HEN := Lib.hid (fun W (h : Rd W W.heap.size (some ⟨gF, 0, none⟩) (env (lentE l))) => encode_any (some ⟨gF, 0, none⟩) n cF l HL.out (by omega) HKM.out W.heap.size W (by have h2 := h.take (n * 4); rw [← HL.out, lent_take] at h2; exact h2) (Nat.le_refl _))
  have HRE := Lib.hid (fun W h k => rencode_any A n c l HL.out (by omega) HKM.out p W h k)
  have HCH := Lib.hid (fun W (h : Rd W W.heap.size (some ⟨gF, 0, none⟩) (env (lentE l))) => check7_any (some ⟨gF, 0, none⟩) n cF l HL.out (by omega) HKM.out W.heap.size W (by have h2 := h.take (n * 4); rw [← HL.out, lent_take] at h2; exact h2) (Nat.le_refl _))
  have HRC := Lib.hid (fun W h k => rcheck7_any A n c l HL.out (by omega) HKM.out p W h k)
  have HDE := Lib.hid (fun W (h : Rd W W.heap.size (some ⟨gB, 0, none⟩) (bv (lent b))) => decode_any (some ⟨gB, 0, none⟩) nb cG W.heap.size b BL.out (by omega) hcGm (by omega) W (by have h2 := h.take nb; rw [← BL.out, lentb_take] at h2; exact h2) (Nat.le_refl _))
  have HRD := Lib.hid (fun W h k => rdecode_any Ab nb cb p b BL.out lcb (by omega) (by omega) W h k)
  have HEL := Lib.hid (encL_len l)
  have HDM : Hid ((decL b).length ≤ 64 ∧ ∀ x ∈ decL b, x.key.size ≤ 1000000) := Lib.hid (by
    cases h : decO b with
    | none => rw [(dec_none h).1]; simp
    | some m =>
      rw [(dec_some h).1]
      have h3 := chkL_ok (dec_ok h).1
      exact ⟨h3.2.1, fun x hx => by have := (okE_b (h3.2.2.1 x hx)).2.2.2.1; omega⟩)
  obtain ⟨C, hC⟩ : ∃ C, C = chkL l := ⟨_, rfl⟩
  obtain ⟨D, hD⟩ : ∃ D, D = decE b := ⟨_, rfl⟩
  obtain ⟨P, hP⟩ : ∃ P, P = encL l := ⟨_, rfl⟩
  obtain ⟨M, hM⟩ : ∃ M, M = decL b := ⟨_, rfl⟩
  rw [← hC, ← hP] at HEN HRE
  rw [← hC] at HCH HRC
  rw [← hD, ← hM] at HDE HRD
  rw [← hP] at HEL
  rw [← hM] at HDM
  clear hC hD hP hM
  go_wp2_with fail
  refine (HEN.out w5 F5.out).mono ?_
  rintro e w6 ⟨v6, rfl, own6, hb⟩
  obtain ⟨Aa, ca, rfl, hca, hra⟩ := own_sl own6
  have OA6 := Lib.hid own6
  have HA := Lib.hid (fun g (h : (Value.slice Aa P.length ca).ownBlock = some g) => own6.lt g h)
  have B6 := Lib.hid (B5.out.trans (hb.mono z5))
  have R6 := Lib.hid (R5.out.below (hb.mono z5))
  have S6 := Lib.hid (S5.out.below (hb.mono z5))
  have z6 : p ≤ w6.heap.size := Nat.le_trans z5 hb.size
  have t6 : w5.heap.size ≤ w6.heap.size := hb.size
  clear B5 R5 S5
  have F6 := Lib.hid ((F5.out.below hb).more hb.size)
  clear F5
  have OG6 := Lib.hid (own_keep OG5.out hb (Nat.le_refl _))
  clear OG5
  clear hb own6 hra
  go_wp2_with fail
  refine (HEN.out w6 F6.out).mono ?_
  rintro e w7 ⟨v7, rfl, own7, hb⟩
  obtain ⟨Ac, cc, rfl, hcc, hrc⟩ := own_sl own7
  have OC7 := Lib.hid own7
  have HC := Lib.hid (fun g (h : (Value.slice Ac P.length cc).ownBlock = some g) => own7.lt g h)
  have B7 := Lib.hid (B6.out.trans (hb.mono z6))
  have R7 := Lib.hid (R6.out.below (hb.mono z6))
  have S7 := Lib.hid (S6.out.below (hb.mono z6))
  have z7 : p ≤ w7.heap.size := Nat.le_trans z6 hb.size
  have t7 : w6.heap.size ≤ w7.heap.size := hb.size
  clear B6 R6 S6
  have F7 := Lib.hid ((F6.out.below hb).more hb.size)
  clear F6
  have OG7 := Lib.hid (own_keep OG6.out hb (Nat.le_refl _))
  clear OG6
  have OA7 := Lib.hid (own_keep OA6.out hb (Nat.le_refl _))
  clear OA6
  clear hb own7 hrc
  go_wp2_with fail
  refine (HRE.out w7 R7.out z7).mono ?_
  rintro e w8 ⟨v8, rfl, own8, hb⟩
  obtain ⟨Ad, cd, rfl, hcd, hrd⟩ := own_sl own8
  have RD8 := Lib.hid hrd
  have B8 := Lib.hid (B7.out.trans (hb.mono z7))
  have R8 := Lib.hid (R7.out.below (hb.mono z7))
  have S8 := Lib.hid (S7.out.below (hb.mono z7))
  have z8 : p ≤ w8.heap.size := Nat.le_trans z7 hb.size
  have t8 : w7.heap.size ≤ w8.heap.size := hb.size
  clear B7 R7 S7
  have F8 := Lib.hid ((F7.out.below hb).more hb.size)
  clear F7
  have OG8 := Lib.hid (own_keep OG7.out hb (Nat.le_refl _))
  clear OG7
  have OA8 := Lib.hid (own_keep OA7.out hb (Nat.le_refl _))
  clear OA7
  have OC8 := Lib.hid (own_keep OC7.out hb (Nat.le_refl _))
  clear OC7
  clear hb own8 hrd HEN HRE
  go_wp2_with fail
  refine (HDE.out w8 (own_rdL OG8.out)).mono ?_
  rintro e w9 ⟨v9, rfl, own9, hb⟩
  obtain ⟨Am, cm, rfl, hcm, hrm⟩ := own_sl own9
  have OM9 := Lib.hid own9
  have HM := Lib.hid (fun g (h : (Value.slice Am M.length cm).ownBlock = some g) => own9.lt g h)
  have B9 := Lib.hid (B8.out.trans (hb.mono z8))
  have R9 := Lib.hid (R8.out.below (hb.mono z8))
  have S9 := Lib.hid (S8.out.below (hb.mono z8))
  have z9 : p ≤ w9.heap.size := Nat.le_trans z8 hb.size
  have t9 : w8.heap.size ≤ w9.heap.size := hb.size
  clear B8 R8 S8
  have F9 := Lib.hid ((F8.out.below hb).more hb.size)
  clear F8
  have RD9 := Lib.hid ((RD8.out.below hb).more hb.size)
  clear RD8
  have OG9 := Lib.hid (own_keep OG8.out hb (Nat.le_refl _))
  clear OG8
  have OA9 := Lib.hid (own_keep OA8.out hb (Nat.le_refl _))
  clear OA8
  have OC9 := Lib.hid (own_keep OC8.out hb (Nat.le_refl _))
  clear OC8
  clear hb own9 hrm
  go_wp2_with fail
  refine (HRD.out w9 S9.out z9).mono ?_
  rintro e w10 ⟨v10, rfl, own10, hb⟩
  obtain ⟨An, cn, rfl, hcn, hrn⟩ := own_sl own10
  have RN10 := Lib.hid hrn
  have B10 := Lib.hid (B9.out.trans (hb.mono z9))
  have R10 := Lib.hid (R9.out.below (hb.mono z9))
  have S10 := Lib.hid (S9.out.below (hb.mono z9))
  have z10 : p ≤ w10.heap.size := Nat.le_trans z9 hb.size
  have t10 : w9.heap.size ≤ w10.heap.size := hb.size
  clear B9 R9 S9
  have F10 := Lib.hid ((F9.out.below hb).more hb.size)
  clear F9
  have RD10 := Lib.hid ((RD9.out.below hb).more hb.size)
  clear RD9
  have OG10 := Lib.hid (own_keep OG9.out hb (Nat.le_refl _))
  clear OG9
  have OA10 := Lib.hid (own_keep OA9.out hb (Nat.le_refl _))
  clear OA9
  have OC10 := Lib.hid (own_keep OC9.out hb (Nat.le_refl _))
  clear OC9
  have OM10 := Lib.hid (own_keep OM9.out hb (Nat.le_refl _))
  clear OM9
  clear hb own10 hrn HRD
  go_wp2_with fail
  refine (HDE.out w10 (own_rdL OG10.out)).mono ?_
  rintro e w11 ⟨v11, rfl, own11, hb⟩
  obtain ⟨Ao, co, rfl, hco, hro⟩ := own_sl own11
  have OO11 := Lib.hid own11
  have HO := Lib.hid (fun g (h : (Value.slice Ao M.length co).ownBlock = some g) => own11.lt g h)
  have B11 := Lib.hid (B10.out.trans (hb.mono z10))
  have R11 := Lib.hid (R10.out.below (hb.mono z10))
  have S11 := Lib.hid (S10.out.below (hb.mono z10))
  have z11 : p ≤ w11.heap.size := Nat.le_trans z10 hb.size
  have t11 : w10.heap.size ≤ w11.heap.size := hb.size
  clear B10 R10 S10
  have F11 := Lib.hid ((F10.out.below hb).more hb.size)
  clear F10
  have RD11 := Lib.hid ((RD10.out.below hb).more hb.size)
  clear RD10
  have RN11 := Lib.hid ((RN10.out.below hb).more hb.size)
  clear RN10
  have OG11 := Lib.hid (own_keep OG10.out hb (Nat.le_refl _))
  clear OG10
  have OA11 := Lib.hid (own_keep OA10.out hb (Nat.le_refl _))
  clear OA10
  have OC11 := Lib.hid (own_keep OC10.out hb (Nat.le_refl _))
  clear OC10
  have OM11 := Lib.hid (own_keep OM10.out hb (Nat.le_refl _))
  clear OM10
  clear hb own11 hro HDE
  go_wp2_with fail
  refine (HCH.out w11 F11.out).mono ?_
  rintro e w12 ⟨rfl, hb⟩
  have B12 := Lib.hid (B11.out.trans (hb.mono z11))
  have R12 := Lib.hid (R11.out.below (hb.mono z11))
  have S12 := Lib.hid (S11.out.below (hb.mono z11))
  have z12 : p ≤ w12.heap.size := Nat.le_trans z11 hb.size
  have t12 : w11.heap.size ≤ w12.heap.size := hb.size
  clear B11 R11 S11
  have F12 := Lib.hid ((F11.out.below hb).more hb.size)
  clear F11
  have RD12 := Lib.hid ((RD11.out.below hb).more hb.size)
  clear RD11
  have RN12 := Lib.hid ((RN11.out.below hb).more hb.size)
  clear RN11
  have OG12 := Lib.hid (own_keep OG11.out hb (Nat.le_refl _))
  clear OG11
  have OA12 := Lib.hid (own_keep OA11.out hb (Nat.le_refl _))
  clear OA11
  have OC12 := Lib.hid (own_keep OC11.out hb (Nat.le_refl _))
  clear OC11
  have OM12 := Lib.hid (own_keep OM11.out hb (Nat.le_refl _))
  clear OM11
  have OO12 := Lib.hid (own_keep OO11.out hb (Nat.le_refl _))
  clear OO11
  clear hb HCH
  go_wp2_with fail
  refine (HRC.out w12 R12.out z12).mono ?_
  rintro e w13 ⟨rfl, hb⟩
  have B13 := Lib.hid (B12.out.trans (hb.mono z12))
  have R13 := Lib.hid (R12.out.below (hb.mono z12))
  have S13 := Lib.hid (S12.out.below (hb.mono z12))
  have z13 : p ≤ w13.heap.size := Nat.le_trans z12 hb.size
  have t13 : w12.heap.size ≤ w13.heap.size := hb.size
  clear B12 R12 S12
  have F13 := Lib.hid ((F12.out.below hb).more hb.size)
  clear F12
  have RD13 := Lib.hid ((RD12.out.below hb).more hb.size)
  clear RD12
  have RN13 := Lib.hid ((RN12.out.below hb).more hb.size)
  clear RN12
  have OG13 := Lib.hid (own_keep OG12.out hb (Nat.le_refl _))
  clear OG12
  have OA13 := Lib.hid (own_keep OA12.out hb (Nat.le_refl _))
  clear OA12
  have OC13 := Lib.hid (own_keep OC12.out hb (Nat.le_refl _))
  clear OC12
  have OM13 := Lib.hid (own_keep OM12.out hb (Nat.le_refl _))
  clear OM12
  have OO13 := Lib.hid (own_keep OO12.out hb (Nat.le_refl _))
  clear OO12
  clear hb HRC
  go_wp2_with fail
  refine (same_any Aa Ad P.length P.length ca cd _ _ P P rfl rfl (by have := HEL.out; omega) w13 (own_rdL OA13.out) RD13.out).mono ?_
  rintro e w14' ⟨rfl, m2, rfl⟩
  rw [decide_eq_true rfl]
  have hb : Below w13.heap.size w13 (w13.drewN m2) := bel_dn (Below.refl _ _) m2
  generalize w13.drewN m2 = w14 at *
  have B14 := Lib.hid (B13.out.trans (hb.mono z13))
  have R14 := Lib.hid (R13.out.below (hb.mono z13))
  have S14 := Lib.hid (S13.out.below (hb.mono z13))
  have z14 : p ≤ w14.heap.size := Nat.le_trans z13 hb.size
  have t14 : w13.heap.size ≤ w14.heap.size := hb.size
  clear B13 R13 S13
  have F14 := Lib.hid ((F13.out.below hb).more hb.size)
  clear F13
  have RN14 := Lib.hid ((RN13.out.below hb).more hb.size)
  clear RN13
  have OG14 := Lib.hid (own_keep OG13.out hb (Nat.le_refl _))
  clear OG13
  have OA14 := Lib.hid (own_keep OA13.out hb (Nat.le_refl _))
  clear OA13
  have OC14 := Lib.hid (own_keep OC13.out hb (Nat.le_refl _))
  clear OC13
  have OM14 := Lib.hid (own_keep OM13.out hb (Nat.le_refl _))
  clear OM13
  have OO14 := Lib.hid (own_keep OO13.out hb (Nat.le_refl _))
  clear OO13
  clear hb RD13
  go_wp2_with fail
  have hM64 := HDM.out.1
  refine (sameE_any Am An M.length M.length cm cn _ _ M M rfl rfl (by omega) w14 (own_rdL OM14.out) (Nat.le_refl _) RN14.out (Nat.le_refl _)).mono ?_
  rintro e w15 ⟨rfl, hb⟩
  rw [decide_eq_true rfl]
  have B15 := Lib.hid (B14.out.trans (hb.mono z14))
  have R15 := Lib.hid (R14.out.below (hb.mono z14))
  have S15 := Lib.hid (S14.out.below (hb.mono z14))
  have z15 : p ≤ w15.heap.size := Nat.le_trans z14 hb.size
  have t15 : w14.heap.size ≤ w15.heap.size := hb.size
  clear B14 R14 S14
  have F15 := Lib.hid ((F14.out.below hb).more hb.size)
  clear F14
  have OG15 := Lib.hid (own_keep OG14.out hb (Nat.le_refl _))
  clear OG14
  have OA15 := Lib.hid (own_keep OA14.out hb (Nat.le_refl _))
  clear OA14
  have OC15 := Lib.hid (own_keep OC14.out hb (Nat.le_refl _))
  clear OC14
  have OM15 := Lib.hid (own_keep OM14.out hb (Nat.le_refl _))
  clear OM14
  have OO15 := Lib.hid (own_keep OO14.out hb (Nat.le_refl _))
  clear OO14
  clear hb RN14
  go_wp2_with fail
  refine (keptE_any (some ⟨gF, 0, none⟩) A (n + 3) n cF c _ _ (lentE l) l (by rw [lentE_length, HL.out]) HL.out (by omega) (by omega) w15 F15.out (Nat.le_refl _) R15.out z15).mono ?_
  rintro e w16 ⟨rfl, hb⟩
  rw [decide_eq_true rfl]
  have B16 := Lib.hid (B15.out.trans (hb.mono z15))
  have R16 := Lib.hid (R15.out.below (hb.mono z15))
  have S16 := Lib.hid (S15.out.below (hb.mono z15))
  have z16 : p ≤ w16.heap.size := Nat.le_trans z15 hb.size
  have t16 : w15.heap.size ≤ w16.heap.size := hb.size
  clear B15 R15 S15
  have OG16 := Lib.hid (own_keep OG15.out hb (Nat.le_refl _))
  clear OG15
  have OA16 := Lib.hid (own_keep OA15.out hb (Nat.le_refl _))
  clear OA15
  have OC16 := Lib.hid (own_keep OC15.out hb (Nat.le_refl _))
  clear OC15
  have OM16 := Lib.hid (own_keep OM15.out hb (Nat.le_refl _))
  clear OM15
  have OO16 := Lib.hid (own_keep OO15.out hb (Nat.le_refl _))
  clear OO15
  clear hb F15
  go_wp2_with fail
  refine (kept_any (some ⟨gB, 0, none⟩) Ab (nb + 3) nb cG cb _ _ (lent b) b (by rw [lent_length, BL.out]) BL.out (by omega) (by omega) w16 (own_rdL OG16.out) (Nat.le_refl _) S16.out z16).mono ?_
  rintro e w17 ⟨rfl, hb⟩
  rw [decide_eq_true rfl]
  have B17 := Lib.hid (B16.out.trans (hb.mono z16))
  have R17 := Lib.hid (R16.out.below (hb.mono z16))
  have S17 := Lib.hid (S16.out.below (hb.mono z16))
  have z17 : p ≤ w17.heap.size := Nat.le_trans z16 hb.size
  have t17 : w16.heap.size ≤ w17.heap.size := hb.size
  clear B16 R16 S16
  have OG17 := Lib.hid (own_keep OG16.out hb (Nat.le_refl _))
  clear OG16
  have OA17 := Lib.hid (own_keep OA16.out hb (Nat.le_refl _))
  clear OA16
  have OC17 := Lib.hid (own_keep OC16.out hb (Nat.le_refl _))
  clear OC16
  have OM17 := Lib.hid (own_keep OM16.out hb (Nat.le_refl _))
  clear OM16
  have OO17 := Lib.hid (own_keep OO16.out hb (Nat.le_refl _))
  clear OO16
  clear hb
  go_wp2_with fail
  have hb : Below w17.heap.size w17 (w17.alloc (.cells #[.slice Aa P.length ca, .slice Ac P.length cc, .slice (some ⟨gB, 0, none⟩) (nb + 3) cG] 23)) := (Below.refl _ _).alloc (Nat.le_refl _) _
  have RV := Lib.hid (rd_frC w17 #[.slice Aa P.length ca, .slice Ac P.length cc, .slice (some ⟨gB, 0, none⟩) (nb + 3) cG] 23 (0, 0))
  have zn : w17.heap.size < (w17.alloc (.cells #[.slice Aa P.length ca, .slice Ac P.length cc, .slice (some ⟨gB, 0, none⟩) (nb + 3) cG] 23)).heap.size := by simp
  generalize hw18 : w17.alloc (.cells #[.slice Aa P.length ca, .slice Ac P.length cc, .slice (some ⟨gB, 0, none⟩) (nb + 3) cG] 23) = w18 at *
  have B18 := Lib.hid (B17.out.trans (hb.mono z17))
  have R18 := Lib.hid (R17.out.below (hb.mono z17))
  have S18 := Lib.hid (S17.out.below (hb.mono z17))
  have z18 : p ≤ w18.heap.size := Nat.le_trans z17 hb.size
  have t18 : w17.heap.size ≤ w18.heap.size := hb.size
  clear B17 R17 S17
  have OG18 := Lib.hid (own_keep OG17.out hb (Nat.le_refl _))
  clear OG17
  have OA18 := Lib.hid (own_keep OA17.out hb (Nat.le_refl _))
  clear OA17
  have OC18 := Lib.hid (own_keep OC17.out hb (Nat.le_refl _))
  clear OC17
  have OM18 := Lib.hid (own_keep OM17.out hb (Nat.le_refl _))
  clear OM17
  have OO18 := Lib.hid (own_keep OO17.out hb (Nat.le_refl _))
  clear OO17
  clear hb hw18
  refine (apart2_any (some ⟨w17.heap.size, 0, none⟩) 3 3 w18.heap.size p [.slice Aa P.length ca, .slice Ac P.length cc, .slice (some ⟨gB, 0, none⟩) (nb + 3) cG] [P, P, lent b] rfl rfl (by omega) w18 RV.out (Nat.le_refl _) z18 ?_ ?_ ?_ ?_).mono ?_
  · intro i v bs hv hbs
    rcases three_get hv with ⟨rfl, rfl⟩ | ⟨rfl, rfl⟩ | ⟨rfl, rfl⟩
    · obtain rfl : P = bs := by simpa using hbs
      exact own_base OA18.out z5
    · obtain rfl : P = bs := by simpa using hbs
      exact own_base OC18.out z6
    · obtain rfl : lent b = bs := by simpa using hbs
      exact own_eq (own_base OG18.out z4) (by rw [lent_length, BL.out]) rfl
  · exact three_apart HA.out HC.out HG.out (Nat.le_refl _) (Nat.le_refl _) (by omega)
  · intro g o hA i v hv hvg
    injection hA with hA
    injection hA with e1 e2
    rcases three_get hv with ⟨rfl, rfl⟩ | ⟨rfl, rfl⟩ | ⟨rfl, rfl⟩
    · have := (HA.out g hvg).2; omega
    · have := (HC.out g hvg).2; omega
    · have := (HG.out g hvg).2; omega
  · intro i bs hbs
    rcases three_get hbs with ⟨rfl, rfl⟩ | ⟨rfl, rfl⟩ | ⟨rfl, rfl⟩
    · have := HEL.out; omega
    · have := HEL.out; omega
    · rw [lent_length, BL.out]; omega
  rintro e w19 ⟨rfl, hb19, hk⟩
  have hne : ∀ g, (w8.heap.size ≤ g) → g < w11.heap.size → ∀ (i : Nat) (v : Value), [Value.slice Aa P.length ca, .slice Ac P.length cc, .slice (some ⟨gB, 0, none⟩) (nb + 3) cG][i]? = some v → v.ownBlock ≠ some g := by
    intro g h1 h2 i v hv hvg
    rcases three_get hv with ⟨rfl, rfl⟩ | ⟨rfl, rfl⟩ | ⟨rfl, rfl⟩
    · have := (HA.out g hvg).2; omega
    · have := (HC.out g hvg).2; omega
    · have := (HG.out g hvg).2; omega
  have OM19 := Lib.hid (ownsRow_of OM18.out (W' := w19) (fun g hg => hk g (OM18.out.lt g hg).2 (hne g (HM.out g hg).1 (by have := (HM.out g hg).2; omega))))
  have OO19 := Lib.hid (ownsRow_of OO18.out (W' := w19) (fun g hg => hk g (OO18.out.lt g hg).2 (hne g (by have := (HO.out g hg).1; omega) (HO.out g hg).2)))
  have B19 := Lib.hid (B18.out.trans hb19)
  have z19 : p ≤ w19.heap.size := Nat.le_trans z18 hb19.size
  have zz : w11.heap.size ≤ w19.heap.size := by have := hb19.size; omega
  clear hne hk hb19 OM18 OO18 OA18 OC18 OG18 B18 R18 S18 RV
  go_wp2_with fail
  have hb : Below w19.heap.size w19 (w19.alloc (.cells #[.slice Ao M.length co] 22)) := (Below.refl _ _).alloc (Nat.le_refl _) _
  have RN := Lib.hid (rd_frC w19 #[.slice Ao M.length co] 22 (0, 0))
  generalize hw20 : w19.alloc (.cells #[.slice Ao M.length co] 22) = w20 at *
  have OM20 := Lib.hid (own_keep OM19.out hb (Nat.le_refl _))
  have OO20 := Lib.hid (own_keep OO19.out hb (Nat.le_refl _))
  have B20 := Lib.hid (B19.out.trans (hb.mono z19))
  have z20 : p ≤ w20.heap.size := Nat.le_trans z19 hb.size
  clear hb hw20 OM19 OO19 B19
  refine (apartE_any Am M.length cm w8.heap.size M (some ⟨w19.heap.size, 0, none⟩) 1 1 [.slice Ao M.length co] [M] rfl (by omega) (by omega) rfl rfl (by
    intro l' hl'
    rw [List.mem_singleton.1 hl']
    omega) HDM.out.2 w20 OM20.out RN.out (by
    intro g o h1 h2
    injection h1 with h1
    injection h1 with h1
    have := (HM.out g h2).2
    omega) (by
    intro i l' hl'
    cases i with
    | zero =>
      obtain rfl : M = l' := by simpa using hl'
      exact ⟨Ao, co, rfl, own_rdL OO20.out, fun g o h1 h2 => by
        have h3 := (HM.out g h2).2
        have h4 := (HO.out g (by rw [h1]; rfl)).1
        omega⟩
    | succ i => simp at hl')).mono ?_
  rintro e w21 ⟨rfl, gr⟩
  have hb21 := B20.out.grown gr z20 (fun g hg => by have := (HM.out g hg).1; omega)
  have BF := Lib.hid hb21
  clear gr hb21
  go_wp2_with fail
  go_ret
  exact ⟨rfl, by rw [← HP.out]; exact BF.out⟩

theorem blockCalls_law (w : World) (x : EntsArg w) (_ : True) (Ab : Option Addr) (nb cb : Nat) (b : List UInt8) (bl : b.length = nb) (lcb : nb ≤ cb) (bnb : cb ≤ 140737488351232) (rdb : Rd w w.heap.size Ab (bv b)) :
    Calls Try.prog 3 #[.slice x.A x.n x.c, .slice Ab nb cb] w fun e w' => e = .returned (.bool true) ∧ Below w.heap.size w w' :=
  blockCalls_walk w x.A x.n x.c x.l x.hl x.hc x.hn x.rd Ab nb cb b bl lcb bnb rdb
end Go.Proofs.Ytmcpjpkidcbgiaa
