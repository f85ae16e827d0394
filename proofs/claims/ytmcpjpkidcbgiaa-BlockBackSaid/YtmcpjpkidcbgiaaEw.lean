/- Walk: a block is read as it was written. -/
import Derived.Test.YtmcpjpkidcbgiaaEs
import Derived.Test.YtmcpjpkidcbgiaaEt
namespace Go.Proofs.Ytmcpjpkidcbgiaa
open Go.RowKit Go.St Go.Maps
set_option linter.unusedVariables false
set_option linter.unusedSimpArgs false
set_option maxRecDepth 100000

set_option maxHeartbeats 3200000 in
theorem blockBack_walk (w : World) (A : Option Addr) (n c : Nat) (l : List Ent) (hl : l.length = n) (hc : n ≤ c) (hn : c ≤ 140737488351232) (hr : Rd w w.heap.size A (env l)) (Ab : Option Addr) (nb cb : Nat) (b : List UInt8) (bl : b.length = nb) (lcb : nb ≤ cb) (bnb : cb ≤ 140737488351232) (rdb : Rd w w.heap.size Ab (bv b)) :
    Calls Try.prog 4 #[.slice A n c, .slice Ab nb cb] w fun e w' => e = .returned (.bool true) ∧ Below w.heap.size w w' := by
  obtain ⟨p, hp⟩ : ∃ p, p = w.heap.size := ⟨_, rfl⟩
  have HP := Lib.hid hp
  rw [← hp] at hr rdb
  have HL := Lib.hid hl
  have BL := Lib.hid bl
  have HR := Lib.hid hr
  have HB := Lib.hid rdb
  have hpw : p ≤ w.heap.size := by omega
  clear hr hl bl rdb hp
  go_enter Try.func4, Try.ntmps4
  go_wp2_with fail
  refine (lives07_any w).mono ?_
  rintro e w2 ⟨rfl, hb⟩
  have B2 : Hid (Below p w w2) := Lib.hid (hb.mono hpw)
  have R2 := Lib.hid (HR.out.below B2.out)
  have S2 := Lib.hid (HB.out.below B2.out)
  have z2 : p ≤ w2.heap.size := Nat.le_trans hpw hb.size
  clear hb HR HB hpw
  go_wp2_with fail
  refine (small7_any A n c l HL.out (by omega) p w2 R2.out z2).mono ?_
  rintro e w3 ⟨rfl, hb⟩
  have B3 := Lib.hid (B2.out.trans (hb.mono z2))
  have R3 := Lib.hid (R2.out.below (hb.mono z2))
  have S3 := Lib.hid (S2.out.below (hb.mono z2))
  have z3 : p ≤ w3.heap.size := Nat.le_trans z2 hb.size
  clear B2 R2 S2 z2
  clear hb
  cases hsm : smallE l
  · go_wp2_with fail
    go_ret
    exact ⟨rfl, by rw [← HP.out]; exact B3.out⟩
  have HSM := Lib.hid (smallE_b hsm)
  have hn70 : n ≤ 70 := by have := HSM.out.1; rwa [HL.out] at this
  clear hsm
  by_cases hb8 : 8000 < nb
  · have i8 : (8000 : Int) < (nb : Int) := by omega
    go_wp2_with fail
    go_ret
    exact ⟨rfl, by rw [← HP.out]; exact B3.out⟩
  have i8 : ¬ (8000 : Int) < (nb : Int) := by omega
  have HKM := Lib.hid (fun y (hy : y ∈ l) => show y.key.size ≤ maxLen by have := HSM.out.2 y hy; unfold maxLen; omega)
  go_wp2_with fail
  have HE := Lib.hid (encode_any A n c l HL.out (by omega) HKM.out p w3 R3.out z3)
  have HC := Lib.hid (fun W h k => check7_any A n c l HL.out (by omega) HKM.out p W h k)
  by_cases hck : chkL l = 0
  · have HCK := Lib.hid hck
    rw [hck] at HE HC
    clear hck
    refine HE.out.mono ?_
    rintro e w4 ⟨v4, rfl, o4, hb⟩
    obtain ⟨A4, c4, rfl, hc4, hr4⟩ := own_sl o4
    have R44 := Lib.hid hr4
    have hcm : c4 ≤ 9223372036854775807 := by have := (own_caps o4).2; unfold maxLen at this; omega
    have B4 := Lib.hid (B3.out.trans (hb.mono z3))
    have R4 := Lib.hid (R3.out.below (hb.mono z3))
    have S4 := Lib.hid (S3.out.below (hb.mono z3))
    have z4 : p ≤ w4.heap.size := Nat.le_trans z3 hb.size
    clear B3 R3 S3 z3
    clear hb o4 hr4 HE i8
    obtain ⟨a, ha⟩ : ∃ a, a = encL l := ⟨_, rfl⟩
    have han : a.length ≤ 400000 := by rw [ha]; exact encL_len l
    have HDA : Hid (decO a = some l) := Lib.hid (by rw [ha]; exact dec_enc HCK.out)
    rw [← ha] at R44 ⊢
    rw [← ha] at hc4
    clear ha
    go_wp2_with fail
    have HD := Lib.hid (decode_any A4 a.length c4 w4.heap.size a rfl hc4 hcm (by omega) w4 R44.out (Nat.le_refl _))
    rw [(dec_some HDA.out).1, (dec_some HDA.out).2] at HD
    refine HD.out.mono ?_
    rintro e w5 ⟨v5, rfl, o5, hb⟩
    obtain ⟨A5, c5, rfl, hc5, hr5⟩ := own_sl o5
    have R55 := Lib.hid hr5
    have B5 := Lib.hid (B4.out.trans (hb.mono z4))
    have R5 := Lib.hid (R4.out.below (hb.mono z4))
    have S5 := Lib.hid (S4.out.below (hb.mono z4))
    have z5 : p ≤ w5.heap.size := Nat.le_trans z4 hb.size
    clear B4 R4 S4 z4
    clear hb o5 hr5 HD R44 HDA
    rw [HL.out] at hc5 ⊢
    go_wp2_with fail
    refine (sameE_any A A5 n n c c5 p w5.heap.size l l HL.out HL.out (by omega) w5 R5.out z5 R55.out (Nat.le_refl _)).mono ?_
    rintro e w6 ⟨rfl, hb⟩
    rw [decide_eq_true rfl]
    have B6 := Lib.hid (B5.out.trans (hb.mono z5))
    have R6 := Lib.hid (R5.out.below (hb.mono z5))
    have S6 := Lib.hid (S5.out.below (hb.mono z5))
    have z6 : p ≤ w6.heap.size := Nat.le_trans z5 hb.size
    clear B5 R5 S5 z5
    clear hb R55
    go_wp2_with fail
    refine (HC.out w6 R6.out z6).mono ?_
    rintro e w7 ⟨rfl, hb⟩
    have B7 := Lib.hid (B6.out.trans (hb.mono z6))
    have R7 := Lib.hid (R6.out.below (hb.mono z6))
    have S7 := Lib.hid (S6.out.below (hb.mono z6))
    have z7 : p ≤ w7.heap.size := Nat.le_trans z6 hb.size
    clear B6 R6 S6 z6
    clear hb HC
    have i8 : ¬ (8000 : Int) < (nb : Int) := by omega
    go_wp2_with fail
    refine (decode_any Ab nb cb p b BL.out lcb (by omega) (by omega) w7 S7.out z7).mono ?_
    rintro e wd ⟨vd, rfl, od, hb⟩
    obtain ⟨Ad, cd, rfl, hcd, hrd⟩ := own_sl od
    obtain ⟨wdd, rfl⟩ : ∃ x, x = wd := ⟨_, rfl⟩
    have RD := Lib.hid hrd
    have Bdd := Lib.hid (B7.out.trans (hb.mono z7))
    have Rdd := Lib.hid (R7.out.below (hb.mono z7))
    have Sdd := Lib.hid (S7.out.below (hb.mono z7))
    have zdd : p ≤ wdd.heap.size := Nat.le_trans z7 hb.size
    clear B7 R7 S7 z7
    clear hb od hrd
    cases hdec : decO b with
    | none =>
      have h1 := dec_none hdec
      rw [h1.1] at RD
      rw [h1.1, h1.2]
      have hl0 : ([] : List Ent).length = 0 := rfl
      rw [hl0]
      clear h1
      go_wp2_with fail
      go_ret
      exact ⟨rfl, by rw [← HP.out]; exact Bdd.out⟩
    | some m =>
      have h1 := dec_some hdec
      have h2 := dec_ok hdec
      have h3 := chkL_ok h2.1
      rw [h1.1] at RD
      rw [h1.1, h1.2]
      have HE := Lib.hid (encode_any Ad m.length cd m rfl (by omega) (fun y hy => by have := (okE_b (h3.2.2.1 y hy)).2.2.2.1; unfold maxLen; omega) wdd.heap.size wdd RD.out (Nat.le_refl _))
      rw [h2.1, h2.2] at HE
      clear h1 h2 h3
      go_wp2_with fail
      refine HE.out.mono ?_
      rintro e we ⟨ve, rfl, oe, hb⟩
      obtain ⟨Ae, ce, rfl, hce, hre⟩ := own_sl oe
      obtain ⟨wee, rfl⟩ : ∃ x, x = we := ⟨_, rfl⟩
      have RE := Lib.hid hre
      have Bee := Lib.hid (Bdd.out.trans (hb.mono zdd))
      have Ree := Lib.hid (Rdd.out.below (hb.mono zdd))
      have See := Lib.hid (Sdd.out.below (hb.mono zdd))
      have zee : p ≤ wee.heap.size := Nat.le_trans zdd hb.size
      clear Bdd Rdd Sdd zdd
      clear hb oe hre HE
      go_wp2_with fail
      refine (same_any Ae Ab b.length nb ce cb _ _ b b rfl BL.out (by rw [BL.out]; omega) wee RE.out See.out).mono ?_
      rintro e wf ⟨rfl, m2, rfl⟩
      rw [decide_eq_true rfl]
      go_wp2_with fail
      go_ret
      exact ⟨rfl, by rw [← HP.out]; exact bel_dn Bee.out m2⟩
  · have HCK := Lib.hid hck
    clear HC
    obtain ⟨C, hC⟩ : ∃ C, C = chkL l := ⟨_, rfl⟩
    rw [← hC] at HE hck
    clear hC HCK
    have hcb : (C == 0) = false := by simpa using hck
    clear hck
    refine HE.out.mono ?_
    rintro e w4 ⟨v4, rfl, o4, hb⟩
    have B4 := Lib.hid (B3.out.trans (hb.mono z3))
    have R4 := Lib.hid (R3.out.below (hb.mono z3))
    have S4 := Lib.hid (S3.out.below (hb.mono z3))
    have z4 : p ≤ w4.heap.size := Nat.le_trans z3 hb.size
    clear B3 R3 S3 z3
    clear hb o4 HE
    go_wp2_with fail
    refine (decode_any Ab nb cb p b BL.out lcb (by omega) (by omega) w4 S4.out z4).mono ?_
    rintro e wd ⟨vd, rfl, od, hb⟩
    obtain ⟨Ad, cd, rfl, hcd, hrd⟩ := own_sl od
    obtain ⟨wdd, rfl⟩ : ∃ x, x = wd := ⟨_, rfl⟩
    have RD := Lib.hid hrd
    have Bdd := Lib.hid (B4.out.trans (hb.mono z4))
    have Rdd := Lib.hid (R4.out.below (hb.mono z4))
    have Sdd := Lib.hid (S4.out.below (hb.mono z4))
    have zdd : p ≤ wdd.heap.size := Nat.le_trans z4 hb.size
    clear B4 R4 S4 z4
    clear hb od hrd
    cases hdec : decO b with
    | none =>
      have h1 := dec_none hdec
      rw [h1.1] at RD
      rw [h1.1, h1.2]
      have hl0 : ([] : List Ent).length = 0 := rfl
      rw [hl0]
      clear h1
      go_wp2_with fail
      go_ret
      exact ⟨rfl, by rw [← HP.out]; exact Bdd.out⟩
    | some m =>
      have h1 := dec_some hdec
      have h2 := dec_ok hdec
      have h3 := chkL_ok h2.1
      rw [h1.1] at RD
      rw [h1.1, h1.2]
      have HE := Lib.hid (encode_any Ad m.length cd m rfl (by omega) (fun y hy => by have := (okE_b (h3.2.2.1 y hy)).2.2.2.1; unfold maxLen; omega) wdd.heap.size wdd RD.out (Nat.le_refl _))
      rw [h2.1, h2.2] at HE
      clear h1 h2 h3
      go_wp2_with fail
      refine HE.out.mono ?_
      rintro e we ⟨ve, rfl, oe, hb⟩
      obtain ⟨Ae, ce, rfl, hce, hre⟩ := own_sl oe
      obtain ⟨wee, rfl⟩ : ∃ x, x = we := ⟨_, rfl⟩
      have RE := Lib.hid hre
      have Bee := Lib.hid (Bdd.out.trans (hb.mono zdd))
      have Ree := Lib.hid (Rdd.out.below (hb.mono zdd))
      have See := Lib.hid (Sdd.out.below (hb.mono zdd))
      have zee : p ≤ wee.heap.size := Nat.le_trans zdd hb.size
      clear Bdd Rdd Sdd zdd
      clear hb oe hre HE
      go_wp2_with fail
      refine (same_any Ae Ab b.length nb ce cb _ _ b b rfl BL.out (by rw [BL.out]; omega) wee RE.out See.out).mono ?_
      rintro e wf ⟨rfl, m2, rfl⟩
      rw [decide_eq_true rfl]
      go_wp2_with fail
      go_ret
      exact ⟨rfl, by rw [← HP.out]; exact bel_dn Bee.out m2⟩

theorem blockBack_law (w : World) (x : EntsArg w) (_ : True) (Ab : Option Addr) (nb cb : Nat) (b : List UInt8) (bl : b.length = nb) (lcb : nb ≤ cb) (bnb : cb ≤ 140737488351232) (rdb : Rd w w.heap.size Ab (bv b)) :
    Calls Try.prog 4 #[.slice x.A x.n x.c, .slice Ab nb cb] w fun e w' => e = .returned (.bool true) ∧ Below w.heap.size w w' :=
  blockBack_walk w x.A x.n x.c x.l x.hl x.hc x.hn x.rd Ab nb cb b bl lcb bnb rdb
end Go.Proofs.Ytmcpjpkidcbgiaa
