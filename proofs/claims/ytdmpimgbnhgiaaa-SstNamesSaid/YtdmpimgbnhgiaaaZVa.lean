/- Walk: the chapter's examples of tables hold. -/
import Derived.Test.YtdmpimgbnhgiaaaZUz

namespace Go.Proofs.Ytdmpimgbnhgiaaa
open Go.RowKit Go.St Go.Shelf Go.Maps
set_option linter.unusedVariables false
set_option linter.unusedSimpArgs false
set_option maxRecDepth 100000

def exK : List Ent := [xE 98 2, xE 97 1]
theorem exK_e : bldE ((2 : Nat) : Int) ((10 : Nat) : Int) exK = 10 := by kernel_rfl
theorem ex0_e : bldE ((2 : Nat) : Int) ((10 : Nat) : Int) [] = 2 := by kernel_rfl
theorem ex65_e : bldE ((65 : Nat) : Int) ((10 : Nat) : Int) exT = 2 := by kernel_rfl
theorem exT_scan : scT (fun _ => false) 2 exT { data := #[98] } { data := #[99] } = ([xE 98 2], 0, 2) := by kernel_rfl
theorem exT_len : (bldB 2 10 exT).length = 121 := by kernel_rfl
theorem exT_torn : recB (((bldB 2 10 exT).take 120).drop 84) = false := by kernel_rfl
set_option maxHeartbeats 6400000 in
theorem sstNames_walk (w : World) : Calls Try.prog 4 #[] w fun e w' => e = .returned (.bool true) ∧ Below w.heap.size w w' := by
  obtain ⟨p, b, hp0, hb0, hp, hbt, hl1, hok, hris, hld⟩ := bldE_ok exT_ok
  have hp2 : p = 2 := by omega
  have hb2 : b = 10 := by omega
  subst hp2 hb2
  clear hp0 hb0
  have HOK := Lib.hid hok
  have HRIS := Lib.hid hris
  have HLD := Lib.hid hld
  clear hok hris hld
  go_enter Try.func4, Try.ntmps4
  go_wp2_with fail
  refine (example09_any _).mono ?_
  rintro e w1 ⟨b1, rfl, -, r1, hb1⟩
  have B1 := Lib.hid hb1
  have H := Lib.hid (build_any (some ⟨b1, 0, none⟩) 3 3 2 10 exT rfl (by omega) (by omega) (by decide) w1 r1)
  rw [show bldE 2 10 exT = 0 from exT_ok, show bldL 2 10 exT = bldB 2 10 exT from HLD.out, exT_len] at H
  clear hb1 r1
  go_wp2_with fail
  refine H.out.mono ?_
  rintro e w2 ⟨A2, c2, rfl, own2, hb2⟩
  obtain ⟨hc2, hcI⟩ := own_caps2 own2
  have O2 := Lib.hid own2
  have B2 := Lib.hid (B1.out.trans (hb2.mono B1.out.size))
  have HOP := open_built A2 c2 2 10 hp hbt exT hl1 (by decide) HOK.out HRIS.out (by rw [exT_len]; exact hc2) hcI w2.heap.size w2 (own_rdL own2) (Nat.le_refl _)
  have HBK : Hid (BkS (fun _ => false) 2 exT (bldB 2 10 exT)) := Lib.hid (by rw [bldB_eq]; exact bks_all 2 exT _)
  have HTN := Lib.hid exT_torn
  have HXL := Lib.hid exT_len
  rw [exT_len] at HOP
  generalize bldB 2 10 exT = X at *
  have HOP := Lib.hid HOP
  clear own2 hb2 H B1 HLD
  go_wp2_with fail
  refine HOP.out.mono ?_
  rintro e w3 ⟨tb, Ab, cb, Ai, ci, Af, cf, rfl, t, htb, hb3⟩
  have htb0 : w.heap.size ≤ tb := by have := B2.out.size; omega
  have T3 := Lib.hid t
  have O3 := Lib.hid (own_keep O2.out hb3 (Nat.le_refl _))
  have B3 := Lib.hid (B2.out.trans (hb3.mono B2.out.size))
  have HGB : Hid (∀ g, (Value.slice A2 121 c2).ownBlock = some g → g ≠ tb) := Lib.hid (fun g hg => by have := (O2.out.lt g hg).2; omega)
  clear t hb3 HOP O2 B2
  go_wp2_with fail
  refine (lives09_any w3).mono ?_
  rintro e w4 ⟨rfl, hb⟩
  have T4 := Lib.hid (T3.out.next hb)
  have O4 := Lib.hid (own_keep O3.out hb (Nat.le_refl _))
  have B4 := Lib.hid (B3.out.trans (hb.mono B3.out.size))
  clear hb T3 O3 B3
  have HGT := get_any (fun _ => false) hp hbt hl1 (show exT.length ≤ 150 by decide) HOK.out HRIS.out HBK.out { data := #[98] } (by decide) 9 0 (Nat.zero_le _) (fun t ht => by omega) (fun t h1 h2 => by
    rw [exT_nch] at h2
    rcases (by omega : t = 0 ∨ t = 1) with rfl | rfl
    · exact exT_r9.1
    · exact exT_r9.2) (by omega) T4.out
  rw [exT_get9] at HGT
  have HGT := Lib.hid HGT
  go_wp2_with fail
  refine HGT.out.mono ?_
  rintro e w5 ⟨rfl, t, ot⟩
  clear HGT
  have T5 := Lib.hid t
  have O5 := Lib.hid (ownsRow_of O4.out (W' := w5) (fun g hg => ot.block g (O4.out.lt g hg).2 (HGB.out g hg)))
  have B5 := Lib.hid (B4.out.trans (ot.below B4.out.size htb0))
  clear t ot T4 O4 B4
  have HGT := get_any (fun _ => false) hp hbt hl1 (show exT.length ≤ 150 by decide) HOK.out HRIS.out HBK.out { data := #[98] } (by decide) 1 1 (by rw [exT_nch]; omega) (fun t ht => by
    obtain rfl : t = 0 := by omega
    exact exT_r1.1) (fun t h1 h2 => by
    rw [exT_nch] at h2
    obtain rfl : t = 1 := by omega
    exact exT_r1.2) (by omega) T5.out
  rw [exT_get1] at HGT
  have HGT := Lib.hid HGT
  go_wp2_with fail
  refine HGT.out.mono ?_
  rintro e w6 ⟨rfl, t, ot⟩
  clear HGT
  have T6 := Lib.hid t
  have O6 := Lib.hid (ownsRow_of O5.out (W' := w6) (fun g hg => ot.block g (O5.out.lt g hg).2 (HGB.out g hg)))
  have B6 := Lib.hid (B5.out.trans (ot.below B5.out.size htb0))
  clear t ot T5 O5 B5
  unfold Ent.z zB Ent.v
  go_upto_region 7 with (fail)
  have ha : Below w6.heap.size w6 (w6.alloc (.cells #[.string { data := #[] }, .string { data := #[] }, .int .i64 0, .bool false] 40)) := (Below.refl _ _).alloc (Nat.le_refl _) _
  have T7 := Lib.hid (T6.out.next ha)
  have O7 := Lib.hid (own_keep O6.out ha (Nat.le_refl _))
  have B7 := Lib.hid (B6.out.trans (ha.mono B6.out.size))
  clear ha T6 O6 B6
  generalize w6.alloc (.cells #[.string { data := #[] }, .string { data := #[] }, .int .i64 0, .bool false] 40) = w7 at *
  go_wp2_with fail
  refine (reads_yes T7.out).mono ?_
  rintro e w8 ⟨rfl, hb⟩
  have T8 := Lib.hid (T7.out.next hb)
  have O8 := Lib.hid (own_keep O7.out hb (Nat.le_refl _))
  have B8 := Lib.hid (B7.out.trans (hb.mono B7.out.size))
  clear hb T7 O7 B7
  have HSC := scan_any (fun _ => false) hp hl1 (show exT.length ≤ 150 by decide) HOK.out HRIS.out HBK.out { data := #[98] } { data := #[99] } (by omega) T8.out
  rw [exT_scan] at HSC
  have HSC := Lib.hid HSC
  go_wp2_with fail
  refine HSC.out.mono ?_
  rintro e w9 ⟨A9, c9, rfl, own9, t, ot⟩
  have OS9 := Lib.hid own9
  clear HSC own9
  have T9 := Lib.hid t
  have O9 := Lib.hid (ownsRow_of O8.out (W' := w9) (fun g hg => ot.block g (O8.out.lt g hg).2 (HGB.out g hg)))
  have B9 := Lib.hid (B8.out.trans (ot.below B8.out.size htb0))
  clear t ot T8 O8 B8
  go_wp2_with fail
  refine (reads_yes T9.out).mono ?_
  rintro e w10 ⟨rfl, hb⟩
  have OS10 := Lib.hid (own_keep OS9.out hb (Nat.le_refl _))
  have T10 := Lib.hid (T9.out.next hb)
  have O10 := Lib.hid (own_keep O9.out hb (Nat.le_refl _))
  have B10 := Lib.hid (B9.out.trans (hb.mono B9.out.size))
  clear hb T9 O9 B9 OS9
  go_wp2_with fail
  refine (open_short none 0 0 (by omega) w10).mono ?_
  rintro e w11 ⟨rfl, hb⟩
  have OS11 := Lib.hid (own_keep OS10.out hb (Nat.le_refl _))
  have T11 := Lib.hid (T10.out.next hb)
  have O11 := Lib.hid (own_keep O10.out hb (Nat.le_refl _))
  have B11 := Lib.hid (B10.out.trans (hb.mono B10.out.size))
  clear hb T10 O10 B10 OS10
  have i1 : (120 : Int) ≤ (c2 : Int) := by omega
  have i2 : (121 : Int) ≤ (c2 : Int) := by omega
  have RT : Rd w11 w11.heap.size A2 (bv (X.take 120)) := by
    have h := (own_rdL O11.out).take 120
    rwa [show (bv X).take 120 = bv (X.take 120) by simp [bv, List.map_take]] at h
  have HTO := Lib.hid (open_foot A2 120 c2 84 (X.take 120) (by rw [List.length_take, HXL.out]; rfl) rfl (by omega) (by omega) w11.heap.size w11 RT (Nat.le_refl _) HTN.out)
  clear RT
  go_wp2_with fail
  refine HTO.out.mono ?_
  rintro e w12 ⟨rfl, hb⟩
  have OS12 := Lib.hid (own_keep OS11.out hb (Nat.le_refl _))
  have B12 := Lib.hid (B11.out.trans (hb.mono B11.out.size))
  clear hb T11 O11 B11 OS11 HTO
  have HB0 := build_any none 0 0 2 10 [] rfl (by omega) (by omega) (by decide) w12 Rd.nil
  rw [show bldE 2 10 [] = 2 from ex0_e] at HB0
  have HB0 := Lib.hid HB0
  go_wp2_with fail
  refine HB0.out.mono ?_
  rintro e w13 ⟨A13, c13, rfl, -, hb⟩
  have OS13 := Lib.hid (own_keep OS12.out hb (Nat.le_refl _))
  have B13 := Lib.hid (B12.out.trans (hb.mono B12.out.size))
  clear hb OS12 B12 HB0
  go_wp2_with fail
  refine (example09_any _).mono ?_
  rintro e w14 ⟨b14, rfl, -, r14, hb⟩
  have OS14 := Lib.hid (own_keep OS13.out hb (Nat.le_refl _))
  have B14 := Lib.hid (B13.out.trans (hb.mono B13.out.size))
  have HB6 := build_any (some ⟨b14, 0, none⟩) 3 3 65 10 exT rfl (by omega) (by omega) (by decide) w14 r14
  rw [show bldE 65 10 exT = 2 from ex65_e] at HB6
  have HB6 := Lib.hid HB6
  clear hb OS13 B13 r14
  go_wp2_with fail
  refine HB6.out.mono ?_
  rintro e w15 ⟨A15, c15, rfl, -, hb⟩
  have OS15 := Lib.hid (own_keep OS14.out hb (Nat.le_refl _))
  have B15 := Lib.hid (B14.out.trans (hb.mono B14.out.size))
  clear hb OS14 B14 HB6
  go_upto_region 14 with (fail)
  have hdr : Below w15.heap.size w15 w15.drew := Below.drew (Below.refl _ _)
  refine wp_heldall (S := fun _ => True) 8 (by kernel_rfl) rfl trivial (fun _ => ?_)
  have OS16 := Lib.hid (own_keep OS15.out hdr (Nat.le_refl _))
  have B16 := Lib.hid (B15.out.trans (hdr.mono B15.out.size))
  clear hdr OS15 B15
  generalize w15.drew = w16 at *
  refine wpAnyH_ready (rs := [0]) (by kernel_rfl) (by simp) ?_
  refine consL rfl (by rfl) (fun K hK => ?_) ?_
  · go_simp
    go_at_call 16
    refine (example09_any w16).mono ?_
    rintro r w17 ⟨ba, rfl, -, ra, hb⟩
    have OS17 := Lib.hid (own_keep OS16.out hb (Nat.le_refl _))
    have B17 := Lib.hid (B16.out.trans (hb.mono B16.out.size))
    obtain ⟨ba', oa, ha', hba, ea⟩ := en_at ra (show exT[1]? = some (xE 98 2) from rfl)
    injection ha' with ha'
    injection ha' with ha1 ha2
    subst ha1 ha2
    have EA := Lib.hid ea
    refine hK.out _ _ trivial (fun _ => ?_)
    clear hK K hb ra OS16 B16 ea
    (try simp only [Act.put, List.setIfInBounds_toArray, List.set_cons_zero, List.set_cons_succ])
    refine takeL (i := 1) (v := ?_) rfl (by kernel_rfl) (by kernel_rfl) (by kernel_rfl) (fun _ _ _ h => h) ⟨by rfl, ?_⟩ (by first | assumption | trivial) ?_
    rotate_left
    · intro W9 hSw
      (try dsimp only at hSw)
      go_simp
      try with_reducible rfl
    (try simp only [Act.put, List.setIfInBounds_toArray, List.set_cons_zero, List.set_cons_succ])
    refine wpAnyH_ready (rs := [2, 3]) (by kernel_rfl) (by simp) ?_
    refine consL rfl (by rfl) (fun K hK => ?_) ?_
    · skip
      obtain ⟨d0, d1, d2, d3⟩ := EA.out
      dsimp only [xE] at d0 d1 d2 d3
      go_simp
      refine hK.out _ _ trivial (fun _ => ?_)
      clear hK K d0 d1 d2 d3
      (try simp only [Act.put, List.setIfInBounds_toArray, List.set_cons_zero, List.set_cons_succ])
      refine wpAnyH_ready (rs := [3]) (by kernel_rfl) (by simp) ?_
      refine consL rfl (by rfl) (fun K hK => ?_) ?_
      · skip
        go_simp
        go_at_call 16
        refine (example09_any w17).mono ?_
        rintro r w18 ⟨bb, rfl, -, rb, hb⟩
        have OS18 := Lib.hid (own_keep OS17.out hb (Nat.le_refl _))
        have B18 := Lib.hid (B17.out.trans (hb.mono B17.out.size))
        have EA := Lib.hid (EA.out.below hba hb)
        have hba : ba < w18.heap.size := Nat.lt_of_lt_of_le hba hb.size
        obtain ⟨bb', ob, hb', hbb, eb⟩ := en_at rb (show exT[0]? = some (xE 97 1) from rfl)
        injection hb' with hb'
        injection hb' with hb1 hb2
        subst hb1 hb2
        have EB := Lib.hid eb
        refine hK.out _ _ trivial (fun _ => ?_)
        clear hK K hb rb OS17 B17 eb
        (try simp only [Act.put, List.setIfInBounds_toArray, List.set_cons_zero, List.set_cons_succ])
        refine takeL (i := 4) (v := ?_) rfl (by kernel_rfl) (by kernel_rfl) (by kernel_rfl) (fun _ _ _ h => h) ⟨by rfl, ?_⟩ (by first | assumption | trivial) ?_
        rotate_left
        · intro W9 hSw
          (try dsimp only at hSw)
          go_simp
          try with_reducible rfl
        (try simp only [Act.put, List.setIfInBounds_toArray, List.set_cons_zero, List.set_cons_succ])
        refine wpAnyH_ready (rs := [5]) (by kernel_rfl) (by simp) ?_
        refine consL rfl (by rfl) (fun K hK => ?_) ?_
        · skip
          obtain ⟨d0, d1, d2, d3⟩ := EB.out
          dsimp only [xE] at d0 d1 d2 d3
          go_simp
          refine hK.out _ _ trivial (fun _ => ?_)
          clear hK K d0 d1 d2 d3
          (try simp only [Act.put, List.setIfInBounds_toArray, List.set_cons_zero, List.set_cons_succ])
          refine wpAnyH_ready (rs := [6]) (by kernel_rfl) (by simp) ?_
          refine consL rfl (by rfl) (fun K hK => ?_) ?_
          · go_simp
            have rk : Rd (w18.alloc (.cells (env exK).toArray 40)) (w18.alloc (.cells (env exK).toArray 40)).heap.size (some ⟨w18.heap.size, 0, none⟩) (env exK) := rd_frC w18 (env exK).toArray 40 (0, 0)
            have RK : Hid (Rd (w18.alloc (.cells #[.string { data := #[98] }, .string { data := #[120] }, .int .i64 2, .bool false, .string { data := #[97] }, .string { data := #[120] }, .int .i64 1, .bool false] 40)) (w18.alloc (.cells #[.string { data := #[98] }, .string { data := #[120] }, .int .i64 2, .bool false, .string { data := #[97] }, .string { data := #[120] }, .int .i64 1, .bool false] 40)).heap.size (some ⟨w18.heap.size, 0, none⟩) (env exK)) := Lib.hid rk
            have ha : Below w18.heap.size w18 (w18.alloc (.cells #[.string { data := #[98] }, .string { data := #[120] }, .int .i64 2, .bool false, .string { data := #[97] }, .string { data := #[120] }, .int .i64 1, .bool false] 40)) := (Below.refl _ _).alloc (Nat.le_refl _) _
            have OS19 := Lib.hid (own_keep OS18.out ha (Nat.le_refl _))
            have B19 := Lib.hid (B18.out.trans (ha.mono B18.out.size))
            refine hK.out _ _ trivial (fun _ => ?_)
            clear hK K rk ha OS18 B18 EA EB hba hbb
            generalize w18.alloc (.cells #[.string { data := #[98] }, .string { data := #[120] }, .int .i64 2, .bool false, .string { data := #[97] }, .string { data := #[120] }, .int .i64 1, .bool false] 40) = w19 at *
            generalize w18.heap.size = kb at *
            (try simp only [Act.put, List.setIfInBounds_toArray, List.set_cons_zero, List.set_cons_succ])
            refine takeL (i := 7) (v := ?_) rfl (by kernel_rfl) (by kernel_rfl) (by kernel_rfl) (fun _ _ _ h => h) ⟨by rfl, ?_⟩ (by first | assumption | trivial) ?_
            rotate_left
            · intro W9 hSw
              (try dsimp only at hSw)
              go_simp
              try with_reducible rfl
            (try simp only [Act.put, List.setIfInBounds_toArray, List.set_cons_zero, List.set_cons_succ])
            refine wpAnyH_done (by kernel_rfl) ?_ _
            have HBK2 := build_any (some ⟨kb, 0, none⟩) 2 2 2 10 exK rfl (by omega) (by omega) (by decide) w19 RK.out
            rw [show bldE 2 10 exK = 10 from exK_e] at HBK2
            have HBK2 := Lib.hid HBK2
            clear RK
            go_wp2_with fail
            refine HBK2.out.mono ?_
            rintro e w20 ⟨A20, c20, rfl, -, hb⟩
            have OS20 := Lib.hid (own_keep OS19.out hb (Nat.le_refl _))
            have B20 := Lib.hid (B19.out.trans (hb.mono B19.out.size))
            clear hb OS19 B19 HBK2
            go_wp2_with fail
            refine (example09_any _).mono ?_
            rintro e w21 ⟨b21, rfl, -, r21, hb⟩
            have OS21 := Lib.hid (own_keep OS20.out hb (Nat.le_refl _))
            have B21 := Lib.hid (B20.out.trans (hb.mono B20.out.size))
            have R21 : Hid (Rd w21 w21.heap.size (some ⟨b21, 4, none⟩) (env [xE 98 2])) := Lib.hid (by
              have h := (r21.drop 4 (cap := 12) (by decide)).take 4
              rw [if_neg (by decide)] at h
              exact h)
            clear hb OS20 B20 r21
            go_wp2_with fail
            refine (sameE_any A9 (some ⟨b21, 4, none⟩) 1 1 c9 2 w21.heap.size w21.heap.size [xE 98 2] [xE 98 2] rfl rfl (by omega) w21 (own_rdL OS21.out) (Nat.le_refl _) R21.out (Nat.le_refl _)).mono ?_
            rintro e w22 ⟨rfl, hb⟩
            rw [decide_eq_true (rfl : [xE 98 2] = [xE 98 2])]
            have B22 := Lib.hid (B21.out.trans (hb.mono B21.out.size))
            clear hb OS21 B21 R21
            go_wp2_with fail
            go_ret
            exact ⟨rfl, B22.out⟩
          · exact AllReadyH.nil
        · exact AllReadyH.nil
      · exact AllReadyH.nil
    refine consL rfl (by rfl) (fun K hK => ?_) ?_
    · skip
      go_simp
      go_at_call 16
      refine (example09_any w17).mono ?_
      rintro r w18 ⟨bb, rfl, -, rb, hb⟩
      have OS18 := Lib.hid (own_keep OS17.out hb (Nat.le_refl _))
      have B18 := Lib.hid (B17.out.trans (hb.mono B17.out.size))
      have EA := Lib.hid (EA.out.below hba hb)
      have hba : ba < w18.heap.size := Nat.lt_of_lt_of_le hba hb.size
      obtain ⟨bb', ob, hb', hbb, eb⟩ := en_at rb (show exT[0]? = some (xE 97 1) from rfl)
      injection hb' with hb'
      injection hb' with hb1 hb2
      subst hb1 hb2
      have EB := Lib.hid eb
      refine hK.out _ _ trivial (fun _ => ?_)
      clear hK K hb rb OS17 B17 eb
      (try simp only [Act.put, List.setIfInBounds_toArray, List.set_cons_zero, List.set_cons_succ])
      refine takeL (i := 4) (v := ?_) rfl (by kernel_rfl) (by kernel_rfl) (by kernel_rfl) (fun _ _ _ h => h) ⟨by rfl, ?_⟩ (by first | assumption | trivial) ?_
      rotate_left
      · intro W9 hSw
        (try dsimp only at hSw)
        go_simp
        try with_reducible rfl
      (try simp only [Act.put, List.setIfInBounds_toArray, List.set_cons_zero, List.set_cons_succ])
      refine wpAnyH_ready (rs := [2, 5]) (by kernel_rfl) (by simp) ?_
      refine consL rfl (by rfl) (fun K hK => ?_) ?_
      · skip
        obtain ⟨d0, d1, d2, d3⟩ := EA.out
        dsimp only [xE] at d0 d1 d2 d3
        go_simp
        refine hK.out _ _ trivial (fun _ => ?_)
        clear hK K d0 d1 d2 d3
        (try simp only [Act.put, List.setIfInBounds_toArray, List.set_cons_zero, List.set_cons_succ])
        refine wpAnyH_ready (rs := [5]) (by kernel_rfl) (by simp) ?_
        refine consL rfl (by rfl) (fun K hK => ?_) ?_
        · skip
          obtain ⟨d0, d1, d2, d3⟩ := EB.out
          dsimp only [xE] at d0 d1 d2 d3
          go_simp
          refine hK.out _ _ trivial (fun _ => ?_)
          clear hK K d0 d1 d2 d3
          (try simp only [Act.put, List.setIfInBounds_toArray, List.set_cons_zero, List.set_cons_succ])
          refine wpAnyH_ready (rs := [6]) (by kernel_rfl) (by simp) ?_
          refine consL rfl (by rfl) (fun K hK => ?_) ?_
          · go_simp
            have rk : Rd (w18.alloc (.cells (env exK).toArray 40)) (w18.alloc (.cells (env exK).toArray 40)).heap.size (some ⟨w18.heap.size, 0, none⟩) (env exK) := rd_frC w18 (env exK).toArray 40 (0, 0)
            have RK : Hid (Rd (w18.alloc (.cells #[.string { data := #[98] }, .string { data := #[120] }, .int .i64 2, .bool false, .string { data := #[97] }, .string { data := #[120] }, .int .i64 1, .bool false] 40)) (w18.alloc (.cells #[.string { data := #[98] }, .string { data := #[120] }, .int .i64 2, .bool false, .string { data := #[97] }, .string { data := #[120] }, .int .i64 1, .bool false] 40)).heap.size (some ⟨w18.heap.size, 0, none⟩) (env exK)) := Lib.hid rk
            have ha : Below w18.heap.size w18 (w18.alloc (.cells #[.string { data := #[98] }, .string { data := #[120] }, .int .i64 2, .bool false, .string { data := #[97] }, .string { data := #[120] }, .int .i64 1, .bool false] 40)) := (Below.refl _ _).alloc (Nat.le_refl _) _
            have OS19 := Lib.hid (own_keep OS18.out ha (Nat.le_refl _))
            have B19 := Lib.hid (B18.out.trans (ha.mono B18.out.size))
            refine hK.out _ _ trivial (fun _ => ?_)
            clear hK K rk ha OS18 B18 EA EB hba hbb
            generalize w18.alloc (.cells #[.string { data := #[98] }, .string { data := #[120] }, .int .i64 2, .bool false, .string { data := #[97] }, .string { data := #[120] }, .int .i64 1, .bool false] 40) = w19 at *
            generalize w18.heap.size = kb at *
            (try simp only [Act.put, List.setIfInBounds_toArray, List.set_cons_zero, List.set_cons_succ])
            refine takeL (i := 7) (v := ?_) rfl (by kernel_rfl) (by kernel_rfl) (by kernel_rfl) (fun _ _ _ h => h) ⟨by rfl, ?_⟩ (by first | assumption | trivial) ?_
            rotate_left
            · intro W9 hSw
              (try dsimp only at hSw)
              go_simp
              try with_reducible rfl
            (try simp only [Act.put, List.setIfInBounds_toArray, List.set_cons_zero, List.set_cons_succ])
            refine wpAnyH_done (by kernel_rfl) ?_ _
            have HBK2 := build_any (some ⟨kb, 0, none⟩) 2 2 2 10 exK rfl (by omega) (by omega) (by decide) w19 RK.out
            rw [show bldE 2 10 exK = 10 from exK_e] at HBK2
            have HBK2 := Lib.hid HBK2
            clear RK
            go_wp2_with fail
            refine HBK2.out.mono ?_
            rintro e w20 ⟨A20, c20, rfl, -, hb⟩
            have OS20 := Lib.hid (own_keep OS19.out hb (Nat.le_refl _))
            have B20 := Lib.hid (B19.out.trans (hb.mono B19.out.size))
            clear hb OS19 B19 HBK2
            go_wp2_with fail
            refine (example09_any _).mono ?_
            rintro e w21 ⟨b21, rfl, -, r21, hb⟩
            have OS21 := Lib.hid (own_keep OS20.out hb (Nat.le_refl _))
            have B21 := Lib.hid (B20.out.trans (hb.mono B20.out.size))
            have R21 : Hid (Rd w21 w21.heap.size (some ⟨b21, 4, none⟩) (env [xE 98 2])) := Lib.hid (by
              have h := (r21.drop 4 (cap := 12) (by decide)).take 4
              rw [if_neg (by decide)] at h
              exact h)
            clear hb OS20 B20 r21
            go_wp2_with fail
            refine (sameE_any A9 (some ⟨b21, 4, none⟩) 1 1 c9 2 w21.heap.size w21.heap.size [xE 98 2] [xE 98 2] rfl rfl (by omega) w21 (own_rdL OS21.out) (Nat.le_refl _) R21.out (Nat.le_refl _)).mono ?_
            rintro e w22 ⟨rfl, hb⟩
            rw [decide_eq_true (rfl : [xE 98 2] = [xE 98 2])]
            have B22 := Lib.hid (B21.out.trans (hb.mono B21.out.size))
            clear hb OS21 B21 R21
            go_wp2_with fail
            go_ret
            exact ⟨rfl, B22.out⟩
          · exact AllReadyH.nil
        · exact AllReadyH.nil
      refine consL rfl (by rfl) (fun K hK => ?_) ?_
      · skip
        obtain ⟨d0, d1, d2, d3⟩ := EB.out
        dsimp only [xE] at d0 d1 d2 d3
        go_simp
        refine hK.out _ _ trivial (fun _ => ?_)
        clear hK K d0 d1 d2 d3
        (try simp only [Act.put, List.setIfInBounds_toArray, List.set_cons_zero, List.set_cons_succ])
        refine wpAnyH_ready (rs := [2]) (by kernel_rfl) (by simp) ?_
        refine consL rfl (by rfl) (fun K hK => ?_) ?_
        · skip
          obtain ⟨d0, d1, d2, d3⟩ := EA.out
          dsimp only [xE] at d0 d1 d2 d3
          go_simp
          refine hK.out _ _ trivial (fun _ => ?_)
          clear hK K d0 d1 d2 d3
          (try simp only [Act.put, List.setIfInBounds_toArray, List.set_cons_zero, List.set_cons_succ])
          refine wpAnyH_ready (rs := [6]) (by kernel_rfl) (by simp) ?_
          refine consL rfl (by rfl) (fun K hK => ?_) ?_
          · go_simp
            have rk : Rd (w18.alloc (.cells (env exK).toArray 40)) (w18.alloc (.cells (env exK).toArray 40)).heap.size (some ⟨w18.heap.size, 0, none⟩) (env exK) := rd_frC w18 (env exK).toArray 40 (0, 0)
            have RK : Hid (Rd (w18.alloc (.cells #[.string { data := #[98] }, .string { data := #[120] }, .int .i64 2, .bool false, .string { data := #[97] }, .string { data := #[120] }, .int .i64 1, .bool false] 40)) (w18.alloc (.cells #[.string { data := #[98] }, .string { data := #[120] }, .int .i64 2, .bool false, .string { data := #[97] }, .string { data := #[120] }, .int .i64 1, .bool false] 40)).heap.size (some ⟨w18.heap.size, 0, none⟩) (env exK)) := Lib.hid rk
            have ha : Below w18.heap.size w18 (w18.alloc (.cells #[.string { data := #[98] }, .string { data := #[120] }, .int .i64 2, .bool false, .string { data := #[97] }, .string { data := #[120] }, .int .i64 1, .bool false] 40)) := (Below.refl _ _).alloc (Nat.le_refl _) _
            have OS19 := Lib.hid (own_keep OS18.out ha (Nat.le_refl _))
            have B19 := Lib.hid (B18.out.trans (ha.mono B18.out.size))
            refine hK.out _ _ trivial (fun _ => ?_)
            clear hK K rk ha OS18 B18 EA EB hba hbb
            generalize w18.alloc (.cells #[.string { data := #[98] }, .string { data := #[120] }, .int .i64 2, .bool false, .string { data := #[97] }, .string { data := #[120] }, .int .i64 1, .bool false] 40) = w19 at *
            generalize w18.heap.size = kb at *
            (try simp only [Act.put, List.setIfInBounds_toArray, List.set_cons_zero, List.set_cons_succ])
            refine takeL (i := 7) (v := ?_) rfl (by kernel_rfl) (by kernel_rfl) (by kernel_rfl) (fun _ _ _ h => h) ⟨by rfl, ?_⟩ (by first | assumption | trivial) ?_
            rotate_left
            · intro W9 hSw
              (try dsimp only at hSw)
              go_simp
              try with_reducible rfl
            (try simp only [Act.put, List.setIfInBounds_toArray, List.set_cons_zero, List.set_cons_succ])
            refine wpAnyH_done (by kernel_rfl) ?_ _
            have HBK2 := build_any (some ⟨kb, 0, none⟩) 2 2 2 10 exK rfl (by omega) (by omega) (by decide) w19 RK.out
            rw [show bldE 2 10 exK = 10 from exK_e] at HBK2
            have HBK2 := Lib.hid HBK2
            clear RK
            go_wp2_with fail
            refine HBK2.out.mono ?_
            rintro e w20 ⟨A20, c20, rfl, -, hb⟩
            have OS20 := Lib.hid (own_keep OS19.out hb (Nat.le_refl _))
            have B20 := Lib.hid (B19.out.trans (hb.mono B19.out.size))
            clear hb OS19 B19 HBK2
            go_wp2_with fail
            refine (example09_any _).mono ?_
            rintro e w21 ⟨b21, rfl, -, r21, hb⟩
            have OS21 := Lib.hid (own_keep OS20.out hb (Nat.le_refl _))
            have B21 := Lib.hid (B20.out.trans (hb.mono B20.out.size))
            have R21 : Hid (Rd w21 w21.heap.size (some ⟨b21, 4, none⟩) (env [xE 98 2])) := Lib.hid (by
              have h := (r21.drop 4 (cap := 12) (by decide)).take 4
              rw [if_neg (by decide)] at h
              exact h)
            clear hb OS20 B20 r21
            go_wp2_with fail
            refine (sameE_any A9 (some ⟨b21, 4, none⟩) 1 1 c9 2 w21.heap.size w21.heap.size [xE 98 2] [xE 98 2] rfl rfl (by omega) w21 (own_rdL OS21.out) (Nat.le_refl _) R21.out (Nat.le_refl _)).mono ?_
            rintro e w22 ⟨rfl, hb⟩
            rw [decide_eq_true (rfl : [xE 98 2] = [xE 98 2])]
            have B22 := Lib.hid (B21.out.trans (hb.mono B21.out.size))
            clear hb OS21 B21 R21
            go_wp2_with fail
            go_ret
            exact ⟨rfl, B22.out⟩
          · exact AllReadyH.nil
        · exact AllReadyH.nil
      · exact AllReadyH.nil
    · exact AllReadyH.nil
  · exact AllReadyH.nil
end Go.Proofs.Ytdmpimgbnhgiaaa
