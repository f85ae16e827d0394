/- Law: a table with altered bytes never tells an entry that it does not have. -/
import Derived.Test.YtdmpimgbnhgiaaaZO
import Derived.Test.YtdmpimgbnhgiaaaZVb

namespace Go.Proofs.Ytdmpimgbnhgiaaa
open Go.RowKit Go.St Go.Shelf Go.Maps
set_option linter.unusedVariables false
set_option linter.unusedSimpArgs false
set_option maxRecDepth 100000

theorem burst_len {bs : List UInt8} {a : Int} {t : Nat} (h : burstOK bs.length a t = true) : (burstL bs a t).length = bs.length := by
  unfold burstL
  rw [if_pos h, CrcM.turnTo_length]
set_option maxHeartbeats 12800000 in
theorem sstAltered_walk (w : World) (A : Option Addr) (n c : Nat) (l : List Ent) (hl : l.length = n) (hc : n ≤ c) (hn : c ≤ 140737488351232) (hr : Rd w w.heap.size A (env l)) (per bits : Int) (which : Int) (hwh : -9223372036854775808 ≤ which ∧ which ≤ 9223372036854775807) (at_ : Int) (hat : at_ ≤ 9223372036854775807) (tn : Nat) (htn : tn < 4294967296) (key : ByteArray) (hks : key.size ≤ 140737488351232) (seq : Int) :
    Calls Try.prog 7 #[.slice A n c, .int .i64 per, .int .i64 bits, .int .i64 which, .int .i64 at_, .int .u32 (tn : Int), .string key, .int .i64 seq] w fun e w' => e = .returned (.bool true) ∧ Below w.heap.size w w' := by
  have HL := Lib.hid hl
  have HR := Lib.hid hr
  clear hl hr
  go_enter Try.func7, Try.ntmps7
  go_wp2_with fail
  refine (lives09_any w).mono ?_
  rintro e w2 ⟨rfl, hb⟩
  have B2 := Lib.hid hb
  clear hb
  go_wp2_with fail
  refine (small9_any A n c l HL.out (by omega) w.heap.size w2 (HR.out.below B2.out) B2.out.size).mono ?_
  rintro e w3 ⟨rfl, hb⟩
  have B3 := Lib.hid (B2.out.trans (hb.mono B2.out.size))
  clear hb B2
  cases hsm : smallT l
  · clear hsm
    go_wp2_with fail
    go_ret
    exact ⟨rfl, B3.out⟩
  by_cases ht0 : tn = 0
  · subst ht0
    clear hsm
    go_wp2_with fail
    go_ret
    exact ⟨rfl, B3.out⟩
  have et : ((tn : Int) == 0) = false := by rw [beq_eq_false_iff_ne]; omega
  obtain ⟨hsz, hl150⟩ := smallT_iff hsm
  have hn150 : n ≤ 150 := by rw [← HL.out]; exact hl150
  have HBD := Lib.hid (build_any A n c per bits l HL.out hn150 hc (fun x hx => by have := (hsz x hx).1; unfold maxLen; omega) w3 ((HR.out.below B3.out).more B3.out.size))
  clear hsm hsz
  go_wp2_with fail
  refine HBD.out.mono ?_
  rintro e w4 ⟨A4, c4, rfl, own4, hb⟩
  have B4 := Lib.hid (B3.out.trans (hb.mono B3.out.size))
  clear hb B3 HBD et
  by_cases hE : bldE per bits l = 0
  case neg =>
    have hne : (bldE per bits l != 0) = true := by simpa using hE
    rw [bldE_no hE]
    clear own4 hE
    generalize bldE per bits l = E at *
    go_wp2_with fail
    go_ret
    exact ⟨rfl, B4.out⟩
  obtain ⟨p, b, rfl, rfl, hp, hbt, hl1, hok, hris, hld⟩ := bldE_ok hE
  rw [hE]
  rw [hld] at own4 ⊢
  obtain ⟨hc4, hcI⟩ := own_caps2 own4
  have hbl := bldB_len hp.1 hbt.2 hl150 hok (b := b)
  obtain ⟨M, hM⟩ : ∃ M, M = nch p l + 3 := ⟨_, rfl⟩
  have hnl := nch_le hp.1 l
  have hN1 : 1 ≤ nch p l := by
    have := (nch_lt (p := p) (by omega) l 0).2 (by omega)
    omega
  have HFR := frames_any A4 (bldB p b l).length c4 M (bldB p b l) (fun k => (preX p b l k).length) (fun k => (frK p b l k).length) rfl (by omega) (by omega) rfl (by rw [hM, preX_all]) (fun k hk => frames_hs hp.1 hbt.2 hl150 hok k (by omega)) w4.heap.size w4 (own_rdL own4) (Nat.le_refl _)
  have O4 := Lib.hid own4
  have HOK := Lib.hid hok
  have HRIS := Lib.hid hris
  obtain ⟨X, hX⟩ : ∃ X, X = bldB p b l := ⟨_, rfl⟩
  rw [← hX] at HFR O4 hc4 hbl
  simp only [← hX]
  obtain ⟨n4, hn4⟩ : ∃ n4, n4 = X.length := ⟨_, rfl⟩
  rw [← hn4] at HFR O4 hc4 hbl ⊢
  have HFR := Lib.hid HFR
  have HX := Lib.hid hX
  have HN4 := Lib.hid hn4
  have HM := Lib.hid hM
  have hM1 : 4 ≤ M ∧ M ≤ 153 := by omega
  clear own4 hok hris hE hld hX hn4 hM hnl
  go_wp2_with fail
  refine HFR.out.mono ?_
  rintro e w5 ⟨A5, c5, rfl, own5, hb⟩
  obtain ⟨g5, rfl⟩ := own_blkC own5 (by have := (own_caps2 own5).1; omega)
  have O5 := Lib.hid own5
  have O4b := Lib.hid (own_keep O4.out hb (Nat.le_refl _))
  have B5 := Lib.hid (B4.out.trans (hb.mono B4.out.size))
  clear own5 hb HFR O4 B4
  obtain ⟨k, hk⟩ := Int.eq_ofNat_of_zero_le (Int.emod_nonneg which (show (M : Int) ≠ 0 by omega))
  have hkM : k < M := by have := Int.emod_lt_of_pos which (show (0 : Int) < (M : Int) by omega); omega
  have HPI := Lib.hid (fun W => pick_any which (M : Int) (by omega) (by omega) hwh W)
  rw [hk] at HPI
  clear hk
  go_wp2_with fail
  refine (HPI.out w5).mono ?_
  rintro e _ ⟨rfl, rfl⟩
  have hfk := frK_len (b := b) hp.1 hbt.2 hl150 HOK.out k
  have HST := Lib.hid (posX_step p b l (k := k) (by rw [← HM.out]; exact hkM))
  obtain ⟨FK, hFK⟩ : ∃ FK, FK = frameL (frK p b l k) := ⟨_, rfl⟩
  have HFL : Hid (FK.length = (frK p b l k).length + 12) := Lib.hid (by rw [hFK, frameL_length])
  obtain ⟨PX, hPX⟩ : ∃ PX, PX = preX p b l k := ⟨_, rfl⟩
  obtain ⟨SX, hSX⟩ : ∃ SX, SX = posX p b l (k + 1) := ⟨_, rfl⟩
  obtain ⟨ek, hek⟩ : ∃ ek, ek = PX.length := ⟨_, rfl⟩
  obtain ⟨ek1, hek1⟩ : ∃ ek1, ek1 = ek + FK.length := ⟨_, rfl⟩
  have HXS : Hid (X = PX ++ (FK ++ SX)) := Lib.hid (by rw [HX.out, HST.out, hPX, hSX, hFK])
  have hen : ek1 + SX.length = n4 := by rw [HN4.out, HXS.out, List.length_append, List.length_append]; omega
  have hfl := HFL.out
  have ge : (evC (fun k => (preX p b l k).length) M)[k]? = some (.int .i64 (ek : Int)) := by
    rw [evC_get _ M (by omega), hek, hPX]
  have ge1 : (evC (fun k => (preX p b l k).length) M)[k + 1]? = some (.int .i64 (ek1 : Int)) := by
    rw [evC_get _ M (by omega), hek1, hek, hPX, hFK]
    show some (Value.int .i64 ((preX p b l (k + 1)).length : Int)) = _
    rw [preX, List.length_append]
  have RE := own_rdL O5.out
  obtain ⟨ge', oe', he', hge', hce⟩ := RE.at_ ge
  obtain ⟨ge2, oe2, he2, hge2, hce1⟩ := RE.at_ ge1
  injection he' with he'
  injection he' with h1 h2
  subst h1 h2
  injection he2 with he2
  injection he2 with h1 h2
  subst h1 h2
  rw [Nat.zero_add] at hce hce1
  have HPX := Lib.hid hPX
  have HSX := Lib.hid hSX
  have HFK := Lib.hid hFK
  have HEK := Lib.hid hek
  have HEK1 := Lib.hid hek1
  clear RE ge ge1 hPX hSX hFK hek
  have hdr : Below w5.heap.size w5 w5.drew := Below.drew (Below.refl _ _)
  have k0 : (0 : Int) ≤ (k : Int) := by omega
  have k1 : (k : Int) < (M : Int) + 1 := by omega
  have k2 : (k : Int) + 1 < (M : Int) + 1 := by omega
  have j0 : (0 : Int) ≤ (ek : Int) := by omega
  have j1 : (ek : Int) ≤ (ek1 : Int) := by omega
  have j2 : (ek1 : Int) ≤ (c4 : Int) := by omega
  have j3 : (n4 : Int) ≤ (c4 : Int) := by omega
  have j4 : (ek1 : Int) - (ek : Int) = ((ek1 - ek : Nat) : Int) := by omega
  have j5 : (ek1 : Int) ≤ (n4 : Int) := by omega
  have hcf : ¬ c4 = ek := by omega
  have hkx : ek ≤ ek1 ∧ ek + 12 ≤ ek1 ∧ ek1 ≤ n4 ∧ ek1 ≤ ek + 1048588 := by omega
  have HEN := Lib.hid hen
  clear hek1 hfl hen
  have hkb : -9223372036854775808 ≤ (k : Int) + 1 ∧ (k : Int) + 1 ≤ 9223372036854775807 := by omega
  have hk01 : (0 : Int) ≤ (k : Int) + 1 := by omega
  have hkt : ((k : Int) + 1).toNat = k + 1 := by omega
  have hkw : IntKind.i64.wrap ((k : Int) + 1) = (k : Int) + 1 := IntWalk.i64_in _ hkb
  clear hkb
  go_wp2_with fail
  refine wp_heldall (S := fun W => W.cell? ⟨g5, k, none⟩ = some (.int .i64 (ek : Int)) ∧ W.cell? ⟨g5, k + 1, none⟩ = some (.int .i64 (ek1 : Int)) ∧ g5 < W.heap.size) 19 (by kernel_rfl) rfl ⟨(hdr.cell (p := ⟨g5, k, none⟩) hge').trans hce, (hdr.cell (p := ⟨g5, k + 1, none⟩) hge').trans hce1, Nat.lt_of_lt_of_le hge' hdr.size⟩ (fun hHeld => ?_)
  refine takeL (i := 0) (v := ?_) rfl (by kernel_rfl) (by kernel_rfl) (by kernel_rfl) (fun _ _ _ h => h) ⟨by rfl, ?_⟩ (by first | assumption | trivial) ?_
  rotate_left
  · intro W9 hSw
    (try dsimp only at hSw)
    go_simp
    try with_reducible rfl
  (try simp only [Act.put, List.setIfInBounds_toArray, List.set_cons_zero, List.set_cons_succ])
  refine takeL (i := 1) (v := ?_) rfl (by kernel_rfl) (by kernel_rfl) (by kernel_rfl) (fun _ _ _ h => h) ⟨by rfl, ?_⟩ (by first | assumption | trivial) ?_
  rotate_left
  · intro W9 hSw
    (try dsimp only at hSw)
    go_simp
    try with_reducible rfl
  (try simp only [Act.put, List.setIfInBounds_toArray, List.set_cons_zero, List.set_cons_succ])
  refine takeL (i := 2) (v := ?_) rfl (by kernel_rfl) (by kernel_rfl) (by kernel_rfl) (fun _ _ _ h => h) ⟨by rfl, ?_⟩ (by first | assumption | trivial) ?_
  rotate_left
  · intro W9 hSw
    (try dsimp only at hSw)
    go_simp
    try with_reducible rfl
  (try simp only [Act.put, List.setIfInBounds_toArray, List.set_cons_zero, List.set_cons_succ])
  refine takeL (i := 3) (v := ?_) rfl (by kernel_rfl) (by kernel_rfl) (by kernel_rfl) (fun _ _ _ h => h) ⟨by rfl, ?_⟩ (by first | assumption | trivial) ?_
  rotate_left
  · intro W9 hSw
    (try dsimp only at hSw)
    go_simp
    try with_reducible rfl
  (try simp only [Act.put, List.setIfInBounds_toArray, List.set_cons_zero, List.set_cons_succ])
  refine takeL (i := 4) (v := ?_) rfl (by kernel_rfl) (by kernel_rfl) (by kernel_rfl) (fun _ _ _ h => h) ⟨by rfl, ?_⟩ (by first | assumption | trivial) ?_
  rotate_left
  · intro W9 hSw
    (try dsimp only at hSw)
    (obtain ⟨y0, y1, yl⟩ := hSw)
    go_simp
    try with_reducible rfl
  (try simp only [Act.put, List.setIfInBounds_toArray, List.set_cons_zero, List.set_cons_succ])
  refine takeL (i := 5) (v := ?_) rfl (by kernel_rfl) (by kernel_rfl) (by kernel_rfl) (fun _ _ _ h => h) ⟨by rfl, ?_⟩ (by first | assumption | trivial) ?_
  rotate_left
  · intro W9 hSw
    (try dsimp only at hSw)
    go_simp
    try with_reducible rfl
  (try simp only [Act.put, List.setIfInBounds_toArray, List.set_cons_zero, List.set_cons_succ])
  refine takeL (i := 6) (v := ?_) rfl (by kernel_rfl) (by kernel_rfl) (by kernel_rfl) (fun _ _ _ h => h) ⟨by rfl, ?_⟩ (by first | assumption | trivial) ?_
  rotate_left
  · intro W9 hSw
    (try dsimp only at hSw)
    go_simp
    try with_reducible rfl
  (try simp only [Act.put, List.setIfInBounds_toArray, List.set_cons_zero, List.set_cons_succ])
  refine takeL (i := 7) (v := ?_) rfl (by kernel_rfl) (by kernel_rfl) (by kernel_rfl) (fun _ _ _ h => h) ⟨by rfl, ?_⟩ (by first | assumption | trivial) ?_
  rotate_left
  · intro W9 hSw
    (try dsimp only at hSw)
    go_simp
    try with_reducible rfl
  (try simp only [Act.put, List.setIfInBounds_toArray, List.set_cons_zero, List.set_cons_succ])
  refine takeL (i := 8) (v := ?_) rfl (by kernel_rfl) (by kernel_rfl) (by kernel_rfl) (fun _ _ _ h => h) ⟨by rfl, ?_⟩ (by first | assumption | trivial) ?_
  rotate_left
  · intro W9 hSw
    (try dsimp only at hSw)
    go_simp
    try with_reducible rfl
  (try simp only [Act.put, List.setIfInBounds_toArray, List.set_cons_zero, List.set_cons_succ])
  refine takeL (i := 9) (v := ?_) rfl (by kernel_rfl) (by kernel_rfl) (by kernel_rfl) (fun _ _ _ h => h) ⟨by rfl, ?_⟩ (by first | assumption | trivial) ?_
  rotate_left
  · intro W9 hSw
    (try dsimp only at hSw)
    (obtain ⟨y0, y1, yl⟩ := hSw)
    go_simp
    try with_reducible rfl
  (try simp only [Act.put, List.setIfInBounds_toArray, List.set_cons_zero, List.set_cons_succ])
  refine takeL (i := 10) (v := ?_) rfl (by kernel_rfl) (by kernel_rfl) (by kernel_rfl) (fun _ _ _ h => h) ⟨by rfl, ?_⟩ (by first | assumption | trivial) ?_
  rotate_left
  · intro W9 hSw
    (try dsimp only at hSw)
    go_simp
    try with_reducible rfl
  (try simp only [Act.put, List.setIfInBounds_toArray, List.set_cons_zero, List.set_cons_succ])
  refine takeL (i := 11) (v := ?_) rfl (by kernel_rfl) (by kernel_rfl) (by kernel_rfl) (fun _ _ _ h => h) ⟨by rfl, ?_⟩ (by first | assumption | trivial) ?_
  rotate_left
  · intro W9 hSw
    (try dsimp only at hSw)
    go_simp
    try with_reducible rfl
  (try simp only [Act.put, List.setIfInBounds_toArray, List.set_cons_zero, List.set_cons_succ])
  refine takeL (i := 12) (v := ?_) rfl (by kernel_rfl) (by kernel_rfl) (by kernel_rfl) (fun _ _ _ h => h) ⟨by rfl, ?_⟩ (by first | assumption | trivial) ?_
  rotate_left
  · intro W9 hSw
    (try dsimp only at hSw)
    go_simp
    try with_reducible rfl
  (try simp only [Act.put, List.setIfInBounds_toArray, List.set_cons_zero, List.set_cons_succ])
  clear hHeld
  have hce6 := (hdr.cell (p := ⟨g5, k, none⟩) hge').trans hce
  have hce61 := (hdr.cell (p := ⟨g5, k + 1, none⟩) hge').trans hce1
  have hge6 : g5 < w5.drew.heap.size := Nat.lt_of_lt_of_le hge' hdr.size
  have O46 := Lib.hid (own_keep O4b.out hdr (Nat.le_refl _))
  have B6 := Lib.hid (B5.out.trans (hdr.mono B5.out.size))
  clear hdr hce hce1 hge' O4b B5 O5 hge2
  generalize w5.drew = w6 at *
  have RF := rd_mid (own_rdL O46.out) PX SX HXS.out (c := c4) (by rw [← HN4.out]; exact hc4)
  rw [← HEK.out, if_neg hcf] at RF
  have HBU := Lib.hid (burst_any (A4.map (·.add ek)) (ek1 - ek) (c4 - ek) w6.heap.size FK (by rw [HEK1.out]; omega) (by omega) at_ hat tn htn w6 RF (Nat.le_refl _))
  obtain ⟨bE, hbE⟩ : ∃ bE, bE = burstE (ek1 - ek) at_ tn := ⟨_, rfl⟩
  obtain ⟨Z, hZ⟩ : ∃ Z, Z = burstL FK at_ tn := ⟨_, rfl⟩
  rw [← hbE, ← hZ] at HBU
  have HBE : Hid (bE = if burstOK FK.length at_ tn then 0 else 2) := Lib.hid (by rw [hbE, HEK1.out, Nat.add_sub_cancel_left]; rfl)
  have HZ := Lib.hid hZ
  clear RF hbE hZ
  refine wpAnyH_ready (rs := [13]) (by kernel_rfl) (by simp) ?_
  refine consL rfl (by rfl) (fun K hK => ?_) ?_
  · go_simp
    go_at_call 30
    refine HBU.out.mono ?_
    rintro r w7 ⟨v7, rfl, own7, hb⟩
    obtain ⟨A7, c7, rfl, hc7, -⟩ := own_sl own7
    have O7 := Lib.hid own7
    have O47 := Lib.hid (own_keep O46.out hb (Nat.le_refl _))
    have B7 := Lib.hid (B6.out.trans (hb.mono B6.out.size))
    have hce7 := (hb.cell (p := ⟨g5, k, none⟩) hge6).trans hce6
    have hce71 := (hb.cell (p := ⟨g5, k + 1, none⟩) hge6).trans hce61
    have hge7 : g5 < w7.heap.size := Nat.lt_of_lt_of_le hge6 hb.size
    refine hK.out _ _ ⟨hce7, hce71, hge7⟩ (fun _ => ?_)
    clear hK K own7 hb HBU hce6 hce61 hge6 O46 B6
    (try simp only [Act.put, List.setIfInBounds_toArray, List.set_cons_zero, List.set_cons_succ])
    refine takeL (i := 14) (v := ?_) rfl (by kernel_rfl) (by kernel_rfl) (by kernel_rfl) (fun _ _ _ h => h) ⟨by rfl, ?_⟩ (by first | assumption | trivial) ?_
    rotate_left
    · intro W9 hSw
      (try dsimp only at hSw)
      go_simp
      try with_reducible rfl
    (try simp only [Act.put, List.setIfInBounds_toArray, List.set_cons_zero, List.set_cons_succ])
    refine takeL (i := 15) (v := ?_) rfl (by kernel_rfl) (by kernel_rfl) (by kernel_rfl) (fun _ _ _ h => h) ⟨by rfl, ?_⟩ (by first | assumption | trivial) ?_
    rotate_left
    · intro W9 hSw
      (try dsimp only at hSw)
      go_simp
      try with_reducible rfl
    (try simp only [Act.put, List.setIfInBounds_toArray, List.set_cons_zero, List.set_cons_succ])
    refine takeL (i := 16) (v := ?_) rfl (by kernel_rfl) (by kernel_rfl) (by kernel_rfl) (fun _ _ _ h => h) ⟨by rfl, ?_⟩ (by first | assumption | trivial) ?_
    rotate_left
    · intro W9 hSw
      (try dsimp only at hSw)
      go_simp
      try with_reducible rfl
    (try simp only [Act.put, List.setIfInBounds_toArray, List.set_cons_zero, List.set_cons_succ])
    refine takeL (i := 17) (v := ?_) rfl (by kernel_rfl) (by kernel_rfl) (by kernel_rfl) (fun _ _ _ h => h) ⟨by rfl, ?_⟩ (by first | assumption | trivial) ?_
    rotate_left
    · intro W9 hSw
      (try dsimp only at hSw)
      go_simp
      try with_reducible rfl
    (try simp only [Act.put, List.setIfInBounds_toArray, List.set_cons_zero, List.set_cons_succ])
    refine takeL (i := 18) (v := ?_) rfl (by kernel_rfl) (by kernel_rfl) (by kernel_rfl) (fun _ _ _ h => h) ⟨by rfl, ?_⟩ (by first | assumption | trivial) ?_
    rotate_left
    · intro W9 hSw
      (try dsimp only at hSw)
      go_simp
      try with_reducible rfl
    (try simp only [Act.put, List.setIfInBounds_toArray, List.set_cons_zero, List.set_cons_succ])
    refine wpAnyH_done (by kernel_rfl) ?_ _
    cases hok : burstOK FK.length at_ tn
    · have SEQ : Hid (bE = 2) := Lib.hid (by rw [HBE.out, hok]; rfl)
      have ebE : (bE != 0) = true := by rw [SEQ.out]; rfl
      clear hok SEQ
      go_wp2_with fail
      go_ret
      exact ⟨rfl, B7.out⟩
    obtain rfl : bE = 0 := by rw [HBE.out, hok]; rfl
    have HZL : Hid (Z.length = (frK p b l k).length + 12) := Lib.hid (by rw [HZ.out, burst_len hok, HFL.out])
    have HZB : Hid (recB Z = false) := Lib.hid (by
      have h := hok
      rw [HFK.out] at h
      rw [HZ.out, HFK.out]
      exact rec_burst hfk htn ht0 h)
    have hzl : Z.length ≤ 1048588 := by rw [HZL.out]; omega
    clear hok HBE
    have hdr : Below w7.heap.size w7 w7.drew := Below.drew (Below.refl _ _)
    have j6 : (ek : Int) ≤ (c4 : Int) := by omega
    go_wp2_with fail
    refine wp_heldall (S := fun W => W.cell? ⟨g5, k, none⟩ = some (.int .i64 (ek : Int)) ∧ W.cell? ⟨g5, k + 1, none⟩ = some (.int .i64 (ek1 : Int)) ∧ g5 < W.heap.size) 18 (by kernel_rfl) rfl ⟨(hdr.cell (p := ⟨g5, k, none⟩) hge7).trans hce7, (hdr.cell (p := ⟨g5, k + 1, none⟩) hge7).trans hce71, Nat.lt_of_lt_of_le hge7 hdr.size⟩ (fun hHeld => ?_)
    refine takeL (i := 0) (v := ?_) rfl (by kernel_rfl) (by kernel_rfl) (by kernel_rfl) (fun _ _ _ h => h) ⟨by rfl, ?_⟩ (by first | assumption | trivial) ?_
    rotate_left
    · intro W9 hSw
      (try dsimp only at hSw)
      go_simp
      try with_reducible rfl
    (try simp only [Act.put, List.setIfInBounds_toArray, List.set_cons_zero, List.set_cons_succ])
    refine takeL (i := 1) (v := ?_) rfl (by kernel_rfl) (by kernel_rfl) (by kernel_rfl) (fun _ _ _ h => h) ⟨by rfl, ?_⟩ (by first | assumption | trivial) ?_
    rotate_left
    · intro W9 hSw
      (try dsimp only at hSw)
      go_simp
      try with_reducible rfl
    (try simp only [Act.put, List.setIfInBounds_toArray, List.set_cons_zero, List.set_cons_succ])
    refine takeL (i := 2) (v := ?_) rfl (by kernel_rfl) (by kernel_rfl) (by kernel_rfl) (fun _ _ _ h => h) ⟨by rfl, ?_⟩ (by first | assumption | trivial) ?_
    rotate_left
    · intro W9 hSw
      (try dsimp only at hSw)
      go_simp
      try with_reducible rfl
    (try simp only [Act.put, List.setIfInBounds_toArray, List.set_cons_zero, List.set_cons_succ])
    refine takeL (i := 3) (v := ?_) rfl (by kernel_rfl) (by kernel_rfl) (by kernel_rfl) (fun _ _ _ h => h) ⟨by rfl, ?_⟩ (by first | assumption | trivial) ?_
    rotate_left
    · intro W9 hSw
      (try dsimp only at hSw)
      go_simp
      try with_reducible rfl
    (try simp only [Act.put, List.setIfInBounds_toArray, List.set_cons_zero, List.set_cons_succ])
    refine takeL (i := 4) (v := ?_) rfl (by kernel_rfl) (by kernel_rfl) (by kernel_rfl) (fun _ _ _ h => h) ⟨by rfl, ?_⟩ (by first | assumption | trivial) ?_
    rotate_left
    · intro W9 hSw
      (try dsimp only at hSw)
      (obtain ⟨y0, y1, yl⟩ := hSw)
      go_simp
      try with_reducible rfl
    (try simp only [Act.put, List.setIfInBounds_toArray, List.set_cons_zero, List.set_cons_succ])
    refine takeL (i := 5) (v := ?_) rfl (by kernel_rfl) (by kernel_rfl) (by kernel_rfl) (fun _ _ _ h => h) ⟨by rfl, ?_⟩ (by first | assumption | trivial) ?_
    rotate_left
    · intro W9 hSw
      (try dsimp only at hSw)
      go_simp
      try with_reducible rfl
    (try simp only [Act.put, List.setIfInBounds_toArray, List.set_cons_zero, List.set_cons_succ])
    refine takeL (i := 7) (v := ?_) rfl (by kernel_rfl) (by kernel_rfl) (by kernel_rfl) (fun _ _ _ h => h) ⟨by rfl, ?_⟩ (by first | assumption | trivial) ?_
    rotate_left
    · intro W9 hSw
      (try dsimp only at hSw)
      go_simp
      try with_reducible rfl
    (try simp only [Act.put, List.setIfInBounds_toArray, List.set_cons_zero, List.set_cons_succ])
    refine takeL (i := 9) (v := ?_) rfl (by kernel_rfl) (by kernel_rfl) (by kernel_rfl) (fun _ _ _ h => h) ⟨by rfl, ?_⟩ (by first | assumption | trivial) ?_
    rotate_left
    · intro W9 hSw
      (try dsimp only at hSw)
      go_simp
      try with_reducible rfl
    (try simp only [Act.put, List.setIfInBounds_toArray, List.set_cons_zero, List.set_cons_succ])
    refine takeL (i := 10) (v := ?_) rfl (by kernel_rfl) (by kernel_rfl) (by kernel_rfl) (fun _ _ _ h => h) ⟨by rfl, ?_⟩ (by first | assumption | trivial) ?_
    rotate_left
    · intro W9 hSw
      (try dsimp only at hSw)
      go_simp
      try with_reducible rfl
    (try simp only [Act.put, List.setIfInBounds_toArray, List.set_cons_zero, List.set_cons_succ])
    refine takeL (i := 11) (v := ?_) rfl (by kernel_rfl) (by kernel_rfl) (by kernel_rfl) (fun _ _ _ h => h) ⟨by rfl, ?_⟩ (by first | assumption | trivial) ?_
    rotate_left
    · intro W9 hSw
      (try dsimp only at hSw)
      go_simp
      try with_reducible rfl
    (try simp only [Act.put, List.setIfInBounds_toArray, List.set_cons_zero, List.set_cons_succ])
    refine takeL (i := 12) (v := ?_) rfl (by kernel_rfl) (by kernel_rfl) (by kernel_rfl) (fun _ _ _ h => h) ⟨by rfl, ?_⟩ (by first | assumption | trivial) ?_
    rotate_left
    · intro W9 hSw
      (try dsimp only at hSw)
      go_simp
      try with_reducible rfl
    (try simp only [Act.put, List.setIfInBounds_toArray, List.set_cons_zero, List.set_cons_succ])
    refine takeL (i := 13) (v := ?_) rfl (by kernel_rfl) (by kernel_rfl) (by kernel_rfl) (fun _ _ _ h => h) ⟨by rfl, ?_⟩ (by first | assumption | trivial) ?_
    rotate_left
    · intro W9 hSw
      (try dsimp only at hSw)
      go_simp
      try with_reducible rfl
    (try simp only [Act.put, List.setIfInBounds_toArray, List.set_cons_zero, List.set_cons_succ])
    refine takeL (i := 14) (v := ?_) rfl (by kernel_rfl) (by kernel_rfl) (by kernel_rfl) (fun _ _ _ h => h) ⟨by rfl, ?_⟩ (by first | assumption | trivial) ?_
    rotate_left
    · intro W9 hSw
      (try dsimp only at hSw)
      (obtain ⟨y0, y1, yl⟩ := hSw)
      go_simp
      try with_reducible rfl
    (try simp only [Act.put, List.setIfInBounds_toArray, List.set_cons_zero, List.set_cons_succ])
    refine takeL (i := 15) (v := ?_) rfl (by kernel_rfl) (by kernel_rfl) (by kernel_rfl) (fun _ _ _ h => h) ⟨by rfl, ?_⟩ (by first | assumption | trivial) ?_
    rotate_left
    · intro W9 hSw
      (try dsimp only at hSw)
      go_simp
      try with_reducible rfl
    (try simp only [Act.put, List.setIfInBounds_toArray, List.set_cons_zero, List.set_cons_succ])
    clear hHeld
    have hce8 := (hdr.cell (p := ⟨g5, k, none⟩) hge7).trans hce7
    have hce81 := (hdr.cell (p := ⟨g5, k + 1, none⟩) hge7).trans hce71
    have hge8 : g5 < w7.drew.heap.size := Nat.lt_of_lt_of_le hge7 hdr.size
    have O8 := Lib.hid (own_keep O7.out hdr (Nat.le_refl _))
    have O48 := Lib.hid (own_keep O47.out hdr (Nat.le_refl _))
    have B8 := Lib.hid (B7.out.trans (hdr.mono B7.out.size))
    clear hdr hce7 hce71 hge7 O7 O47 B7
    obtain ⟨AS, hAS⟩ : ∃ AS, AS = (if c4 = ek1 then A4 else Option.map (fun x => x.add ek1) A4) := ⟨_, rfl⟩
    rw [← hAS]
    have HAS := Lib.hid hAS
    clear hAS
    generalize w7.drew = w8 at *
    have HPZ : Hid (∀ g, (Value.slice A4 n4 c4).ownBlock = some g → g < w8.heap.size) := Lib.hid (fun g hg => (O48.out.lt g hg).2)
    have HW8 : Hid (w.heap.size ≤ w8.heap.size) := Lib.hid B8.out.size
    refine wpAnyH_ready (rs := [6]) (by kernel_rfl) (by simp) ?_
    refine consL rfl (by rfl) (fun K hK => ?_) ?_
    · go_simp
      go_at_call 31
      have RP := (own_rdL O48.out).take ek
      rw [show (bv X).take ek = bv PX by rw [HXS.out, HEK.out, bv, List.map_append, List.take_left' (by rw [List.length_map])]; rfl] at RP
      refine (copy_any A4 ek c4 w8.heap.size PX HEK.out.symm (by omega) w8 RP (Nat.le_refl _)).mono ?_
      rintro r w9 ⟨v9, rfl, own9, hb, -⟩
      obtain ⟨A9, c9, rfl, -, -⟩ := own_sl own9
      have OP9 := Lib.hid own9
      have O9 := Lib.hid (own_keep O8.out hb (Nat.le_refl _))
      have O49 := Lib.hid (own_keep O48.out hb (Nat.le_refl _))
      have B9 := Lib.hid (B8.out.trans (hb.mono B8.out.size))
      have hce9 := (hb.cell (p := ⟨g5, k, none⟩) hge8).trans hce8
      have hce91 := (hb.cell (p := ⟨g5, k + 1, none⟩) hge8).trans hce81
      have hge9 : g5 < w9.heap.size := Nat.lt_of_lt_of_le hge8 hb.size
      have hz89 := hb.size
      refine hK.out _ _ ⟨hce9, hce91, hge9⟩ (fun _ => ?_)
      clear hK K own9 hb O8 O48 B8 hce8 hce81 RP
      (try simp only [Act.put, List.setIfInBounds_toArray, List.set_cons_zero, List.set_cons_succ])
      refine wpAnyH_ready (rs := [8]) (by kernel_rfl) (by simp) ?_
      refine consL rfl (by rfl) (fun K hK => ?_) ?_
      · refine wp_app sty22 (.tmp 84) (.tmp 85) rfl w8.heap.size OP9.out rfl Z.length c7 (own_rdL O9.out) rfl (by rw [bv_length, Nat.mul_one]) (bv_one _) (by unfold maxLen; omega) (by omega) hz89 ?_
        intro v10 w10 own10 gr10 nil10 at10
        have b10 : Below w8.heap.size w9 w10 := (Below.refl _ _).grown gr10 hz89 (fun g e => (OP9.out.lt g e).1)
        obtain ⟨A10, c10, rfl, -, -⟩ := own_sl own10
        have OP10 := Lib.hid own10
        have O410 := Lib.hid (ownsRow_of O49.out (W' := w10) (fun g hg => b10.block g (by have := HPZ.out g hg; omega)))
        have B10 := Lib.hid (B9.out.trans (b10.mono (by have := HW8.out; omega)))
        have hce10 := (b10.cell (p := ⟨g5, k, none⟩) hge8).trans hce9
        have hce101 := (b10.cell (p := ⟨g5, k + 1, none⟩) hge8).trans hce91
        have hz810 : w8.heap.size ≤ w10.heap.size := Nat.le_trans hz89 b10.size
        refine hK.out _ _ ⟨hce10, hce101, Nat.lt_of_lt_of_le hge8 hz810⟩ (fun _ => ?_)
        clear hK K own10 gr10 nil10 at10 b10 OP9 O9 O49 B9 hce9 hce91
        (try simp only [Act.put, List.setIfInBounds_toArray, List.set_cons_zero, List.set_cons_succ])
        refine wpAnyH_ready (rs := [16]) (by kernel_rfl) (by simp) ?_
        refine consL rfl (by rfl) (fun K hK => ?_) ?_
        · have RS := (own_rdL O410.out).drop ek1 (cap := c4) (by rw [bv_length, ← HN4.out]; exact hc4)
          rw [show (bv X).drop ek1 = bv SX by rw [HXS.out, HEK1.out, HEK.out, ← List.append_assoc, bv, List.map_append, List.drop_left' (by rw [List.length_map, List.length_append])]; rfl, ← HAS.out] at RS
          refine wp_app sty22 (.tmp 86) (.tmp 93) rfl w8.heap.size OP10.out rfl (n4 - ek1) (c4 - ek1) RS rfl (by rw [bv_length, Nat.mul_one]; have := HEN.out; omega) (bv_one _) (by unfold maxLen; omega) (by omega) hz810 ?_
          intro v11 w11 own11 gr11 nil11 at11
          have b11 : Below w8.heap.size w10 w11 := (Below.refl _ _).grown gr11 hz810 (fun g e => (OP10.out.lt g e).1)
          obtain ⟨A11, c11, rfl, -, -⟩ := own_sl own11
          have B11 := Lib.hid (B10.out.trans (b11.mono (by have := HW8.out; omega)))
          have hce11 := (b11.cell (p := ⟨g5, k, none⟩) hge8).trans hce10
          have hce111 := (b11.cell (p := ⟨g5, k + 1, none⟩) hge8).trans hce101
          have hz811 : w8.heap.size ≤ w11.heap.size := Nat.le_trans hz810 b11.size
          obtain ⟨Y, hY⟩ : ∃ Y, Y = PX ++ (Z ++ SX) := ⟨_, rfl⟩
          have hyl : ek + Z.length + (n4 - ek1) = Y.length := by rw [hY, List.length_append, List.length_append]; have := HEN.out; have := HEK.out; omega
          have OY : Hid (w11.ownsRow w8.heap.size 5 1 (.slice A11 Y.length c11) Y.length (bv Y)) := Lib.hid (by
            rw [← hyl]
            exact own_eq own11 rfl (by rw [hY, bv_append, bv_append, List.append_assoc]))
          rw [hyl]
          have HYL := Lib.hid hyl
          have HY := Lib.hid hY
          have hyb : Y.length ≤ 61300000 := by omega
          refine hK.out _ _ ⟨hce11, hce111, Nat.lt_of_lt_of_le hge8 hz811⟩ (fun _ => ?_)
          clear hK K own11 gr11 nil11 at11 b11 OP10 O410 B10 hce10 hce101 hyl hY RS
          (try simp only [Act.put, List.setIfInBounds_toArray, List.set_cons_zero, List.set_cons_succ])
          refine takeL (i := 17) (v := ?_) rfl (by kernel_rfl) (by kernel_rfl) (by kernel_rfl) (fun _ _ _ h => h) ⟨by rfl, ?_⟩ (by first | assumption | trivial) ?_
          rotate_left
          · intro W9 hSw
            (try dsimp only at hSw)
            go_simp
            try with_reducible rfl
          (try simp only [Act.put, List.setIfInBounds_toArray, List.set_cons_zero, List.set_cons_succ])
          refine wpAnyH_done (by kernel_rfl) ?_ _
          obtain ⟨hc11, hcI11⟩ := own_caps2 OY.out
          have HOD := open_odd A11 Y.length c11 p b hp hbt l hl1 hl150 HOK.out HRIS.out k (by rw [← HM.out]; exact hkM) Z Y HZL.out HZB.out (by rw [HY.out, HPX.out, HSX.out]) rfl hc11 hcI11 w11.heap.size w11 (own_rdL OY.out) (Nat.le_refl _)
          by_cases hkN : k < nch p l
          case neg =>
            rw [decide_eq_false hkN] at HOD
            unfold OpP at HOD
            simp only [if_neg (show ¬ (false = true) by decide)] at HOD
            have HOD := Lib.hid HOD
            have q1 : (M : Int) + 1 - 4 ≤ (k : Int) := by have := HM.out; omega
            have q2 : (M : Int) - 3 ≤ (k : Int) := by omega
            clear hkN hkx hk01 hkt hkw j0 j1 j2 j3 j4 j5 j6
            go_wp2_with fail
            refine HOD.out.mono ?_
            rintro e w12 ⟨rfl, hb⟩
            have B12 := Lib.hid (B11.out.trans (hb.mono B11.out.size))
            clear hb HOD
            go_wp2_with fail
            go_ret
            exact ⟨rfl, B12.out⟩
          rw [decide_eq_true hkN] at HOD
          unfold OpP at HOD
          simp only [if_pos] at HOD
          have HOD := Lib.hid HOD
          have HBK : Hid (BkS (fun j => decide (j = k)) p l Y) := Lib.hid (by
            rw [HY.out, HPX.out, HSX.out, odd_blk hkN]
            exact bks_alt hkN (by rw [HZL.out, frK, if_pos hkN, blkF_len]) HZB.out _)
          have q1 : (k : Int) < (M : Int) + 1 - 4 := by have := HM.out; omega
          have q2 : (k : Int) < (M : Int) - 3 := by omega
          clear hkx hk01 hkt hkw j0 j1 j2 j3 j4 j5 j6
          go_wp2_with fail
          refine HOD.out.mono ?_
          rintro e w12 ⟨tb, Ab, cb, Ai, ci, Af, cf, rfl, t, htb, hb⟩
          have T12 := Lib.hid t
          have htb0 : w.heap.size ≤ tb := by have := B11.out.size; omega
          have B12 := Lib.hid (B11.out.trans (hb.mono B11.out.size))
          clear t hb HOD OY B11
          obtain ⟨r, hrN, hr1, hr2⟩ := ix_find hp.1 HRIS.out ⟨key, zB, seq, false⟩ (nch p l) (Nat.le_refl _)
          have HGT := get_any (fun j => decide (j = k)) hp hbt hl1 hl150 HOK.out HRIS.out HBK.out key (by omega) seq r hrN hr1 hr2 (by omega) T12.out
          obtain ⟨hg1, hg2⟩ := get_law (bad := fun j => decide (j = k)) (b := b) hp.1 hbt hl150 HRIS.out (key := key) (seq := seq) hrN hr1 hr2
          have HG2 := Lib.hid hg2
          have HFD := Lib.hid (fun W hb => find_any A n c l HL.out (by omega) HRIS.out key seq w.heap.size W (HR.out.below hb) hb.size)
          obtain ⟨G, hG⟩ : ∃ G, G = gtV (fun j => decide (j = k)) p b l key seq r := ⟨_, rfl⟩
          rw [← hG] at HGT hg1 HG2
          obtain ⟨y, hy⟩ : ∃ y, y = fndE l key seq := ⟨_, rfl⟩
          obtain ⟨iv, hiv⟩ : ∃ iv, iv = isE l key seq := ⟨_, rfl⟩
          rw [← hy, ← hiv] at HG2
          simp only [← hy, ← hiv] at HFD
          clear hg2 hG hr1 hr2 hrN hy hiv
          obtain ⟨x, ok, f, rk⟩ := G
          dsimp only at HGT hg1 HG2
          unfold Ent.v at HGT HFD
          have HGT := Lib.hid HGT
          go_wp2_with fail
          refine HGT.out.mono ?_
          rintro e w13 ⟨rfl, t, ot⟩
          have T13 := Lib.hid t
          have B13 := Lib.hid (B12.out.trans (ot.below B12.out.size htb0))
          clear t ot T12 B12 HGT
          go_upto_region 18 with (fail)
          have ha : Below w13.heap.size w13 (w13.alloc (.cells #[.string x.key, .string x.val, .int .i64 x.seq, .bool x.del] 40)) := (Below.refl _ _).alloc (Nat.le_refl _) _
          have XX14 : Hid (BxV (w13.alloc (.cells #[.string x.key, .string x.val, .int .i64 x.seq, .bool x.del] 40)) w13.heap.size [.string x.key, .string x.val, .int .i64 x.seq, .bool x.del]) := Lib.hid (BxV.new w13 _ _)
          have T14 := Lib.hid (T13.out.next ha)
          have B14 := Lib.hid (B13.out.trans (ha.mono B13.out.size))
          have HTX : Hid (tb < w13.heap.size) := Lib.hid T13.out.x.lt
          clear ha T13 B13
          generalize w13.alloc (.cells #[.string x.key, .string x.val, .int .i64 x.seq, .bool x.del] 40) = w14 at *
          generalize w13.heap.size = xb at *
          go_wp2_with fail
          refine (HFD.out w14 B14.out).mono ?_
          rintro e w15 ⟨rfl, hb⟩
          have T15 := Lib.hid (T14.out.next hb)
          have XX15 := Lib.hid (XX14.out.next hb)
          have B15 := Lib.hid (B14.out.trans (hb.mono B14.out.size))
          clear hb T14 B14 XX14 HFD
          go_upto_region 19 with (fail)
          have ha : Below w15.heap.size w15 (w15.alloc (.cells #[.string y.key, .string y.val, .int .i64 y.seq, .bool y.del] 40)) := (Below.refl _ _).alloc (Nat.le_refl _) _
          have XY16 : Hid (BxV (w15.alloc (.cells #[.string y.key, .string y.val, .int .i64 y.seq, .bool y.del] 40)) w15.heap.size [.string y.key, .string y.val, .int .i64 y.seq, .bool y.del]) := Lib.hid (BxV.new w15 _ _)
          have XX16 := Lib.hid (XX15.out.next ha)
          have T16 := Lib.hid (T15.out.next ha)
          have B16 := Lib.hid (B15.out.trans (ha.mono B15.out.size))
          have hty : tb < w15.heap.size := T15.out.x.lt
          have htx : tb < xb := HTX.out
          clear ha T15 B15 XX15
          generalize w15.alloc (.cells #[.string y.key, .string y.val, .int .i64 y.seq, .bool y.del] 40) = w16 at *
          generalize w15.heap.size = yb at *
          have HAL := all_any (fun j => decide (j = k)) hp hl1 hl150 HOK.out HRIS.out HBK.out (by omega) T16.out
          rw [(scT_bad hkN).1, (scT_bad hkN).2] at HAL
          have HAL := Lib.hid HAL
          go_wp2_with fail
          refine HAL.out.mono ?_
          rintro e w17 ⟨A17, c17, rfl, -, -, ot⟩
          have B17 := Lib.hid (B16.out.trans (ot.below B16.out.size htb0))
          have XX17 := Lib.hid (ot.bxv XX16.out XX16.out.lt (by omega))
          have XY17 := Lib.hid (ot.bxv XY16.out XY16.out.lt (by omega))
          clear ot T16 B16 XX16 XY16 HAL
          have x0 := XX17.out.c 0 _ rfl
          have x1 := XX17.out.c 1 _ rfl
          have x2 := XX17.out.c 2 _ rfl
          have x3 := XX17.out.c 3 _ rfl
          have xl := XX17.out.lt
          have y0 := XY17.out.c 0 _ rfl
          have y1 := XY17.out.c 1 _ rfl
          have y2 := XY17.out.c 2 _ rfl
          have y3 := XY17.out.c 3 _ rfl
          have yl := XY17.out.lt
          rcases HG2.out with ⟨rfl, rfl, -⟩ | ⟨rfl, rfl, rfl⟩
          · clear HG2
            go_wp2_with fail
            go_ret
            exact ⟨rfl, B17.out⟩
          · clear HG2
            go_wp2_with fail
            go_ret
            exact ⟨rfl, B17.out⟩
        · exact AllReadyH.nil
      · exact AllReadyH.nil
    · exact AllReadyH.nil
  · exact AllReadyH.nil
end Go.Proofs.Ytdmpimgbnhgiaaa

namespace Go.Proofs.Ytdmpimgbnhgiaaa
open Go.RowKit Go.ChangeShapes Go.WideShapes Go.ChangeAt Go.St
set_option linter.unusedVariables false
set_option linter.unusedSimpArgs false
set_option maxRecDepth 100000

theorem wfu32e {z : Int} (h : (Lit.int .u32 z).wf = true) : 0 ≤ z ∧ z ≤ 4294967295 := by simpa [Lit.wf, IntKind.min, IntKind.max, IntKind.signed, IntKind.bits] using h
theorem sstAltered_law (w : World) (x : EntsArg w) (_ : True) (per : Int) (_ : (Lit.int .i64 per).wf = true) (bits : Int) (_ : (Lit.int .i64 bits).wf = true) (which : Int) (h3 : (Lit.int .i64 which).wf = true) (at_ : Int) (h4 : (Lit.int .i64 at_).wf = true) (turn : Int) (h5 : (Lit.int .u32 turn).wf = true) (key : ByteArray) (hkey : key.size ≤ 140737488351232) (seq : Int) (_ : (Lit.int .i64 seq).wf = true) :
    Calls Try.prog 7 #[.slice x.A x.n x.c, .int .i64 per, .int .i64 bits, .int .i64 which, .int .i64 at_, .int .u32 turn, .string key, .int .i64 seq] w fun e w' => e = .returned (.bool true) ∧ Below w.heap.size w w' := by
  have h6 := wfu32e h5
  obtain ⟨t, rfl⟩ := Int.eq_ofNat_of_zero_le h6.1
  exact sstAltered_walk w x.A x.n x.c x.l x.hl x.hc x.hn x.rd per bits which (wf64e h3) at_ (wf64e h4).2 t (by omega) key hkey seq
end Go.Proofs.Ytdmpimgbnhgiaaa
