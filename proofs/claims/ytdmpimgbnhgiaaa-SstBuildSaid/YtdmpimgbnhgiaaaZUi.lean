/- Walk: a table is built by the document. -/
import Derived.Test.YtdmpimgbnhgiaaaZR
import Derived.Test.YtdmpimgbnhgiaaaZUh

namespace Go.Proofs.Ytdmpimgbnhgiaaa
open Go.RowKit Go.St Go.Shelf Go.Maps
set_option linter.unusedVariables false
set_option linter.unusedSimpArgs false
set_option maxRecDepth 100000

set_option maxHeartbeats 3200000 in
theorem rbuild_arg (A : Option Addr) (n c : Nat) (per bits : Int) (h : per < 1 ∨ 64 < per ∨ bits < 1 ∨ 16 < bits ∨ n = 0) (w : World) :
    Calls Try.prog 12 #[.slice A n c, .int .i64 per, .int .i64 bits] w fun e w' => e = .returned (.tuple #[.slice none 0 0, .int .i64 2]) ∧ Below w.heap.size w w' := by
  by_cases h1 : per < 1
  · have e1 : decide (per < 1) = true := decide_eq_true h1
    clear h
    go_enter Try.func12, Try.ntmps12
    go_wp2_with fail
    go_ret2
    exact ⟨rfl, Below.refl _ _⟩
  have e1 : decide (per < 1) = false := decide_eq_false h1
  by_cases h2 : 64 < per
  · have e2 : decide (64 < per) = true := decide_eq_true h2
    clear h
    go_enter Try.func12, Try.ntmps12
    go_wp2_with fail
    go_ret2
    exact ⟨rfl, Below.refl _ _⟩
  have e2 : decide (64 < per) = false := decide_eq_false h2
  by_cases h3 : bits < 1
  · have e3 : decide (bits < 1) = true := decide_eq_true h3
    clear h
    go_enter Try.func12, Try.ntmps12
    go_wp2_with fail
    go_ret2
    exact ⟨rfl, Below.refl _ _⟩
  have e3 : decide (bits < 1) = false := decide_eq_false h3
  by_cases h4 : 16 < bits
  · have e4 : decide (16 < bits) = true := decide_eq_true h4
    clear h
    go_enter Try.func12, Try.ntmps12
    go_wp2_with fail
    go_ret2
    exact ⟨rfl, Below.refl _ _⟩
  have e4 : decide (16 < bits) = false := decide_eq_false h4
  obtain rfl : n = 0 := by omega
  clear h
  go_enter Try.func12, Try.ntmps12
  go_wp2_with fail
  go_ret2
  exact ⟨rfl, Below.refl _ _⟩
set_option maxHeartbeats 6400000 in
theorem rbuild_yes (A : Option Addr) (n c p b : Nat) (hp : 1 ≤ p ∧ p ≤ 64) (hbt : 1 ≤ b ∧ b ≤ 16) (l : List Ent) (hl : l.length = n) (hn : 1 ≤ n ∧ n ≤ 150) (hnc : n ≤ c) (w : World) (hr : Rd w w.heap.size A (env l)) :
    Calls Try.prog 12 #[.slice A n c, .int .i64 (p : Int), .int .i64 (b : Int)] w fun e w' => ∃ A' c', e = .returned (.tuple #[.slice A' (bldL p b l).length c', .int .i64 (bldE p b l)]) ∧ Rd w' w'.heap.size A' (bv (bldL p b l)) ∧ Below w.heap.size w w' := by
  have HL := Lib.hid hl
  have HR := Lib.hid hr
  obtain ⟨E, hE⟩ : ∃ E, E = bldE p b l := ⟨_, rfl⟩
  obtain ⟨S, hS⟩ : ∃ S, S = bldL p b l := ⟨_, rfl⟩
  rw [← hE, ← hS]
  have HE : Hid (E = if l.all okE then (if risE l then 0 else 10) else 2) := Lib.hid (by rw [hE]; unfold bldE; rw [if_neg (by omega)])
  have HS : Hid (S = if E = 0 then bldB p b l else []) := Lib.hid (by rw [hS, hE]; unfold bldL; rw [Int.toNat_natCast, Int.toNat_natCast])
  clear hl hr hE hS
  have e1 : decide ((p : Int) < 1) = false := decide_eq_false (by omega)
  have e2 : decide ((64 : Int) < (p : Int)) = false := decide_eq_false (by omega)
  have e3 : decide ((b : Int) < 1) = false := decide_eq_false (by omega)
  have e4 : decide ((16 : Int) < (b : Int)) = false := decide_eq_false (by omega)
  have e5 : ((n : Int) == 0) = false := by rw [beq_eq_false_iff_ne]; omega
  have e6 : ¬ (65536 : Int) < (n : Int) := by omega
  go_enter Try.func12, Try.ntmps12
  go_wp2_with fail
  clear e1 e2 e3 e4 e5 e6
  go_loopw [8] (fun s8 wr => ∃ i : Nat, s8 = .int .i64 (i : Int) ∧ i ≤ n ∧ Hid (∀ j x, j < i → l[j]? = some x → okE x = true) ∧ Hid (Below w.heap.size w wr)) (fun s8 _ => n - (intOf s8).toNat)
  case atStart => exact ⟨0, rfl, Nat.zero_le _, Lib.hid (fun j x hj => by omega), Lib.hid (Below.refl _ _)⟩
  case round =>
    obtain ⟨i, rfl, hi, HU, B1⟩ := hrel
    obtain ⟨w2, rfl⟩ : ∃ x, x = wr := ⟨_, rfl⟩
    by_cases hlt : i < n
    · obtain ⟨x, hx⟩ : ∃ x, l[i]? = some x := ⟨_, List.getElem?_eq_getElem (by rw [HL.out]; exact hlt)⟩
      obtain ⟨bb, off, rfl, hb, hce⟩ := en_at HR.out hx
      obtain ⟨d0, d1, d2, d3⟩ := hce.below hb B1.out
      have zb : bb < w2.heap.size := by have := B1.out.size; omega
      have i1 : (i : Int) < (n : Int) := by omega
      have i0 : (0 : Int) ≤ (i : Int) := by omega
      have HC := Lib.hid (fun W => rcheck6_any x W)
      have HXX := Lib.hid hx
      clear hce hx
      go_wp2_with fail
      refine (HC.out w2).mono ?_
      rintro r w4 ⟨rfl, hb4⟩
      have B4 := Lib.hid (B1.out.trans (hb4.mono B1.out.size))
      clear hb4 B1 HC d0 d1 d2 d3 zb
      by_cases hok : okE x = true
      · have HU9 : Hid (∀ j x, j < i + 1 → l[j]? = some x → okE x = true) := Lib.hid (fun j y hj hy => by
          rcases Nat.lt_or_ge j i with h | h
          · exact HU.out j y h hy
          · have e : j = i := by omega
            subst e
            have h2 := HXX.out
            rw [hy] at h2
            injection h2 with h2
            rw [h2]
            exact hok)
        rw [show chkE x = 0 by unfold chkE; rw [hok]; rfl]
        clear hok HU
        go_wp2_with fail
        go_roundw
        case rel => exact ⟨i + 1, by go_num, by omega, HU9, B4⟩
        case measure => (first | (simp [intOf]; done) | (simp [intOf]; omega))
      · have SEQ : Hid (E = 2 ∧ S = []) := Lib.hid (by
          have h1 : l.all okE = false := by
            rw [List.all_eq_false]
            exact ⟨x, List.mem_of_getElem? HXX.out, hok⟩
          have h2 := HE.out
          rw [h1] at h2
          have h3 : E = 2 := h2
          exact ⟨h3, by rw [HS.out, h3]; rfl⟩)
        rw [show chkE x = 2 by unfold chkE; rw [if_neg hok]]
        clear hok HU HE HS
        go_wp2_with fail
        go_ret2
        rw [SEQ.out.1, SEQ.out.2]
        exact ⟨none, 0, rfl, Rd.nil, B4.out⟩
    obtain rfl : i = n := by omega
    have i1 : ¬ (i : Int) < (i : Int) := by omega
    have HOK : Hid (∀ x ∈ l, okE x = true) := Lib.hid (fun x hx => by
      obtain ⟨j, hj⟩ := List.mem_iff_getElem?.1 hx
      exact HU.out j x (by have := (List.getElem?_eq_some_iff.1 hj).1; have := HL.out; omega) hj)
    have HE2 : Hid (E = if risE l then 0 else 10) := Lib.hid (by rw [HE.out, if_pos (List.all_eq_true.2 HOK.out)])
    clear HU HE hlt hi
    go_wp2_with fail
    refine (rordered_any A i c l HL.out (by omega) w.heap.size w2 (HR.out.below B1.out) B1.out.size).mono ?_
    rintro r w3 ⟨rfl, hb⟩
    have B3 := Lib.hid (B1.out.trans (hb.mono B1.out.size))
    clear hb B1
    cases hris : risE l
    · have SEQ : Hid (E = 10 ∧ S = []) := Lib.hid (by
        have h1 := HE2.out
        rw [hris] at h1
        have h3 : E = 10 := h1
        exact ⟨h3, by rw [HS.out, h3]; rfl⟩)
      clear hris HE2 HS
      go_wp2_with fail
      go_ret2
      rw [SEQ.out.1, SEQ.out.2]
      exact ⟨none, 0, rfl, Rd.nil, B3.out⟩
    have SE : Hid (E = 0 ∧ S = bldB p b l) := Lib.hid (by
      have h1 := HE2.out
      rw [hris] at h1
      have h3 : E = 0 := h1
      exact ⟨h3, by rw [HS.out, h3]; rfl⟩)
    have HRIS := Lib.hid hris
    clear hris HE2 HS
    go_wp2_with fail
    obtain ⟨x0, hx0⟩ : ∃ x, l[0]? = some x := ⟨_, List.getElem?_eq_getElem (by rw [HL.out]; omega)⟩
    obtain ⟨ab, ao, rfl, hab, -⟩ := en_at HR.out hx0
    clear hx0 x0
    have hz3w := B3.out.size
    go_loopw [10, 11, 12, 13, 14] (fun s10 s11 s12 s13 s14 wr => ∃ (Ao : Option Addr) (co : Nat) (Ai : Option Addr) (ci : Nat) (Ak : Option Addr) (ck kk j i0 : Nat) (O0 I0 : List UInt8), s10 = .slice Ao O0.length co ∧ s11 = .slice Ai I0.length ci ∧ s12 = .slice Ak kk ck ∧ s13 = .int .i64 (j : Int) ∧ s14 = .int .i64 (i0 : Int) ∧ i0 ≤ i + 64 ∧ kk ≤ i ∧ Hid (i0 = j * p ∧ O0 = outP p l j ∧ I0 = idxP p l j ∧ kk = min i0 i ∧ j ≤ nch p l) ∧ Hid (wr.ownsRow w3.heap.size 5 1 (.slice Ao O0.length co) O0.length (bv O0)) ∧ Hid (Rd wr wr.heap.size Ai (bv I0)) ∧ Hid (wr.ownsRow w3.heap.size 9 1 (.slice Ak kk ck) kk (sv ((keysE l).take kk))) ∧ Hid (∀ g, (Value.slice Ao O0.length co).ownBlock = some g → (Value.slice Ak kk ck).ownBlock ≠ some g) ∧ Hid (∀ g o, Ai = some ⟨g, o, none⟩ → (Value.slice Ao O0.length co).ownBlock ≠ some g ∧ (Value.slice Ak kk ck).ownBlock ≠ some g) ∧ Hid (Below w3.heap.size w3 wr)) (fun _ _ _ _ s14 _ => i + 64 - (intOf s14).toNat)
    case atStart => exact ⟨none, 0, none, 0, none, 0, 0, 0, 0, [], [], rfl, rfl, rfl, rfl, rfl, by omega, Nat.zero_le _, Lib.hid ⟨by omega, rfl, rfl, by omega, Nat.zero_le _⟩, Lib.hid (World.ownsRow_nil _ _ _ _), Lib.hid Rd.nil, Lib.hid (World.ownsRow_nil _ _ _ _), Lib.hid (fun g hg => by simp [Value.ownBlock] at hg), Lib.hid (fun g o e => by cases e), Lib.hid (Below.refl _ _)⟩
    case round =>
      obtain ⟨Ao, co, Ai, ci, Ak, ck, kk, j, i0, O0, I0, rfl, rfl, rfl, rfl, rfl, hi0, hkk, HEQ, OO, RI, OK, HNE, HNI, B4⟩ := hrel
      obtain ⟨w4, rfl⟩ : ∃ x, x = wr := ⟨_, rfl⟩
      have hz34 := B4.out.size
      by_cases hlt : i0 < i
      · obtain ⟨ek, hek⟩ : ∃ ek, ek = min p (i - i0) := ⟨_, rfl⟩
        have hjp : j * p < l.length := by rw [← HEQ.out.1, HL.out]; exact hlt
        have hcl := chk_len p l j
        rw [← HEQ.out.1, HL.out, ← hek] at hcl
        have hmin : min ((i0 : Int) + (p : Int)) (i : Int) = ((i0 + ek : Nat) : Int) := by omega
        have he1 : 1 ≤ ek ∧ ek ≤ 64 ∧ i0 + ek ≤ i := by omega
        have hki : kk = i0 := by have := HEQ.out.2.2.2.1; omega
        have BQ4 := Lib.hid (B3.out.trans (B4.out.mono B3.out.size))
        have RP := Lib.hid (rd_piece (HR.out.below BQ4.out) hjp)
        have i1 : (i0 : Int) < (i : Int) := by omega
        have i2 : (0 : Int) ≤ (i0 : Int) := by omega
        have i3 : ((i0 + ek : Nat) : Int) ≤ (c : Int) := by omega
        have i4 : (i0 : Int) ≤ ((i0 + ek : Nat) : Int) := by omega
        have hsub : i0 + ek - i0 = ek := by omega
        have RP2 : Hid (Rd w4 w.heap.size (some ⟨ab, ao + i0 * 4, none⟩) (env (chk p l j))) := Lib.hid (by
          have h := RP.out
          rw [Option.map_some, show (Addr.add ⟨ab, ao, none⟩ (j * p * 4)) = ⟨ab, ao + i0 * 4, none⟩ by
            rw [HEQ.out.1]
            unfold Addr.add
            split
            · rename_i h0
              rw [h0]
              rfl
            · rfl] at h
          exact h)
        have hcc := chk_chkL (p := p) (l := l) (j := j) hp hjp HOK.out
        rw [if_pos (chk_ris j HRIS.out)] at hcc
        obtain ⟨m1, hm1⟩ : ∃ m1, ek = m1 + 1 := ⟨ek - 1, by omega⟩
        obtain ⟨x, hx⟩ : ∃ x, (chk p l j)[m1]? = some x := ⟨_, List.getElem?_eq_getElem (by omega)⟩
        have hlx : lstE (chk p l j) = x := lstE_get (by rw [hcl, hm1]; exact hx)
        have HQX := Lib.hid (okE_b (chk_ok j HOK.out x (List.mem_of_getElem? hx)))
        obtain ⟨pb, po, hpa, hpb, hpe⟩ := en_at RP2.out hx
        injection hpa with hpa
        injection hpa with hpa1 hpa2
        subst hpa1
        subst hpa2
        have HPE := Lib.hid hpe
        have HEN := Lib.hid (rencode_any (some ⟨ab, ao + i0 * 4, none⟩) ek (c - i0) (chk p l j) hcl (by omega) (fun y hy => okE_key (chk_ok j HOK.out y hy)) w.heap.size w4 RP2.out BQ4.out.size)
        rw [hcc] at HEN
        have hel := encL_len (chk p l j)
        have HO1 : Hid (outP p l (j + 1) = O0 ++ frameL (encL (chk p l j))) := Lib.hid (by rw [HEQ.out.2.1]; rfl)
        have HI1 : Hid (idxP p l (j + 1) = I0 ++ (uv (frameL (encL (chk p l j))).length ++ uv x.key.size ++ x.key.data.toList ++ uv x.seq.toNat)) := Lib.hid (by rw [HEQ.out.2.2.1, idxP, ixE, hlx]; rfl)
        have HJN : Hid (j + 1 ≤ nch p l) := Lib.hid ((nch_lt (p := p) (by omega) l j).2 hjp)
        have hj150 : j < 150 := by
          have : j ≤ j * p := Nat.le_mul_of_pos_right _ (by omega)
          have := HL.out
          omega
        have hol : O0.length ≤ 150 * 400012 := by rw [HEQ.out.2.1]; exact Nat.le_trans (outP_len p l j) (by omega)
        have hil : I0.length ≤ 150 * 550 := by
          have h1 := idxP_len (p := p) (l := l) hp.1 HOK.out j (by have := HJN.out; omega)
          rw [← HEQ.out.2.2.1] at h1
          omega
        have HEQ2 : Hid (i0 + p = (j + 1) * p) := Lib.hid (by rw [HEQ.out.1, Nat.add_mul, Nat.one_mul])
        subst hki
        have hkk2 : kk + ek = min (kk + p) i := by omega
        have HM1 := Lib.hid hm1
        have HKM := Lib.hid hkk2
        clear hkk2 hjp hcl RP hcc hx hlx hpe hm1 hek
        generalize encL (chk p l j) = EN at *
        go_wp2_with fail
        refine HEN.out.mono ?_
        rintro r w5 ⟨v5, rfl, own5, hb⟩
        obtain ⟨A5, c5, rfl, -, r5⟩ := own_sl own5
        have R5 := Lib.hid r5
        have hz45 := hb.size
        have B5 := Lib.hid (B4.out.trans (hb.mono hz34))
        have OO5 := Lib.hid (own_keep OO.out hb (Nat.le_refl _))
        have OK5 := Lib.hid (own_keep OK.out hb (Nat.le_refl _))
        have RI5 := Lib.hid ((RI.out.below hb).more hb.size)
        have E5 : Hid (EnI w5 ab (ao + kk * 4 + m1 * 4) x) := Lib.hid (HPE.out.below hpb (hb.mono BQ4.out.size))
        clear own5 r5 hb B4 OO OK RI HPE HEN BQ4
        go_wp2_with fail
        refine (rframe_any A5 EN.length c5 w5.heap.size EN rfl (by omega) w5 R5.out (Nat.le_refl _)).mono ?_
        rintro r w6 ⟨v6, rfl, own6, hb⟩
        obtain ⟨FN, A6, c6, hFN, rfl, o6, r6⟩ := nxB (base' := w5.heap.size) (b := []) (ys := frameL EN) own6 (by simp) (Nat.le_refl _)
        have HFN : Hid (FN = frameL EN) := Lib.hid (by rw [hFN]; rfl)
        have hfl : FN.length ≤ 400012 := by rw [HFN.out, frameL_length]; omega
        have R6 := Lib.hid r6
        have hz56 := hb.size
        have B6 := Lib.hid (B5.out.trans (hb.mono (by omega)))
        have OO6 := Lib.hid (own_keep OO5.out hb (Nat.le_refl _))
        have OK6 := Lib.hid (own_keep OK5.out hb (Nat.le_refl _))
        have RI6 := Lib.hid ((RI5.out.below hb).more hb.size)
        have E6 : Hid (EnI w6 ab (ao + kk * 4 + m1 * 4) x) := Lib.hid (E5.out.below (by omega) (hb.mono (Nat.le_refl _)))
        have HRF := Lib.hid (fun g hg => (o6.lt g hg).1)
        clear own6 o6 r6 hb hFN B5 OO5 OK5 RI5 E5 R5
        go_upto_region 23 with (at_builtin; refine wpList_app sty22 (.tmp 87) (.tmp 88) rfl rfl w3.heap.size OO6.out rfl FN.length c6 R6.out rfl (by rw [bv_length, Nat.mul_one]) (bv_one _) (by unfold maxLen; omega) (by omega) (by omega) ?_; intro v7 w7 own7 gr7 nil7 at7; obtain ⟨O1, A7, c7, hO1, rfl, o7, -⟩ := nxB (base' := w3.heap.size) (b := O0) (ys := FN) own7 (by rw [bv_append]) (Nat.le_refl _); have HO1b := Lib.hid hO1; clear hO1)
        have HGO := Lib.hid gr7
        have HPO7 := Lib.hid (fun g (hg : (Value.slice A7 O1.length c7).ownBlock = some g) => (o7.lt g hg).2)
        have B7 := Lib.hid (B6.out.trans ((Below.refl w3.heap.size w6).grown gr7 (by omega) (fun g e => (OO6.out.lt g e).1)))
        have OK7 := Lib.hid (ownsRow_of OK6.out (W' := w7) (fun g hg => gr7.block g (OK6.out.lt g hg).2 (fun e => HNE.out g e.symm hg)))
        have HNE7 : Hid (∀ g, (Value.slice A7 O1.length c7).ownBlock = some g → (Value.slice Ak kk ck).ownBlock ≠ some g) := Lib.hid (fun g hg hk => by
          rcases at7 with h | h
          · rw [h] at hg
            exact HNE.out g hg hk
          · rw [h] at hg
            injection hg with hg
            have := (OK6.out.lt g hk).2
            omega)
        have E7 : Hid (EnI w7 ab (ao + kk * 4 + m1 * 4) x) := Lib.hid (E6.out.below (B := w3.heap.size) (by omega) ((Below.refl w3.heap.size w6).grown gr7 (by omega) (fun g e => (OO6.out.lt g e).1)))
        have O7 := Lib.hid o7
        have hz67 := gr7.size
        have RI7 := Lib.hid (rd_grown RI6.out gr7 (fun g o e => (HNI.out g o e).1))
        have HNK7 := Lib.hid (fun g (hg : (Value.slice Ak kk ck).ownBlock = some g) => (OK7.out.lt g hg).2)
        clear own7 gr7 nil7 at7 o7 OO6 OK6 RI6 E6 B6 R6 HNE HNI HRF
        obtain ⟨d0, d1, d2, d3⟩ := E7.out
        have zb := World.block_lt_of_cell? w7 _ d0
        have hm2 : IntKind.i64.wrap ((ek : Int) - 1) = (m1 : Int) := by rw [IntWalk.i64_in _ (by omega)]; have := HM1.out; omega
        have hm3 : (0 : Int) ≤ (m1 : Int) := by omega
        have hm4 : (m1 : Int) < (ek : Int) := by have := HM1.out; omega
        go_upto_region 24 with (fail)
        have hal : Below w7.heap.size w7 (w7.alloc (.cells #[.string x.key, .string x.val, .int .i64 x.seq, .bool x.del] 40)) := (Below.refl _ _).alloc (Nat.le_refl _) _
        have XE8 := Lib.hid (BxV.new w7 #[.string x.key, .string x.val, .int .i64 x.seq, .bool x.del] 40)
        have O8 := Lib.hid (own_keep O7.out hal (Nat.le_refl _))
        have OK8 := Lib.hid (own_keep OK7.out hal (Nat.le_refl _))
        have RI8 := Lib.hid ((RI7.out.below hal).more hal.size)
        have B8 := Lib.hid (B7.out.trans (hal.mono (by omega)))
        have z78 := hal.size
        generalize w7.alloc (.cells #[.string x.key, .string x.val, .int .i64 x.seq, .bool x.del] 40) = w8 at *
        obtain ⟨bx, hbx⟩ : ∃ g, g = w7.heap.size := ⟨_, rfl⟩
        rw [← hbx] at XE8 ⊢
        have XEQ : Hid (bx < w8.heap.size) := Lib.hid XE8.out.lt
        clear hal hbx E7 d0 d1 d2 d3 zb O7 OK7 RI7 B7 HGO hm2 hm3 hm4
        have hx512 : x.key.size ≤ 512 := HQX.out.2.2.2.1
        have hku : IntKind.u64.wrap (x.key.size : Int) = (x.key.size : Int) := IntWalk.u64_in _ (by omega)
        have hfu : IntKind.u64.wrap (FN.length : Int) = (FN.length : Int) := IntWalk.u64_in _ (by omega)
        have hdr : Below w8.heap.size w8 w8.drew := Below.drew (Below.refl _ _)
        refine wp_heldall (S := fun W => BxV W bx [.string x.key, .string x.val, .int .i64 x.seq, .bool x.del]) 11 (by kernel_rfl) rfl (XE8.out.next hdr) (fun hHeld => ?_)
        refine takeL (i := 0) (v := ?_) rfl (by kernel_rfl) (by kernel_rfl) (by kernel_rfl) (fun _ _ _ h => h) ⟨by rfl, ?_⟩ (by first | assumption | trivial) ?_
        rotate_left
        · intro W9 hSw
          (try dsimp only at hSw)
          go_simp
          try with_reducible rfl
        (try simp only [Act.put, List.setIfInBounds_toArray, List.set_cons_zero, List.set_cons_succ])
        refine takeL (i := 1) (v := ?_) rfl (by kernel_rfl) (by kernel_rfl) (by kernel_rfl) (fun _ _ _ h => h) ⟨by rfl, ?_⟩ (by first | assumption | trivial) ?_
        rotate_left
        · intro W9 hSw
          (try dsimp only at hSw)
          go_simp
          try with_reducible rfl
        (try simp only [Act.put, List.setIfInBounds_toArray, List.set_cons_zero, List.set_cons_succ])
        refine takeL (i := 2) (v := ?_) rfl (by kernel_rfl) (by kernel_rfl) (by kernel_rfl) (fun _ _ _ h => h) ⟨by rfl, ?_⟩ (by first | assumption | trivial) ?_
        rotate_left
        · intro W9 hSw
          (try dsimp only at hSw)
          go_simp
          try with_reducible rfl
        (try simp only [Act.put, List.setIfInBounds_toArray, List.set_cons_zero, List.set_cons_succ])
        refine takeL (i := 3) (v := ?_) rfl (by kernel_rfl) (by kernel_rfl) (by kernel_rfl) (fun _ _ _ h => h) ⟨by rfl, ?_⟩ (by first | assumption | trivial) ?_
        rotate_left
        · intro W9 hSw
          (try dsimp only at hSw)
          go_simp
          try with_reducible rfl
        (try simp only [Act.put, List.setIfInBounds_toArray, List.set_cons_zero, List.set_cons_succ])
        refine takeL (i := 5) (v := ?_) rfl (by kernel_rfl) (by kernel_rfl) (by kernel_rfl) (fun _ _ _ h => h) ⟨by rfl, ?_⟩ (by first | assumption | trivial) ?_
        rotate_left
        · intro W9 hSw
          (try dsimp only at hSw)
          go_simp
          try with_reducible rfl
        (try simp only [Act.put, List.setIfInBounds_toArray, List.set_cons_zero, List.set_cons_succ])
        refine takeL (i := 6) (v := ?_) rfl (by kernel_rfl) (by kernel_rfl) (by kernel_rfl) (fun _ _ _ h => h) ⟨by rfl, ?_⟩ (by first | assumption | trivial) ?_
        rotate_left
        · intro W9 hSw
          (try dsimp only at hSw)
          (have y := hSw.c 0 _ rfl; have yl := hSw.lt)
          go_simp
          try with_reducible rfl
        (try simp only [Act.put, List.setIfInBounds_toArray, List.set_cons_zero, List.set_cons_succ])
        refine takeL (i := 7) (v := ?_) rfl (by kernel_rfl) (by kernel_rfl) (by kernel_rfl) (fun _ _ _ h => h) ⟨by rfl, ?_⟩ (by first | assumption | trivial) ?_
        rotate_left
        · intro W9 hSw
          (try dsimp only at hSw)
          go_simp
          try with_reducible rfl
        (try simp only [Act.put, List.setIfInBounds_toArray, List.set_cons_zero, List.set_cons_succ])
        refine takeL (i := 8) (v := ?_) rfl (by kernel_rfl) (by kernel_rfl) (by kernel_rfl) (fun _ _ _ h => h) ⟨by rfl, ?_⟩ (by first | assumption | trivial) ?_
        rotate_left
        · intro W9 hSw
          (try dsimp only at hSw)
          go_simp
          try with_reducible rfl
        (try simp only [Act.put, List.setIfInBounds_toArray, List.set_cons_zero, List.set_cons_succ])
        clear hHeld
        have O9 := Lib.hid (own_keep O8.out hdr (Nat.le_refl _))
        have OK9 := Lib.hid (own_keep OK8.out hdr (Nat.le_refl _))
        have RI9 := Lib.hid ((RI8.out.below hdr).more hdr.size)
        have XE9 := Lib.hid (XE8.out.next hdr)
        have B9 := Lib.hid (B8.out.trans (hdr.mono (by omega)))
        have z89 := hdr.size
        clear hdr O8 OK8 RI8 XE8 B8
        generalize w8.drew = w9 at *
        refine wpAnyH_ready (rs := [4]) (by kernel_rfl) (by simp) ?_
        refine consL rfl (by rfl) (fun K hK => ?_) ?_
        · go_simp
          go_at_call 44
          refine (rappU_any Ai I0.length ci w9.heap.size I0 rfl (by omega) FN.length (by omega) w9 RI9.out (Nat.le_refl _)).mono ?_
          rintro r v1 ⟨u1, rfl, own, hb⟩
          obtain ⟨J1, A1, c1, hJ1, rfl, -, r1⟩ := nxB (base' := w9.heap.size) (b := I0) (ys := uv FN.length) own rfl (Nat.le_refl _)
          have hl1 : J1.length ≤ I0.length + 10 := by
            have := uv_len10 (x := FN.length) (by omega)
            rw [hJ1, List.length_append]
            omega
          have HJ1 := Lib.hid hJ1
          have RJ1 := Lib.hid r1
          have HB1 := Lib.hid hb
          have XE1 := Lib.hid (XE9.out.next hb)
          refine hK.out _ _ XE1.out (fun _ => ?_)
          clear hK K own hJ1 r1 hb XE9
          (try simp only [Act.put, List.setIfInBounds_toArray, List.set_cons_zero, List.set_cons_succ])
          refine wpAnyH_ready (rs := [9]) (by kernel_rfl) (by simp) ?_
          refine consL rfl (by rfl) (fun K hK => ?_) ?_
          · go_simp
            go_at_call 44
            refine (rappU_any A1 J1.length c1 v1.heap.size J1 rfl (by omega) x.key.size (by omega) v1 RJ1.out (Nat.le_refl _)).mono ?_
            rintro r v2 ⟨u2, rfl, own, hb⟩
            obtain ⟨J2, A2, c2, hJ2, rfl, o2, -⟩ := nxB (base' := v1.heap.size) (b := J1) (ys := uv x.key.size) own rfl (Nat.le_refl _)
            have hl2 : J2.length ≤ J1.length + 10 := by
              have := uv_len10 (x := x.key.size) (by omega)
              rw [hJ2, List.length_append]
              omega
            have HJ2 := Lib.hid hJ2
            have OJ2 := Lib.hid o2
            have HB2 := Lib.hid (HB1.out.trans (hb.mono HB1.out.size))
            have z1v := HB1.out.size
            have z2v := hb.size
            have XE2 := Lib.hid (XE1.out.next hb)
            refine hK.out _ _ XE2.out (fun _ => ?_)
            clear hK K own hJ2 o2 hb XE1 RJ1 HB1
            (try simp only [Act.put, List.setIfInBounds_toArray, List.set_cons_zero, List.set_cons_succ])
            refine takeL (i := 10) (v := ?_) rfl (by kernel_rfl) (by kernel_rfl) (by kernel_rfl) (fun _ _ _ h => h) ⟨by rfl, ?_⟩ (by first | assumption | trivial) ?_
            rotate_left
            · intro W9 hSw
              (try dsimp only at hSw)
              go_simp
              try with_reducible rfl
            (try simp only [Act.put, List.setIfInBounds_toArray, List.set_cons_zero, List.set_cons_succ])
            refine wpAnyH_done (by kernel_rfl) ?_ _
            have O10 := Lib.hid (own_keep O9.out HB2.out (Nat.le_refl _))
            have OK10 := Lib.hid (own_keep OK9.out HB2.out (Nat.le_refl _))
            have B10 := Lib.hid (B9.out.trans (HB2.out.mono (by omega)))
            clear HB2 O9 OK9 B9 RI9
            obtain ⟨w10, rfl⟩ : ∃ x, x = v2 := ⟨_, rfl⟩
            go_wp2_with fail
            obtain ⟨sN, hsN⟩ : ∃ n : Nat, n = x.seq.toNat := ⟨_, rfl⟩
            have hsu : IntKind.u64.wrap x.seq = (sN : Int) := by have h1 := HQX.out.1; have h2 := HQX.out.2.1; rw [IntWalk.u64_in _ (by omega)]; omega
            have hs64 : sN ≤ 1073741824 := by have h1 := HQX.out.1; have h2 := HQX.out.2.1; omega
            have HSN := Lib.hid hsN
            clear hsN
            have hdr : Below w10.heap.size w10 w10.drew := Below.drew (Below.refl _ _)
            refine wp_heldall (S := fun W => BxV W bx [.string x.key, .string x.val, .int .i64 x.seq, .bool x.del]) 9 (by kernel_rfl) rfl (XE2.out.next hdr) (fun hHeld => ?_)
            refine takeL (i := 0) (v := ?_) rfl (by kernel_rfl) (by kernel_rfl) (by kernel_rfl) (fun _ _ _ h => h) ⟨by rfl, ?_⟩ (by first | assumption | trivial) ?_
            rotate_left
            · intro W9 hSw
              (try dsimp only at hSw)
              go_simp
              try with_reducible rfl
            (try simp only [Act.put, List.setIfInBounds_toArray, List.set_cons_zero, List.set_cons_succ])
            refine takeL (i := 1) (v := ?_) rfl (by kernel_rfl) (by kernel_rfl) (by kernel_rfl) (fun _ _ _ h => h) ⟨by rfl, ?_⟩ (by first | assumption | trivial) ?_
            rotate_left
            · intro W9 hSw
              (try dsimp only at hSw)
              go_simp
              try with_reducible rfl
            (try simp only [Act.put, List.setIfInBounds_toArray, List.set_cons_zero, List.set_cons_succ])
            refine takeL (i := 2) (v := ?_) rfl (by kernel_rfl) (by kernel_rfl) (by kernel_rfl) (fun _ _ _ h => h) ⟨by rfl, ?_⟩ (by first | assumption | trivial) ?_
            rotate_left
            · intro W9 hSw
              (try dsimp only at hSw)
              (have y := hSw.c 0 _ rfl; have yl := hSw.lt)
              go_simp
              try with_reducible rfl
            (try simp only [Act.put, List.setIfInBounds_toArray, List.set_cons_zero, List.set_cons_succ])
            refine takeL (i := 4) (v := ?_) rfl (by kernel_rfl) (by kernel_rfl) (by kernel_rfl) (fun _ _ _ h => h) ⟨by rfl, ?_⟩ (by first | assumption | trivial) ?_
            rotate_left
            · intro W9 hSw
              (try dsimp only at hSw)
              go_simp
              try with_reducible rfl
            (try simp only [Act.put, List.setIfInBounds_toArray, List.set_cons_zero, List.set_cons_succ])
            refine takeL (i := 5) (v := ?_) rfl (by kernel_rfl) (by kernel_rfl) (by kernel_rfl) (fun _ _ _ h => h) ⟨by rfl, ?_⟩ (by first | assumption | trivial) ?_
            rotate_left
            · intro W9 hSw
              (try dsimp only at hSw)
              (have y := hSw.c 2 _ rfl; have yl := hSw.lt)
              go_simp
              try with_reducible rfl
            (try simp only [Act.put, List.setIfInBounds_toArray, List.set_cons_zero, List.set_cons_succ])
            refine takeL (i := 6) (v := ?_) rfl (by kernel_rfl) (by kernel_rfl) (by kernel_rfl) (fun _ _ _ h => h) ⟨by rfl, ?_⟩ (by first | assumption | trivial) ?_
            rotate_left
            · intro W9 hSw
              (try dsimp only at hSw)
              go_simp
              try with_reducible rfl
            (try simp only [Act.put, List.setIfInBounds_toArray, List.set_cons_zero, List.set_cons_succ])
            clear hHeld
            have O11 := Lib.hid (own_keep O10.out hdr (Nat.le_refl _))
            have OK11 := Lib.hid (own_keep OK10.out hdr (Nat.le_refl _))
            have OJ11 := Lib.hid (own_keep OJ2.out hdr (Nat.le_refl _))
            have XE11 := Lib.hid (XE2.out.next hdr)
            have B11 := Lib.hid (B10.out.trans (hdr.mono (by omega)))
            have z1011 := hdr.size
            have hbxl : bx < v1.heap.size := by have := XEQ.out; omega
            clear hdr O10 OK10 OJ2 XE2 B10
            generalize w10.drew = w11 at *
            refine wpAnyH_ready (rs := [3]) (by kernel_rfl) (by simp) ?_
            refine consL rfl (by rfl) (fun K hK => ?_) ?_
            · refine wp_appS styB Try.underlying9 (.tmp 106) (.tmp 108) rfl v1.heap.size OJ11.out rfl x.key rfl (by unfold maxLen; omega) (by omega) (by omega) ?_
              intro u3 w12 own12 gr12
              have b12 : Below v1.heap.size w11 w12 := (Below.refl _ _).grown gr12 (by omega) (fun g e => (OJ11.out.lt g e).1)
              obtain ⟨J3, A3, c3, hJ3, rfl, o12, r12⟩ := nxB (base' := v1.heap.size) (b := J2) (ys := x.key.data.toList) own12 (by rw [bv_append]) (Nat.le_refl _)
              have hl3 : J3.length ≤ J2.length + 512 := by
                have h3 : x.key.data.toList.length = x.key.size := Array.length_toList
                rw [hJ3, List.length_append]
                omega
              have HJ3 := Lib.hid hJ3
              have RJ3 := Lib.hid r12
              have XE12 := Lib.hid (XE11.out.below b12 (by omega))
              have O12 := Lib.hid (ownsRow_of O11.out (W' := w12) (fun g hg => b12.block g (by have := HPO7.out g hg; omega)))
              have OK12 := Lib.hid (ownsRow_of OK11.out (W' := w12) (fun g hg => b12.block g (by have := HNK7.out g hg; omega)))
              have B12 := Lib.hid (B11.out.trans (b12.mono (by omega)))
              have z1112 := b12.size
              refine hK.out _ _ XE12.out (fun _ => ?_)
              clear hK K own12 gr12 b12 hJ3 o12 r12 OJ11 XE11 O11 OK11 B11
              (try simp only [Act.put, List.setIfInBounds_toArray, List.set_cons_zero, List.set_cons_succ])
              refine wpAnyH_ready (rs := [7]) (by kernel_rfl) (by simp) ?_
              refine consL rfl (by rfl) (fun K hK => ?_) ?_
              · go_simp
                go_at_call 44
                refine (rappU_any A3 J3.length c3 w12.heap.size J3 rfl (by omega) sN (by omega) w12 RJ3.out (Nat.le_refl _)).mono ?_
                rintro r w13 ⟨u4, rfl, own, hb⟩
                obtain ⟨I1, A4, c4, hI1, rfl, o13, r13⟩ := nxB (base' := w12.heap.size) (b := J3) (ys := uv sN) own rfl (Nat.le_refl _)
                have HI1b : Hid (idxP p l (j + 1) = I1) := Lib.hid (by rw [HI1.out, hI1, HSN.out, HJ3.out, HJ2.out, HJ1.out, HFN.out]; simp only [List.append_assoc])
                have RI13 := Lib.hid r13
                have HNI13 : Hid (∀ g o, A4 = some ⟨g, o, none⟩ → w12.heap.size ≤ g ∧ g < w13.heap.size) := Lib.hid (fun g o e => o13.lt g (by rw [e]; rfl))
                have O13 := Lib.hid (own_keep O12.out hb (Nat.le_refl _))
                have OK13 := Lib.hid (own_keep OK12.out hb (Nat.le_refl _))
                have B13 := Lib.hid (B12.out.trans (hb.mono (by omega)))
                have z1213 := hb.size
                refine hK.out _ _ (XE12.out.next hb) (fun _ => ?_)
                clear hK K own hI1 o13 r13 hb O12 OK12 B12 XE12 RJ3
                (try simp only [Act.put, List.setIfInBounds_toArray, List.set_cons_zero, List.set_cons_succ])
                refine takeL (i := 8) (v := ?_) rfl (by kernel_rfl) (by kernel_rfl) (by kernel_rfl) (fun _ _ _ h => h) ⟨by rfl, ?_⟩ (by first | assumption | trivial) ?_
                rotate_left
                · intro W9 hSw
                  (try dsimp only at hSw)
                  go_simp
                  try with_reducible rfl
                (try simp only [Act.put, List.setIfInBounds_toArray, List.set_cons_zero, List.set_cons_succ])
                refine wpAnyH_done (by kernel_rfl) ?_ _
                go_wp2_with fail
                have HOE : Hid (O1 = outP p l (j + 1)) := Lib.hid (by rw [HO1.out, HO1b.out, HFN.out])
                clear HJ1 HJ2 HJ3 HO1 HI1 HSN hsu hs64 hku hfu hl1 hl2 hl3
                go_loopw [12, 20] (fun s12 s20 wr => ∃ (Aq : Option Addr) (cq t : Nat), s12 = .slice Aq (kk + t) cq ∧ s20 = .int .i64 (t : Int) ∧ t ≤ ek ∧ Hid (wr.ownsRow w3.heap.size 9 1 (.slice Aq (kk + t) cq) (kk + t) (sv ((keysE l).take (kk + t)))) ∧ Hid (GrT w13 (.slice Ak kk ck) wr (.slice Aq (kk + t) cq))) (fun _ s20 _ => ek - (intOf s20).toNat)
                case atStart => exact ⟨Ak, ck, 0, rfl, rfl, Nat.zero_le _, OK13, Lib.hid (GrT.refl _ _)⟩
                case round =>
                  obtain ⟨Aq, cq, t, rfl, rfl, htk, OQ, G⟩ := hrel
                  obtain ⟨w14, rfl⟩ : ∃ x, x = wr := ⟨_, rfl⟩
                  have hz1314 := G.out.gr.size
                  have BG := Lib.hid (B13.out.trans (G.out.below (B := w3.heap.size) (by omega) (fun g hg => (OK13.out.lt g hg).1)))
                  by_cases htl : t < ek
                  · obtain ⟨y, hy⟩ : ∃ y, l[kk + t]? = some y := ⟨_, List.getElem?_eq_getElem (by rw [HL.out]; omega)⟩
                    obtain ⟨b', off', e', hb', hce'⟩ := en_at HR.out hy
                    injection e' with e'
                    injection e' with e1 e2
                    subst e1
                    subst e2
                    have f0 := (hce'.below hb' (B3.out.trans (BG.out.mono (by omega)))).c0
                    rw [show ao + (kk + t) * 4 = ao + kk * 4 + t * 4 by omega] at f0
                    have zb := World.block_lt_of_cell? w14 _ f0
                    have HKY := Lib.hid (keys_succ hy)
                    have t1 : (t : Int) < (ek : Int) := by omega
                    have t0 : (0 : Int) ≤ (t : Int) := by omega
                    clear hce' hy hb'
                    go_wp2_with (at_builtin; refine wpList_app styS (.tmp 120) (.tmp 126) rfl rfl w3.heap.size (OQ.out.alloc _) rfl 1 1 (rd_frC _ _ _ _) rfl rfl (by simp [Value.oneCell']) (by unfold maxLen; omega) (by omega) (by rw [World.size_alloc]; omega) ?_; intro v9 w15 own9 gr9 nil9 at9; obtain ⟨A9, c9, rfl, -, -⟩ := own_sl own9)
                    have G9 := Lib.hid ((G.out.alloc (.cells #[.string y.key] 9)).app gr9 at9)
                    have OQ9 := Lib.hid (own_eq own9 rfl (show sv ((keysE l).take (kk + t)) ++ [.string y.key] = sv ((keysE l).take (kk + (t + 1))) by rw [← Nat.add_assoc, HKY.out]; simp [sv]))
                    clear own9 gr9 nil9 at9
                    go_roundw
                    case rel => exact ⟨A9, c9, t + 1, rfl, by go_num, by omega, OQ9, G9⟩
                    case measure => (first | (simp [intOf]; done) | (simp [intOf]; omega))
                  obtain rfl : t = ek := by omega
                  have t1 : ¬ (t : Int) < (t : Int) := by omega
                  have O14 := Lib.hid (ownsRow_of O13.out (W' := w14) (fun g hg => G.out.gr.block g (O13.out.lt g hg).2 (fun e => HNE7.out g hg e.symm)))
                  have RI14 := Lib.hid (rd_grown RI13.out G.out.gr (fun g o e h => by have h1 := (HNI13.out g o e).1; have h2 := HNK7.out g h; omega))
                  have HNE14 : Hid (∀ g, (Value.slice A7 O1.length c7).ownBlock = some g → (Value.slice Aq (kk + t) cq).ownBlock ≠ some g) := Lib.hid (fun g hg hk => by
                    rcases G.out.own g hk with h | h
                    · exact HNE7.out g hg h
                    · have := HPO7.out g hg
                      omega)
                  have HNI14 : Hid (∀ g o, A4 = some ⟨g, o, none⟩ → (Value.slice A7 O1.length c7).ownBlock ≠ some g ∧ (Value.slice Aq (kk + t) cq).ownBlock ≠ some g) := Lib.hid (fun g o e => ⟨fun hg => by have h1 := (HNI13.out g o e).1; have := HPO7.out g hg; omega, fun hk => by
                    have h1 := HNI13.out g o e
                    rcases G.out.own g hk with h | h
                    · have := HNK7.out g h; omega
                    · omega⟩)
                  clear O13 OK13 RI13 HNE7 HNI13 G B13
                  have hjw : IntKind.i64.wrap ((j : Int) + 1) = (j : Int) + 1 := IntWalk.i64_in _ (by omega)
                  have hpw : IntKind.i64.wrap ((kk : Int) + (p : Int)) = (kk : Int) + (p : Int) := IntWalk.i64_in _ (by omega)
                  go_wp2_with fail
                  go_roundw
                  case rel => exact ⟨A7, c7, A4, c4, Aq, cq, kk + t, j + 1, kk + p, O1, I1, rfl, rfl, rfl, by go_num, by go_num, by omega, by omega, Lib.hid ⟨HEQ2.out, HOE.out, HI1b.out.symm, HKM.out, HJN.out⟩, O14, RI14, OQ, HNE14, HNI14, BG⟩
                  case measure => (first | (simp [intOf]; done) | (simp [intOf]; omega))
              · exact AllReadyH.nil
            · exact AllReadyH.nil
          · exact AllReadyH.nil
        · exact AllReadyH.nil
      have hjn : j = nch p l := by
        have h1 := HEQ.out.2.2.2.2
        by_cases h : j < nch p l
        · have h2 := (nch_lt (p := p) (by omega) l j).1 h
          rw [← HEQ.out.1, HL.out] at h2
          omega
        · omega
      have hki : i = kk := by have := HEQ.out.2.2.2.1; omega
      subst hki
      have hkl : (keysE l).length = i := by unfold keysE; rw [List.length_map, HL.out]
      have OKY : Hid (w4.ownsRow w3.heap.size 9 1 (.slice Ak i ck) i (sv (keysE l))) := Lib.hid (by
        have h := OK.out
        rwa [List.take_of_length_le (by rw [hkl]; exact Nat.le_refl _)] at h)
      have hksz : ∀ s ∈ keysE l, s.size ≤ 9223372036854775807 := fun s hs => by
        obtain ⟨x, hx, rfl⟩ := List.mem_map.1 hs
        have := (okE_b (HOK.out x hx)).2.2.2.1
        omega
      have hkl2 : (keysE l).length = i := by omega
      have hnk : j ≤ 150 := by
        have := nch_le hp.1 l
        have := HL.out
        omega
      have hol : O0.length ≤ 150 * 400012 := by rw [HEQ.out.2.1]; exact Nat.le_trans (outP_len p l j) (by omega)
      have hil : I0.length ≤ 150 * 550 := by
        have h1 := idxP_len (p := p) (l := l) hp.1 HOK.out j (by omega)
        rw [← HEQ.out.2.2.1] at h1
        omega
      have HKB : Hid (i * b ≤ 2400) := Lib.hid (Nat.le_trans (Nat.mul_le_mul (show i ≤ 150 by omega) hbt.2) (by decide))
      have HBLD : Hid (bldB p b l = O0 ++ frameL (fltB b l) ++ frameL (uv j ++ I0) ++ frameL (le8 O0.length ++ le8 (O0.length + (frameL (fltB b l)).length) ++ le8 l.length)) := Lib.hid (by
        rw [HEQ.out.2.1, HEQ.out.2.2.1, hjn]
        rfl)
      have BQ4 := Lib.hid (B3.out.trans (B4.out.mono B3.out.size))
      have HLK : Hid (l.length = i) := Lib.hid HL.out
      have i1 : ¬ (i0 : Int) < (i : Int) := by omega
      clear hjn hkl OK HRIS HEQ
      go_wp2_with fail
      refine (rof_any Ak i ck w4.heap.size (keysE l) hkl2 (by omega) hksz b hbt.1 hbt.2 w4 (own_rdL OKY.out) (Nat.le_refl _)).mono ?_
      rintro r w5 ⟨v5, rfl, own5, hb⟩
      obtain ⟨FL, A5, c5, hFL, rfl, o5, r5⟩ := nxB (base' := w4.heap.size) (b := []) (ys := bof (brounds b) (bsize i b) (bl (keysE l))) own5 (by simp) (Nat.le_refl _)
      have HFL : Hid (fltB b l = FL) := Lib.hid (by rw [hFL]; unfold fltB; rw [HLK.out]; rfl)
      have hfll : FL.length ≤ 400 := by
        rw [hFL, List.nil_append, bof_length]
        have := HKB.out
        unfold bsize
        omega
      have RF5 := Lib.hid r5
      have z45 := hb.size
      have B5 := Lib.hid (B4.out.trans (hb.mono hz34))
      have OO5 := Lib.hid (own_keep OO.out hb (Nat.le_refl _))
      have RI5 := Lib.hid ((RI.out.below hb).more hb.size)
      clear own5 o5 r5 hFL hb OKY OO RI B4 HNE HNI HKB hksz hkl2
      have hju : IntKind.u64.wrap (j : Int) = (j : Int) := IntWalk.u64_in _ (by omega)
      go_wp2_with fail
      refine (rbytes_any j w5 (by omega)).mono ?_
      rintro r w6 ⟨v6, rfl, own6, hb⟩
      obtain ⟨J1, A6, c6, hJ1, rfl, o6, r6⟩ := nxB (base' := w5.heap.size) (b := []) (ys := uv j) own6 (by simp) (Nat.le_refl _)
      have hj1 : J1.length ≤ 10 := by
        have := uv_len10 (x := j) (by omega)
        rw [hJ1, List.length_append]
        simpa using this
      have HJ1 : Hid (J1 = uv j) := Lib.hid (by rw [hJ1]; rfl)
      have OJ6 := Lib.hid o6
      have z56 := hb.size
      have HB6 := Lib.hid hb
      have RI6 := Lib.hid ((RI5.out.below hb).more hb.size)
      clear own6 o6 r6 hJ1 hb RI5
      go_upto_region 33 with (at_builtin; refine wpList_app sty22 (.tmp 138) (.tmp 139) rfl rfl w5.heap.size OJ6.out rfl I0.length ci RI6.out rfl (by rw [bv_length, Nat.mul_one]) (bv_one _) (by unfold maxLen; omega) (by omega) z56 ?_; intro v7 w7 own7 gr7 nil7 at7; obtain ⟨X0, A7, c7, hX0, rfl, o7, r7⟩ := nxB (base' := w5.heap.size) (b := J1) (ys := I0) own7 (by rw [bv_append]) (Nat.le_refl _); have HX0 := Lib.hid hX0; have hx0 : X0.length ≤ I0.length + 10 := (by rw [hX0, List.length_append]; omega); clear hX0)
      have b7 : Below w5.heap.size w5 w7 := HB6.out.grown gr7 z56 (fun g e => (OJ6.out.lt g e).1)
      have OX7 := Lib.hid o7
      have HNO : Hid (∀ g, (Value.slice Ao O0.length co).ownBlock = some g → g < w5.heap.size) := Lib.hid (fun g hg => (OO5.out.lt g hg).2)
      have z57 := b7.size
      have B7 := Lib.hid (B5.out.trans (b7.mono (by omega)))
      have OO7 := Lib.hid (own_keep OO5.out b7 (Nat.le_refl _))
      have RF7 := Lib.hid ((RF5.out.below b7).more b7.size)
      clear own7 gr7 nil7 at7 o7 r7 b7 OJ6 HB6 OO5 RF5 B5 RI6
      have i5 : ¬ (FL.length : Int) > 1048576 := by omega
      have i6 : ¬ (X0.length : Int) > 1048576 := by omega
      go_wp2_with fail
      have z37 : w3.heap.size ≤ w7.heap.size := by omega
      refine (rframe_any A5 FL.length c5 w7.heap.size FL rfl (by omega) w7 RF7.out (Nat.le_refl _)).mono ?_
      rintro r w8 ⟨v8, rfl, own8, hb⟩
      obtain ⟨FF, A8, c8, hFF, rfl, o8, r8⟩ := nxB (base' := w7.heap.size) (b := []) (ys := frameL FL) own8 (by simp) (Nat.le_refl _)
      have HFF : Hid (FF = frameL FL) := Lib.hid (by rw [hFF]; rfl)
      have hffl : FF.length ≤ 412 := by rw [HFF.out, frameL_length]; omega
      have RFF := Lib.hid r8
      have OO8 := Lib.hid (own_keep OO7.out hb (Nat.le_refl _))
      have OX8 := Lib.hid (own_keep OX7.out hb (Nat.le_refl _))
      have z38 : w3.heap.size ≤ w8.heap.size := by have := hb.size; omega
      have B8 := Lib.hid (B7.out.trans (hb.mono z37))
      clear own8 hFF o8 r8 hb OO7 OX7 B7 RF7
      go_upto_region 37 with (at_builtin; refine wpList_app sty22 (.tmp 151) (.tmp 153) rfl rfl w3.heap.size OO8.out rfl FF.length c8 RFF.out rfl (by rw [bv_length, Nat.mul_one]) (bv_one _) (by unfold maxLen; omega) (by omega) z38 ?_; intro v9 w9 own9 gr9 nil9 at9; obtain ⟨O1, A9, c9, hO1, rfl, o9, -⟩ := nxB (base' := w3.heap.size) (b := O0) (ys := FF) own9 (by rw [bv_append]) (Nat.le_refl _); have HO1 := Lib.hid hO1; have ho1 : O1.length ≤ O0.length + FF.length := (by rw [hO1, List.length_append]; exact Nat.le_refl _); clear hO1)
      have z39 : w3.heap.size ≤ w9.heap.size := Nat.le_trans z38 gr9.size
      have b89 : Below w3.heap.size w8 w9 := (Below.refl _ _).grown gr9 z38 (fun g e => (OO8.out.lt g e).1)
      have OX9 := Lib.hid (ownsRow_of OX8.out (W' := w9) (fun g hg => gr9.block g (OX8.out.lt g hg).2 (fun e => by have h1 := HNO.out g e.symm; have h2 := (OX8.out.lt g hg).1; omega)))
      have OO9 := Lib.hid o9
      have B9 := Lib.hid (B8.out.trans b89)
      clear own9 gr9 nil9 at9 o9 b89 OO8 OX8 B8 RFF
      go_wp2_with fail
      refine (rframe_any A7 X0.length c7 w9.heap.size X0 rfl (by omega) w9 (own_rdL OX9.out) (Nat.le_refl _)).mono ?_
      rintro r w10 ⟨v10, rfl, own10, hb⟩
      obtain ⟨FX, A10, c10, hFX, rfl, o10, r10⟩ := nxB (base' := w9.heap.size) (b := []) (ys := frameL X0) own10 (by simp) (Nat.le_refl _)
      have HFX : Hid (FX = frameL X0) := Lib.hid (by rw [hFX]; rfl)
      have hfxl : FX.length ≤ X0.length + 12 := by rw [HFX.out, frameL_length]; exact Nat.le_refl _
      have RFX := Lib.hid r10
      have OO10 := Lib.hid (own_keep OO9.out hb (Nat.le_refl _))
      have z310 : w3.heap.size ≤ w10.heap.size := by have := hb.size; omega
      have B10 := Lib.hid (B9.out.trans (hb.mono z39))
      clear own10 hFX o10 r10 hb OO9 OX9 B9
      go_wp2_with (at_builtin; refine wpList_app sty22 (.tmp 157) (.tmp 159) rfl rfl w3.heap.size OO10.out rfl FX.length c10 RFX.out rfl (by rw [bv_length, Nat.mul_one]) (bv_one _) (by unfold maxLen; omega) (by omega) z310 ?_; intro v11 w11 own11 gr11 nil11 at11; obtain ⟨O2, A11, c11, hO2, rfl, o11, -⟩ := nxB (base' := w3.heap.size) (b := O1) (ys := FX) own11 (by rw [bv_append]) (Nat.le_refl _); have HO2 := Lib.hid hO2; have ho2 : O2.length ≤ O1.length + FX.length := (by rw [hO2, List.length_append]; exact Nat.le_refl _); clear hO2)
      have z311 : w3.heap.size ≤ w11.heap.size := Nat.le_trans z310 gr11.size
      have b1011 : Below w3.heap.size w10 w11 := (Below.refl _ _).grown gr11 z310 (fun g e => (OO10.out.lt g e).1)
      have OO11 := Lib.hid o11
      have HNP0 : Hid (∀ g, (Value.slice A11 O2.length c11).ownBlock = some g → g < w11.heap.size) := Lib.hid (fun g hg => (o11.lt g hg).2)
      have B11 := Lib.hid (B10.out.trans b1011)
      clear own11 gr11 nil11 at11 o11 b1011 OO10 B10 RFX
      refine (reight_any O0.length (by omega) w11).mono ?_
      rintro r w12 ⟨v12, rfl, own12, hb⟩
      obtain ⟨E1, A12, c12, hE1, rfl, o12, -⟩ := nxB (base' := w11.heap.size) (b := []) (ys := le8 O0.length) own12 (by simp) (Nat.le_refl _)
      have HE1 : Hid (E1 = le8 O0.length) := Lib.hid (by rw [hE1]; rfl)
      have he1l : E1.length ≤ 8 := by rw [HE1.out]; exact Nat.le_refl _
      have OE12 := Lib.hid o12
      have OO12 := Lib.hid (own_keep OO11.out hb (Nat.le_refl _))
      have z312 : w3.heap.size ≤ w12.heap.size := by have := hb.size; omega
      have z1112 := hb.size
      have B12 := Lib.hid (B11.out.trans (hb.mono z311))
      clear own12 hE1 o12 hb OO11 B11
      go_wp2_with fail
      refine (reight_any O1.length (by omega) w12).mono ?_
      rintro r w13 ⟨v13, rfl, own13, hb⟩
      obtain ⟨E2, A13, c13, hE2, rfl, -, r13⟩ := nxB (base' := w12.heap.size) (b := []) (ys := le8 O1.length) own13 (by simp) (Nat.le_refl _)
      have HE2 : Hid (E2 = le8 O1.length) := Lib.hid (by rw [hE2]; rfl)
      have he2l : E2.length ≤ 8 := by rw [HE2.out]; exact Nat.le_refl _
      have RE13 := Lib.hid r13
      have OE13 := Lib.hid (own_keep OE12.out hb (Nat.le_refl _))
      have OO13 := Lib.hid (own_keep OO12.out hb (Nat.le_refl _))
      have z313 : w3.heap.size ≤ w13.heap.size := by have := hb.size; omega
      have z1113 : w11.heap.size ≤ w13.heap.size := by have := hb.size; omega
      have B13 := Lib.hid (B12.out.trans (hb.mono z312))
      have HNP : Hid (∀ g, (Value.slice A11 O2.length c11).ownBlock = some g → g < w11.heap.size) := Lib.hid HNP0.out
      clear own13 hE2 r13 hb OE12 OO12 B12
      go_wp2_with (at_builtin; refine wpList_app sty22 (.tmp 163) (.tmp 165) rfl rfl w11.heap.size OE13.out rfl E2.length c13 RE13.out rfl (by rw [bv_length, Nat.mul_one]) (bv_one _) (by unfold maxLen; omega) (by omega) z1113 ?_; intro v14 w14 own14 gr14 nil14 at14; obtain ⟨E3, A14, c14, hE3, rfl, o14, -⟩ := nxB (base' := w11.heap.size) (b := E1) (ys := E2) own14 (by rw [bv_append]) (Nat.le_refl _); have HE3 := Lib.hid hE3; have he3l : E3.length ≤ E1.length + E2.length := (by rw [hE3, List.length_append]; exact Nat.le_refl _); clear hE3)
      have b1314 : Below w11.heap.size w13 w14 := (Below.refl _ _).grown gr14 z1113 (fun g e => (OE13.out.lt g e).1)
      have OE14 := Lib.hid o14
      have OO14 := Lib.hid (ownsRow_of OO13.out (W' := w14) (fun g hg => b1314.block g (HNP.out g hg)))
      have z1114 : w11.heap.size ≤ w14.heap.size := Nat.le_trans z1113 b1314.size
      have B14 := Lib.hid (B13.out.trans (b1314.mono z311))
      clear own14 gr14 nil14 at14 o14 b1314 OE13 OO13 B13 RE13
      refine (reight_any i (by omega) w14).mono ?_
      rintro r w15 ⟨v15, rfl, own15, hb⟩
      obtain ⟨E4, A15, c15, hE4, rfl, -, r15⟩ := nxB (base' := w14.heap.size) (b := []) (ys := le8 i) own15 (by simp) (Nat.le_refl _)
      have HE4 : Hid (E4 = le8 i) := Lib.hid (by rw [hE4]; rfl)
      have he4l : E4.length ≤ 8 := by rw [HE4.out]; exact Nat.le_refl _
      have RE15 := Lib.hid r15
      have OE15 := Lib.hid (own_keep OE14.out hb (Nat.le_refl _))
      have OO15 := Lib.hid (own_keep OO14.out hb (Nat.le_refl _))
      have z1115 : w11.heap.size ≤ w15.heap.size := Nat.le_trans z1114 hb.size
      have B15 := Lib.hid (B14.out.trans (hb.mono (by omega)))
      clear own15 hE4 r15 hb OE14 OO14 B14
      go_wp2_with (at_builtin; refine wpList_app sty22 (.tmp 166) (.tmp 169) rfl rfl w11.heap.size OE15.out rfl E4.length c15 RE15.out rfl (by rw [bv_length, Nat.mul_one]) (bv_one _) (by unfold maxLen; omega) (by omega) z1115 ?_; intro v16 w16 own16 gr16 nil16 at16; obtain ⟨E5, A16, c16, hE5, rfl, o16, r16⟩ := nxB (base' := w11.heap.size) (b := E3) (ys := E4) own16 (by rw [bv_append]) (Nat.le_refl _); have HE5 := Lib.hid hE5; have he5l : E5.length ≤ E3.length + E4.length := (by rw [hE5, List.length_append]; exact Nat.le_refl _); clear hE5)
      have b1516 : Below w11.heap.size w15 w16 := (Below.refl _ _).grown gr16 z1115 (fun g e => (OE15.out.lt g e).1)
      have RE16 := Lib.hid r16
      have OO16 := Lib.hid (ownsRow_of OO15.out (W' := w16) (fun g hg => b1516.block g (HNP.out g hg)))
      have z1116 : w11.heap.size ≤ w16.heap.size := Nat.le_trans z1115 b1516.size
      have B16 := Lib.hid (B15.out.trans (b1516.mono z311))
      clear own16 gr16 nil16 at16 o16 r16 b1516 OE15 OO15 B15 RE15
      refine (rframe_any A16 E5.length c16 w16.heap.size E5 rfl (by omega) w16 RE16.out (Nat.le_refl _)).mono ?_
      rintro r w17 ⟨v17, rfl, own17, hb⟩
      obtain ⟨FE, A17, c17, hFE, rfl, -, r17⟩ := nxB (base' := w16.heap.size) (b := []) (ys := frameL E5) own17 (by simp) (Nat.le_refl _)
      have HFE : Hid (FE = frameL E5) := Lib.hid (by rw [hFE]; rfl)
      have hfel : FE.length ≤ E5.length + 12 := by rw [HFE.out, frameL_length]; exact Nat.le_refl _
      have RFE := Lib.hid r17
      have OO17 := Lib.hid (own_keep OO16.out hb (Nat.le_refl _))
      have z317 : w3.heap.size ≤ w17.heap.size := by have := hb.size; omega
      have B17 := Lib.hid (B16.out.trans (hb.mono (by omega)))
      clear own17 hFE r17 hb OO16 B16 RE16
      go_wp2_with (at_builtin; refine wpList_app sty22 (.tmp 161) (.tmp 171) rfl rfl w3.heap.size OO17.out rfl FE.length c17 RFE.out rfl (by rw [bv_length, Nat.mul_one]) (bv_one _) (by unfold maxLen; omega) (by omega) z317 ?_; intro v18 w18 own18 gr18 nil18 at18; obtain ⟨O3, A18, c18, hO3, rfl, o18, r18⟩ := nxB (base' := w3.heap.size) (b := O2) (ys := FE) own18 (by rw [bv_append]) (Nat.le_refl _); have HO3 := Lib.hid hO3; clear hO3)
      have b1718 : Below w3.heap.size w17 w18 := (Below.refl _ _).grown gr18 z317 (fun g e => (OO17.out.lt g e).1)
      have R18 := Lib.hid r18
      have B18 := Lib.hid (B17.out.trans b1718)
      have HS3 : Hid (bldB p b l = O3) := Lib.hid (by
        rw [HBLD.out, HFL.out, HLK.out, HO3.out, HFE.out, HE5.out, HE3.out, HE1.out, HE2.out, HE4.out, HO2.out, HFX.out, HX0.out, HJ1.out, HO1.out, HFF.out, List.length_append])
      clear own18 gr18 nil18 at18 o18 r18 b1718 OO17 B17 RFE
      go_ret2
      rw [SE.out.1, SE.out.2, HS3.out]
      exact ⟨A18, c18, rfl, R18.out, B3.out.trans (B18.out.mono B3.out.size)⟩
end Go.Proofs.Ytdmpimgbnhgiaaa
