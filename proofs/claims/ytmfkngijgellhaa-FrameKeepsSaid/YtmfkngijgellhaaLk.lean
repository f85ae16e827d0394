/- The walk of the law FrameKeeps: it returns true. -/
import Derived.Test.YtmfkngijgellhaaLj
import Derived.Test.YtmfkngijgellhaaLh
import Derived.Test.YtmfkngijgellhaaZ
import Derived.Test.YtmfkngijgellhaaCut
namespace Go.Proofs.Ytmfkngijgellhaa
open Go.RowKit Go.St
set_option linter.unusedVariables false

theorem frame_at (l : List (List UInt8)) (k : Nat) (hk : k < l.length) : ((framesL l).drop (endAt l k)).take (l[k].length + 12) = frameL l[k] := by
  rw [frames_drop, List.drop_eq_getElem_cons hk, framesL_cons, List.take_left' (frameL_length _)]

set_option maxHeartbeats 2000000 in
theorem frameKeeps_walk (w : World) (v0 : Value) (y0 : RowsArg w 140737488351232 v0) (a1 : Int) (w1 : (Lit.int .i64 a1).wf = true) (a2 : Int) (w2 : (Lit.int .i64 a2).wf = true) (a3 : Int) (w3 : (Lit.int .u32 a3).wf = true) :
    Calls Try.prog 14 #[v0, .int .i64 a1, .int .i64 a2, .int .u32 a3] w fun e w' => e = .returned (.bool true) ∧ Below w.heap.size w w' := by
  obtain ⟨A0, n0, c0, l, rfl, hl, hc, hcN, hrr⟩ := y0
  have hb3 : 0 ≤ a3 ∧ a3 ≤ 4294967295 := by simpa [Lit.wf, IntKind.min, IntKind.max, IntKind.signed, IntKind.bits] using w3
  have ha : -9223372036854775808 ≤ a2 ∧ a2 ≤ 9223372036854775807 := by simpa [Lit.wf, IntKind.min, IntKind.max, IntKind.signed, IntKind.bits] using w2
  obtain ⟨t, rfl⟩ := Int.eq_ofNat_of_zero_le hb3.1
  have ht : t < 4294967296 := by omega
  have ha2 := ha.2
  have H0 := Lib.hid hl; clear hl
  have R0 := Lib.hid hrr; clear hrr
  have WA := Lib.hid w1; clear w1 w2 w3 hb3 ha
  go_enter Try.func14, Try.ntmps14
  go_wp2_with fail
  refine (lives3_any _).mono ?_
  rintro e w1 ⟨rfl, hb1⟩
  have S1 := hb1.size
  have R1 := Lib.hid (R0.out.below hb1)
  clear R0
  go_wp2_with fail
  refine (small_any A0 n0 c0 _ l H0.out (by omega) _ R1.out).mono ?_
  rintro e w' ⟨rfl, rfl⟩
  cases hsm : smallB l with
  | false =>
    go_wp2
    go_ret
    exact ⟨rfl, hb1⟩
  | true =>
    by_cases hz0 : n0 = 0
    · have ez : ((n0 : Int) == 0) = true := by rw [beq_iff_eq]; omega
      clear hz0
      go_wp2
      go_ret
      exact ⟨rfl, hb1⟩
    have ez0 : ((n0 : Int) == 0) = false := by rw [beq_eq_false_iff_ne]; omega
    by_cases hz : t = 0
    · have ez : (((t : Nat) : Int) == 0) = true := by subst hz; rfl
      clear hz
      go_wp2
      go_ret
      exact ⟨rfl, hb1⟩
    have ez : (((t : Nat) : Int) == 0) = false := by rw [beq_eq_false_iff_ne]; omega
    have HZ := Lib.hid hz; clear hz
    obtain ⟨hs, hl40⟩ := smallB_iff hsm
    rw [H0.out] at hl40
    have HS := Lib.hid hs; clear hs hsm
    go_wp2_with fail
    refine (rows_any A0 n0 c0 _ l H0.out hl40 HS.out _ R1.out S1).mono ?_
    rintro e w2 ⟨V, E, rfl, hV, hE, hb2⟩
    have HB2 : Hid (Below w.heap.size w w2) := hb1.trans (hb2.mono S1)
    have S2 := hb2.size
    have R2 := Lib.hid (R1.out.below (hb2.mono S1))
    have hN := endAt_bound l HS.out l.length (Nat.le_refl _)
    rw [endAt_all] at hN
    have hN : (framesL l).length ≤ 20000 := by have := H0.out; omega
    obtain ⟨A5, c5, rfl, hn5, _, rd5⟩ := own_rd4 hV
    have hE' : ∃ A6 c6, E = .slice A6 n0 c6 ∧ Rd w2 w2.heap.size A6 (endsV l n0) := own_rd hE
    obtain ⟨A6, c6, rfl, rd6⟩ := hE'
    have D5 := Lib.hid rd5
    have D6 := Lib.hid rd6
    clear rd5 rd6 hV hE R1 hb1 hb2 ez
    obtain ⟨N, hNeq⟩ : ∃ N, (framesL l).length = N := ⟨_, rfl⟩
    rw [hNeq] at hN hn5
    have HNE := Lib.hid hNeq
    rw [hNeq]
    clear hNeq
    go_wp2_with fail
    refine (pick_at a1 _ WA.out n0 rfl (by omega) (by omega) _).mono ?_
    rintro e w' ⟨k, hk, rfl, rfl⟩
    clear ez0
    have hkl : k < l.length := by rw [H0.out]; exact hk
    obtain ⟨x, hx⟩ : ∃ x, l[k] = x := ⟨_, rfl⟩
    have he1 := endAt_succ l k hkl
    have he2 := endAt_le l (k + 1)
    rw [HNE.out] at he2
    have hfr := frame_at l k hkl
    have hxs := HS.out _ (List.getElem_mem hkl)
    obtain ⟨b0, o0, Ai, ci, rfl, hb0, hc0, h1, h2, hri⟩ := R2.out.at_ hkl
    rw [hx] at he1 hfr hxs hc0 h1
    obtain ⟨b6, o6, rfl, hb6, hc6⟩ := D6.out.at_ (endsV_get l n0 k hk)
    obtain ⟨b5, o5, rfl, hb5, _⟩ := D5.out.at_ (bv_get (framesL l) 0 (by rw [HNE.out]; omega))
    obtain ⟨m, hm⟩ : ∃ m, x.length = m := ⟨_, rfl⟩
    obtain ⟨p, hp⟩ : ∃ p, endAt l k = p := ⟨_, rfl⟩
    obtain ⟨q, hq⟩ : ∃ q, endAt l (k + 1) = q := ⟨_, rfl⟩
    rw [hm] at he1 hfr hxs hc0 h1
    rw [hp] at he1 hfr
    rw [hq] at he1 he2 hc6
    have HX := Lib.hid hx
    have HM := Lib.hid hm
    have HP := Lib.hid hp
    have HQ := Lib.hid hq
    have HFR := Lib.hid hfr
    have q1 : q ≤ p + m + 12 := by omega
    have q2 : p + m + 12 ≤ q := by omega
    clear hx hm hp hq hfr hri he1
    have j0 : (0 : Int) ≤ (k : Int) := by omega
    have j1 : (k : Int) < (n0 : Int) := by omega
    go_wp2
    go_quiet (fail)
    have ef : (q : Int) - (m : Int) - 12 = (p : Int) := by omega
    rw [ef]
    have p0 : (0 : Int) ≤ (p : Int) := by omega
    have p1 : (p : Int) ≤ (q : Int) := by omega
    have p2 : (q : Int) ≤ (c5 : Int) := by omega
    go_wp2_with fail
    have en : q - p = m + 12 := by omega
    rw [en]
    have DX : Hid (Rd (w2.drewN nq) w2.heap.size (some ⟨b5, o5 + p, none⟩) (bv (frameL x))) := by
      have := (rd_from (q := p) D5.out HNE.out hn5 (by omega)).take (m + 12)
      rw [bv, ← List.map_take, HFR.out] at this
      exact this
    have hfx : (frameL x).length = m + 12 := by rw [frameL_length, HM.out]
    have HFX := Lib.hid hfx; clear hfx
    have HBD : Hid (Below w.heap.size w (w2.drewN nq)) := ⟨HB2.out.os, HB2.out.tape, HB2.out.output, HB2.out.size, HB2.out.block⟩
    refine (burst_any _ (m + 12) (c5 - p) w2.heap.size (frameL x) HFX.out (by omega) a2 ha2 t ht (w2.drewN nq) DX.out (Nat.le_refl w2.heap.size)).mono ?_
    rintro e w3 ⟨V3, rfl, own3, hb3⟩
    have hb3 : Below w2.heap.size (w2.drewN nq) w3 := hb3
    have own3 : w3.ownsRow w2.heap.size 5 1 V3 (burstL (frameL x) a2 t).length (bv (burstL (frameL x) a2 t)) := own3
    have HB3 : Hid (Below w.heap.size w w3) := HBD.out.trans (hb3.mono (by omega))
    have S3 : w2.heap.size ≤ w3.heap.size := hb3.size
    have hc63 : w3.cell? ⟨b6, o6 + k, none⟩ = some (.int .i64 (q : Int)) := (hb3.cell hb6).trans hc6
    have D53 : Hid (Rd w3 w2.heap.size (some ⟨b5, o5, none⟩) (bv (framesL l))) := (show Rd (w2.drewN nq) _ _ _ from D5.out).below hb3
    have R3 : Hid (RR w3 w.heap.size (some ⟨b0, o0, none⟩) l) := (show RR (w2.drewN nq) _ _ _ from R2.out).below (hb3.mono (by omega))
    cases hok : burstOK (m + 12) a2 t with
    | false =>
      rw [show burstE (m + 12) a2 t = 2 by unfold burstE; rw [hok]; rfl]
      have n2 : ((2 : Int) != 0) = true := rfl
      go_wp2
      go_ret
      exact ⟨rfl, HB3.out⟩
    | true =>
      rw [show burstE (m + 12) a2 t = 0 by unfold burstE; rw [hok]; rfl]
      have hlen : (burstL (frameL x) a2 t).length = m + 12 := by unfold burstL; rw [HFX.out, if_pos hok, CrcM.turnTo_length, HFX.out]
      have hE : ∀ y, readE (burstL (frameL x) a2 t ++ y) = 6 := fun y => altered_read x y (by rw [HM.out]; omega) a2 t ht HZ.out (by rw [HFX.out]; exact hok)
      rw [hlen] at own3
      obtain ⟨A3, c3, rfl, _, _, rd3⟩ := own_rd4 own3
      have D3 := Lib.hid rd3; clear rd3 own3
      have HLEN := Lib.hid hlen; clear hlen
      have HE := Lib.hid hE; clear hE hok
      have n0' : ((0 : Int) != 0) = false := rfl
      clear hc6 hc0 hb3
      have htp : ((framesL l).take p).length = p := by rw [List.length_take, HNE.out]; omega
      have HTP := Lib.hid htp; clear htp
      have DT : Hid (Rd w3.drew w2.heap.size (some ⟨b5, o5, none⟩) (bv ((framesL l).take p))) := by
        have := D53.out.take p
        rw [bv, ← List.map_take] at this
        exact this
      have p3 : (p : Int) ≤ (c5 : Int) := by omega
      have q0 : (0 : Int) ≤ (q : Int) := by omega
      have q3 : (q : Int) ≤ (N : Int) := by omega
      have hN0 : ¬ q = 0 := by omega
      go_wp2
      refine wp_heldcut (S := fun W => W.cell? ⟨b6, o6 + k, none⟩ = some (.int .i64 (q : Int))) 12 (by kernel_rfl) (by kernel_rfl) (show w3.drew.cell? _ = _ from hc63) (fun hHeld => ?_)
      simp only [List.take_succ_cons, List.take_zero]
      refine takeL (i := 0) (v := ?_) rfl (by kernel_rfl) (by kernel_rfl) (by kernel_rfl) (fun _ _ _ h => h) ⟨by rfl, ?_⟩ (by assumption) ?_
      rotate_left
      · intro W9 hSw
        (try dsimp only at hSw)
        go_simp
        try with_reducible rfl
      (try simp only [Act.put, List.setIfInBounds_toArray, List.set_cons_zero, List.set_cons_succ])
      refine takeL (i := 1) (v := ?_) rfl (by kernel_rfl) (by kernel_rfl) (by kernel_rfl) (fun _ _ _ h => h) ⟨by rfl, ?_⟩ (by assumption) ?_
      rotate_left
      · intro W9 hSw
        (try dsimp only at hSw)
        go_simp
        try with_reducible rfl
      (try simp only [Act.put, List.setIfInBounds_toArray, List.set_cons_zero, List.set_cons_succ])
      refine takeL (i := 2) (v := ?_) rfl (by kernel_rfl) (by kernel_rfl) (by kernel_rfl) (fun _ _ _ h => h) ⟨by rfl, ?_⟩ (by assumption) ?_
      rotate_left
      · intro W9 hSw
        (try dsimp only at hSw)
        go_simp
        try with_reducible rfl
      (try simp only [Act.put, List.setIfInBounds_toArray, List.set_cons_zero, List.set_cons_succ])
      refine takeL (i := 4) (v := ?_) rfl (by kernel_rfl) (by kernel_rfl) (by kernel_rfl) (fun _ _ _ h => h) ⟨by rfl, ?_⟩ (by assumption) ?_
      rotate_left
      · intro W9 hSw
        (try dsimp only at hSw)
        go_simp
        try with_reducible rfl
      (try simp only [Act.put, List.setIfInBounds_toArray, List.set_cons_zero, List.set_cons_succ])
      refine takeL (i := 6) (v := ?_) rfl (by kernel_rfl) (by kernel_rfl) (by kernel_rfl) (fun _ _ _ h => h) ⟨by rfl, ?_⟩ (by assumption) ?_
      rotate_left
      · intro W9 hSw
        (try dsimp only at hSw)
        go_simp
        try with_reducible rfl
      (try simp only [Act.put, List.setIfInBounds_toArray, List.set_cons_zero, List.set_cons_succ])
      refine takeL (i := 7) (v := ?_) rfl (by kernel_rfl) (by kernel_rfl) (by kernel_rfl) (fun _ _ _ h => h) ⟨by rfl, ?_⟩ (by assumption) ?_
      rotate_left
      · intro W9 hSw
        (try dsimp only at hSw)
        go_simp
        try with_reducible rfl
      (try simp only [Act.put, List.setIfInBounds_toArray, List.set_cons_zero, List.set_cons_succ])
      refine takeL (i := 8) (v := ?_) rfl (by kernel_rfl) (by kernel_rfl) (by kernel_rfl) (fun _ _ _ h => h) ⟨by rfl, ?_⟩ (by assumption) ?_
      rotate_left
      · intro W9 hSw
        (try dsimp only at hSw)
        go_simp
        try with_reducible rfl
      (try simp only [Act.put, List.setIfInBounds_toArray, List.set_cons_zero, List.set_cons_succ])
      refine takeL (i := 9) (v := ?_) rfl (by kernel_rfl) (by kernel_rfl) (by kernel_rfl) (fun _ _ _ h => h) ⟨by rfl, ?_⟩ (by assumption) ?_
      rotate_left
      · intro W9 hSw
        (try dsimp only at hSw)
        go_simp
        try with_reducible rfl
      (try simp only [Act.put, List.setIfInBounds_toArray, List.set_cons_zero, List.set_cons_succ])
      refine takeL (i := 10) (v := ?_) rfl (by kernel_rfl) (by kernel_rfl) (by kernel_rfl) (fun _ _ _ h => h) ⟨by rfl, ?_⟩ (by assumption) ?_
      rotate_left
      · intro W9 hSw
        (try dsimp only at hSw)
        go_simp
        try with_reducible rfl
      (try simp only [Act.put, List.setIfInBounds_toArray, List.set_cons_zero, List.set_cons_succ])
      refine takeL (i := 11) (v := ?_) rfl (by kernel_rfl) (by kernel_rfl) (by kernel_rfl) (fun _ _ _ h => h) ⟨by rfl, ?_⟩ (by assumption) ?_
      rotate_left
      · intro W9 hSw
        (try dsimp only at hSw)
        go_simp
        try with_reducible rfl
      (try simp only [Act.put, List.setIfInBounds_toArray, List.set_cons_zero, List.set_cons_succ])
      have hX := hHeld
      clear hHeld
      refine wpAnyH_ready (rs := [3]) (by kernel_rfl) (by simp) ?_
      refine consL rfl (by rfl) (fun K hK => ?_) ?_
      · go_simp
        go_at_call 44
        refine (copy_any (some ⟨b5, o5, none⟩) p c5 w2.heap.size ((framesL l).take p) HTP.out (by omega) w3.drew DT.out S3).mono ?_
        rintro e w7 ⟨V7, rfl, own7, hb7, _⟩
        have own7 : w7.ownsRow w3.heap.size 5 1 V7 p (bv ((framesL l).take p)) := own7
        have hb7 : Below w3.heap.size w3 w7 := (Below.refl _ _).drew.trans hb7
        have hk7 : w7.cell? ⟨b6, o6 + k, none⟩ = some (.int .i64 (q : Int)) := (hb7.cell (show b6 < w3.heap.size by omega)).trans hc63
        refine hK.out _ _ hk7 (fun _ => ?_)
        clear hK K
        refine wpAnyH_ready (rs := [5]) (by kernel_rfl) (by simp) ?_
        refine consL rfl (by rfl) (fun K hK => ?_) ?_
        · refine wp_app sty22 (.tmp 74) (.tmp 75) rfl w3.heap.size own7 rfl (m + 12) c3 (D3.out.below hb7) rfl (by rw [bv_length, HLEN.out]; omega) (bv_one _) (by unfold maxLen; omega) (by omega) hb7.size ?_
          intro V8 w8 own8 gr8 nil8 at8
          have hb8 : Below w3.heap.size w3 w8 := hb7.grown gr8 hb7.size (fun g hg => (own7.lt g hg).1)
          have hk8 : w8.cell? ⟨b6, o6 + k, none⟩ = some (.int .i64 (q : Int)) := (hb8.cell (show b6 < w3.heap.size by omega)).trans hc63
          refine hK.out _ _ hk8 (fun _ => ?_)
          clear hK K
          refine wpAnyH_done (by kernel_rfl) ?_ _
          simp only [tailPost, List.drop_succ_cons, List.drop_zero]
          have D58 : Hid (Rd w8 w2.heap.size (some ⟨b5, o5, none⟩) (bv (framesL l))) := D53.out.below (hb8.mono (by omega))
          have R8 := Lib.hid (R3.out.below (hb8.mono (by omega)))
          refine wpList_app sty22 (.tmp 76) (.tmp 82) rfl rfl w3.heap.size own8 rfl (N - q) (c5 - q) (news := bv ((framesL l).drop q)) (B := w2.heap.size) ?_ rfl (by rw [bv_length, List.length_drop, HNE.out]; omega) (bv_one _) (by unfold maxLen; omega) (by omega) hb8.size ?_
          · have h9 := D58.out.drop q (cap := c5) (by rw [bv_length, HNE.out]; exact hn5)
            rw [bv, ← List.map_drop] at h9
            simpa [Addr.add, bv, hN0] using h9
          intro V9 w9 own9 gr9 nil9 at9
          have hb9 : Below w3.heap.size w3 w9 := hb8.grown gr9 hb8.size (fun g hg => (own8.lt g hg).1)
          have HB9 := Lib.hid (HB3.out.trans (hb9.mono (by omega)))
          have R9 := Lib.hid (R3.out.below (hb9.mono (by omega)))
          obtain ⟨A9, c9, rfl, hn9, _, rd9⟩ := own_rd4 own9
          obtain ⟨L, hL⟩ : ∃ L, (framesL l).take p ++ (burstL (frameL x) a2 t ++ (framesL l).drop q) = L := ⟨_, rfl⟩
          have hsc := scan_altered l (fun r hr => by have := HS.out r hr; omega) k (burstL (frameL x) a2 t) ((framesL l).drop q) (HE.out _)
          rw [← frames_take, HP.out, hL] at hsc
          have hLL : L.length = p + (m + 12) + (N - q) := by rw [← hL, List.length_append, List.length_append, HTP.out, HLEN.out, List.length_drop, HNE.out]; omega
          have D9 : Hid (Rd w9 w9.heap.size A9 (bv L)) := by
            rw [← hL, bv_append, bv_append, ← List.append_assoc]
            exact rd9
          have HSC := Lib.hid hsc
          have HLL := Lib.hid hLL
          clear hsc hLL rd9 own9 own8 own7 gr8 gr9 nil8 nil9 at8 at9 hL D58 R8
          have S9 := hb9.size
          go_wp2_with fail
          all_goals
            refine (scan_any A9 (p + (m + 12) + (N - q)) c9 w9.heap.size L HLL.out (by omega) hn9 _ D9.out (Nat.le_refl _)).mono ?_
            intro e w4 hp
            obtain ⟨V4, vs4, rfl, hr4, hb4⟩ := scPost_val HSC.out hp
            clear hp
            have hj4 : (l.take k).length = k := by rw [List.length_take, H0.out]; omega
            rw [hj4] at hr4
            obtain ⟨A4, c4, rfl, _⟩ := own_rd hr4.own
            have HB4 : Hid (Below w.heap.size w w4) := HB9.out.trans (hb4.mono (by omega))
            have R4 := Lib.hid (R9.out.below (hb4.mono (by omega)))
            have Q4 := Lib.hid (hr4.rr (fun r hr => by have := HS.out r (List.mem_of_mem_take hr); omega))
            have HJ4 := Lib.hid hj4
            clear hr4 hb4 hj4 HSC D9
            have y0 : ((6 : Int) == 6) = true := rfl
            have y1 : (((p : Nat) : Int) == ((p : Nat) : Int)) = true := by simp
            have y2 : (k : Int) ≤ (c0 : Int) := by omega
            go_wp2_with fail
            refine (sameRecords_any A4 (some ⟨b0, o0, none⟩) k c4 k c0 _ _ (l.take k) (l.take k) HJ4.out HJ4.out (by omega) _ Q4.out (R4.out.take k)).mono ?_
            rintro e w' ⟨rfl, m5, rfl⟩
            rw [decide_eq_true (rfl : l.take k = l.take k)]
            go_wp2
            go_ret
            exact ⟨rfl, ⟨HB4.out.os, HB4.out.tape, HB4.out.output, HB4.out.size, HB4.out.block⟩⟩
        exact AllReadyH.nil
      exact AllReadyH.nil
end Go.Proofs.Ytmfkngijgellhaa
