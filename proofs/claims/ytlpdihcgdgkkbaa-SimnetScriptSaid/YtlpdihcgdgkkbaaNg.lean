/- The walk of SimnetScript. -/
import Derived.Test.YtlpdihcgdgkkbaaNf
namespace Go.Proofs.Ytlpdihcgdgkkbaa
open Go.RowKit Go.St Go.Shelf
set_option linter.unusedVariables false
set_option linter.unusedSimpArgs false
set_option maxRecDepth 100000

set_option maxHeartbeats 6400000 in
theorem simnetScript_walk (w : World) (nodes : Int) (A : Option Addr) (n c : Nat) (l : List ActN) (hl : l.length = n) (hnc : n ≤ c) (hc : c ≤ 140737488351232) (hin : ∀ a ∈ l, InAn w a) (hr : Rd w w.heap.size A (l.map anCells).flatten) (stop : Int) (hst : -9223372036854775808 ≤ stop ∧ stop ≤ 9223372036854775807) :
    Calls Try.prog 11 #[.int .i64 nodes, .slice A n c, .int .i64 stop] w fun e w' => e = .returned (.bool true) ∧ Below w.heap.size w w' := by
  have HL := Lib.hid hl
  have HR := Lib.hid hr
  have HIN := Lib.hid hin
  have HSM := Lib.hid (fun W (k : Below w.heap.size w W) => small_any A n c w.heap.size l hl (by omega) (fun x hx => by have := hin x hx; exact Nat.le_trans this.2.2.2.2.1 this.2.2.2.2.2.1) W (hr.below k) k.size)
  obtain ⟨SM, hSM⟩ : ∃ SM, smallB l = SM := ⟨_, rfl⟩
  rw [hSM] at HSM
  clear hl hr hin
  go_enter Try.func11, Try.ntmps11
  go_wp2_with fail
  refine (lives25_any w).mono ?_
  rintro e w1 ⟨rfl, hb1⟩
  have B1 := Lib.hid hb1
  clear hb1
  go_wp2_with fail
  refine (HSM.out _ B1.out).mono ?_
  rintro e w' ⟨rfl, rfl⟩
  cases SM
  · go_wp2_with fail
    go_ret
    exact ⟨rfl, B1.out⟩
  unfold smallB at hSM
  rw [Bool.and_eq_true, List.all_eq_true, decide_eq_true_eq] at hSM
  have HZ : Hid (∀ x ∈ l, x.z ≤ 40) := Lib.hid (fun x hx => by simpa using hSM.1 x hx)
  have hn26 : n ≤ 2600 := by have := hSM.2; have := HL.out; omega
  clear hSM HSM
  by_cases hbad : nodes < 1 ∨ 7 < nodes
  · go_wp2_with fail
    refine (snew_no nodes hbad _).mono ?_
    rintro e w' ⟨rfl, rfl⟩
    go_wp2_with fail
    refine (rnew_no nodes hbad _).mono ?_
    rintro e w' ⟨rfl, rfl⟩
    go_wp2_with fail
    go_ret
    exact ⟨rfl, B1.out⟩
  have hn1 : 1 ≤ nodes := by omega
  have hn7 : nodes ≤ 7 := by omega
  clear hbad
  go_wp2_with fail
  refine (snew_net nodes hn1 hn7 w.heap.size w1 B1.out.size).mono ?_
  rintro e w2 ⟨rfl, hP, hb2⟩
  have B2 : Hid (Below w.heap.size w w2) := Lib.hid (B1.out.trans (hb2.mono B1.out.size))
  have hlt12 : w1.heap.size < w2.heap.size := hP.lt.2
  have HP := Lib.hid hP
  clear hP hb2 B1
  go_wp2_with fail
  refine (rnew_ok nodes hn1 hn7 w.heap.size w2 B2.out.size).mono ?_
  rintro e w3 ⟨rfl, hR, hb3⟩
  have B3 : Hid (Below w.heap.size w w3) := Lib.hid (B2.out.trans (hb3.mono B2.out.size))
  have PR : Hid (Pr w3 w.heap.size w1.heap.size w2.heap.size (.slice none 0 0) (.slice none 0 0) (fun _ => False) (fun _ => False) ⟨nodes, 0, []⟩ ⟨nodes, 0, []⟩) := Lib.hid ⟨HP.out.next hb3, hR, by omega, by simp [Value.ownBlock], by simp [Value.ownBlock], fun k e => by simp [Value.ownBlock] at e, fun k h => h.elim, fun k h => h.elim⟩
  clear hb3 hR HP B2
  generalize w1.heap.size = bp at *
  generalize w2.heap.size = br at *
  go_wp2_with fail
  have WF0 := Lib.hid (newWF nodes hn1 hn7)
  go_loopw [11] (fun i wr => ∃ (k : Nat) (s : Nt) (vp vr : Value) (Fp Fr_ : Nat → Prop), i = .int .i64 k ∧ k ≤ n ∧ Hid (Pr wr w.heap.size bp br vp vr Fp Fr_ s s) ∧ Hid s.WF ∧ s.last ≤ k ∧ Hid (Below w.heap.size w wr)) (fun i _ => n - (intOf i).toNat)
  case atStart => exact ⟨0, _, _, _, _, _, rfl, Nat.zero_le _, PR, WF0, Int.le_refl _, B3⟩
  case round =>
    obtain ⟨k, s, vp, vr, Fp, Fr_, rfl, hk, hpr, hwf, hls, hbw⟩ := hrel
    clear PR WF0 B3
    obtain ⟨w4, rfl⟩ : ∃ x, x = wr := ⟨_, rfl⟩
    by_cases hlt : k < n
    · have hx : l[k]? = some (l[k]'(by rw [HL.out]; exact hlt)) := List.getElem?_eq_getElem _
      obtain ⟨b, o, rfl, hb, h0⟩ := an_at HR.out hx
      have hzx := HZ.out _ (List.mem_of_getElem? hx)
      have hix := HIN.out _ (List.mem_of_getElem? hx)
      generalize l[k]'(by rw [HL.out]; exact hlt) = x at *
      obtain ⟨xk, -, -, xl, xzc, xc, xr⟩ := hix
      have HX0 := Lib.hid h0
      have XR := Lib.hid xr
      obtain ⟨d0, d1, d2, d3⟩ := h0.below hbw.out hb
      have i1 : (k : Int) < (n : Int) := by omega
      have i0 : (0 : Int) ≤ (k : Int) := by omega
      clear hx xr h0
      go_wp2_with fail
      refine (lent_any x.A x.z x.c w.heap.size x.bs xl (by omega) w4 (XR.out.below hbw.out) hbw.out.size).mono ?_
      rintro e w5 ⟨v5, rfl, own5, hb5⟩
      obtain ⟨g, c5, rfl, hc5, hcm5, hg1, hg2⟩ := own_blk own5 (by omega)
      have P5 := Lib.hid (hpr.out.next hb5)
      have SG5 := Lib.hid (hpr.out.newSf hg1 hg2)
      have O5 := Lib.hid own5
      have BB5 : Hid (Below w.heap.size w w5) := Lib.hid (hbw.out.trans (hb5.mono hbw.out.size))
      have hg0 : w.heap.size ≤ g := Nat.le_trans hbw.out.size hg1
      clear own5 hb5 hpr hbw d0 d1 d2 d3 hg1 hg2
      have hz3 : x.z ≤ c5 := by omega
      go_upto_region 15 with (fail)
      refine wp_heldall (S := fun X => Below w.heap.size w X) 16 (by kernel_rfl) rfl (BB5.out.trans ((Below.drew (Below.refl _ _)).mono BB5.out.size)) (fun hHeld => ?_)
      refine takeL (i := 0) (v := ?_) rfl (by kernel_rfl) (by kernel_rfl) (by kernel_rfl) (fun _ _ _ h => h) ⟨by rfl, ?_⟩ (by first | assumption | trivial) ?_
      rotate_left
      · intro W9 hSw
        (try dsimp only at hSw)
        obtain ⟨d0, d1, d2, d3⟩ := HX0.out.below hSw hb
        go_simp
        try with_reducible rfl
      (try simp only [Act.put, List.setIfInBounds_toArray, List.set_cons_zero, List.set_cons_succ])
      refine takeL (i := 1) (v := ?_) rfl (by kernel_rfl) (by kernel_rfl) (by kernel_rfl) (fun _ _ _ h => h) ⟨by rfl, ?_⟩ (by first | assumption | trivial) ?_
      rotate_left
      · intro W9 hSw
        (try dsimp only at hSw)
        obtain ⟨d0, d1, d2, d3⟩ := HX0.out.below hSw hb
        go_simp
        try with_reducible rfl
      (try simp only [Act.put, List.setIfInBounds_toArray, List.set_cons_zero, List.set_cons_succ])
      refine takeL (i := 2) (v := ?_) rfl (by kernel_rfl) (by kernel_rfl) (by kernel_rfl) (fun _ _ _ h => h) ⟨by rfl, ?_⟩ (by first | assumption | trivial) ?_
      rotate_left
      · intro W9 hSw
        (try dsimp only at hSw)
        obtain ⟨d0, d1, d2, d3⟩ := HX0.out.below hSw hb
        go_simp
        try with_reducible rfl
      (try simp only [Act.put, List.setIfInBounds_toArray, List.set_cons_zero, List.set_cons_succ])
      refine takeL (i := 3) (v := ?_) rfl (by kernel_rfl) (by kernel_rfl) (by kernel_rfl) (fun _ _ _ h => h) ⟨by rfl, ?_⟩ (by first | assumption | trivial) ?_
      rotate_left
      · intro W9 hSw
        (try dsimp only at hSw)
        obtain ⟨d0, d1, d2, d3⟩ := HX0.out.below hSw hb
        go_simp
        try with_reducible rfl
      (try simp only [Act.put, List.setIfInBounds_toArray, List.set_cons_zero, List.set_cons_succ])
      refine takeL (i := 4) (v := ?_) rfl (by kernel_rfl) (by kernel_rfl) (by kernel_rfl) (fun _ _ _ h => h) ⟨by rfl, ?_⟩ (by first | assumption | trivial) ?_
      rotate_left
      · intro W9 hSw
        (try dsimp only at hSw)
        obtain ⟨d0, d1, d2, d3⟩ := HX0.out.below hSw hb
        go_simp
        try with_reducible rfl
      (try simp only [Act.put, List.setIfInBounds_toArray, List.set_cons_zero, List.set_cons_succ])
      refine takeL (i := 5) (v := ?_) rfl (by kernel_rfl) (by kernel_rfl) (by kernel_rfl) (fun _ _ _ h => h) ⟨by rfl, ?_⟩ (by first | assumption | trivial) ?_
      rotate_left
      · intro W9 hSw
        (try dsimp only at hSw)
        obtain ⟨d0, d1, d2, d3⟩ := HX0.out.below hSw hb
        go_simp
        try with_reducible rfl
      (try simp only [Act.put, List.setIfInBounds_toArray, List.set_cons_zero, List.set_cons_succ])
      refine takeL (i := 6) (v := ?_) rfl (by kernel_rfl) (by kernel_rfl) (by kernel_rfl) (fun _ _ _ h => h) ⟨by rfl, ?_⟩ (by first | assumption | trivial) ?_
      rotate_left
      · intro W9 hSw
        (try dsimp only at hSw)
        obtain ⟨d0, d1, d2, d3⟩ := HX0.out.below hSw hb
        go_simp
        try with_reducible rfl
      (try simp only [Act.put, List.setIfInBounds_toArray, List.set_cons_zero, List.set_cons_succ])
      refine takeL (i := 7) (v := ?_) rfl (by kernel_rfl) (by kernel_rfl) (by kernel_rfl) (fun _ _ _ h => h) ⟨by rfl, ?_⟩ (by first | assumption | trivial) ?_
      rotate_left
      · intro W9 hSw
        (try dsimp only at hSw)
        obtain ⟨d0, d1, d2, d3⟩ := HX0.out.below hSw hb
        go_simp
        try with_reducible rfl
      (try simp only [Act.put, List.setIfInBounds_toArray, List.set_cons_zero, List.set_cons_succ])
      refine takeL (i := 8) (v := ?_) rfl (by kernel_rfl) (by kernel_rfl) (by kernel_rfl) (fun _ _ _ h => h) ⟨by rfl, ?_⟩ (by first | assumption | trivial) ?_
      rotate_left
      · intro W9 hSw
        (try dsimp only at hSw)
        obtain ⟨d0, d1, d2, d3⟩ := HX0.out.below hSw hb
        go_simp
        try with_reducible rfl
      (try simp only [Act.put, List.setIfInBounds_toArray, List.set_cons_zero, List.set_cons_succ])
      refine takeL (i := 9) (v := ?_) rfl (by kernel_rfl) (by kernel_rfl) (by kernel_rfl) (fun _ _ _ h => h) ⟨by rfl, ?_⟩ (by first | assumption | trivial) ?_
      rotate_left
      · intro W9 hSw
        (try dsimp only at hSw)
        obtain ⟨d0, d1, d2, d3⟩ := HX0.out.below hSw hb
        go_simp
        try with_reducible rfl
      (try simp only [Act.put, List.setIfInBounds_toArray, List.set_cons_zero, List.set_cons_succ])
      refine takeL (i := 10) (v := ?_) rfl (by kernel_rfl) (by kernel_rfl) (by kernel_rfl) (fun _ _ _ h => h) ⟨by rfl, ?_⟩ (by first | assumption | trivial) ?_
      rotate_left
      · intro W9 hSw
        (try dsimp only at hSw)
        obtain ⟨d0, d1, d2, d3⟩ := HX0.out.below hSw hb
        go_simp
        try with_reducible rfl
      (try simp only [Act.put, List.setIfInBounds_toArray, List.set_cons_zero, List.set_cons_succ])
      refine takeL (i := 11) (v := ?_) rfl (by kernel_rfl) (by kernel_rfl) (by kernel_rfl) (fun _ _ _ h => h) ⟨by rfl, ?_⟩ (by first | assumption | trivial) ?_
      rotate_left
      · intro W9 hSw
        (try dsimp only at hSw)
        obtain ⟨d0, d1, d2, d3⟩ := HX0.out.below hSw hb
        go_simp
        try with_reducible rfl
      (try simp only [Act.put, List.setIfInBounds_toArray, List.set_cons_zero, List.set_cons_succ])
      refine takeL (i := 12) (v := ?_) rfl (by kernel_rfl) (by kernel_rfl) (by kernel_rfl) (fun _ _ _ h => h) ⟨by rfl, ?_⟩ (by first | assumption | trivial) ?_
      rotate_left
      · intro W9 hSw
        (try dsimp only at hSw)
        obtain ⟨d0, d1, d2, d3⟩ := HX0.out.below hSw hb
        go_simp
        try with_reducible rfl
      (try simp only [Act.put, List.setIfInBounds_toArray, List.set_cons_zero, List.set_cons_succ])
      refine takeL (i := 13) (v := ?_) rfl (by kernel_rfl) (by kernel_rfl) (by kernel_rfl) (fun _ _ _ h => h) ⟨by rfl, ?_⟩ (by first | assumption | trivial) ?_
      rotate_left
      · intro W9 hSw
        (try dsimp only at hSw)
        obtain ⟨d0, d1, d2, d3⟩ := HX0.out.below hSw hb
        go_simp
        try with_reducible rfl
      (try simp only [Act.put, List.setIfInBounds_toArray, List.set_cons_zero, List.set_cons_succ])
      have PX := Lib.hid (P5.out.next (Below.drew (Below.refl _ _)))
      have SX := Lib.hid (SG5.out.next (Below.drew (Below.refl _ _)))
      have OX := Lib.hid (own_keep O5.out (Below.drew (Below.refl _ _)) (Nat.le_refl _))
      clear P5 SG5 O5 BB5
      generalize w5.drew = X at *
      refine wpAnyH_ready (rs := [14]) (by kernel_rfl) (by simp) ?_
      refine consL rfl (by rfl) (fun K hK => ?_) ?_
      · go_simp
        go_at_call 51
        have rdX := (Rd.own OX.out).take x.z
        rw [bv, ← List.map_take, ← xl, lentN_take] at rdX
        have hXb : LtB X (fun k => k ≠ bp) ⟨⟨0, x.m, x.n, x.bs⟩, some ⟨g, 0, none⟩, x.z, c5⟩ := LtB.of_rd xl (by show x.z ≤ _; omega) rdX (fun k o e => by injection e with e; injection e with e1 e2; rw [← e1]; exact SX.out.n1)
        refine (call_any PX.out hwf.out (by omega) x.k x.m x.n xk x.A x.z x.c w.heap.size x.bs xl (by omega) (Nat.le_refl _) (XR.out.below hHeld) (some ⟨g, 0, none⟩) x.z c5 hXb).mono ?_
        rintro e w6 ⟨rfl, vpq, vrq, Fpq, Frq, hP6, hb6, hs6⟩
        obtain ⟨kg, SG6⟩ := hs6 g SX.out
        have hB6 : Below w.heap.size w w6 := hHeld.trans hb6
        have P6 := Lib.hid hP6
        have S6 := Lib.hid SG6
        have O6 := Lib.hid (ownsRow_of (W' := w6) OX.out (fun j e => by have e2 : some g = some j := e; injection e2 with e2; rw [← e2]; exact kg))
        have BB6 := Lib.hid hB6
        refine hK.out _ _ hB6 (fun hS6 => ?_)
        have hwq := hwf.out.act x.k x.m x.n (bs := x.bs) (by omega)
        have hlq := act_last s x.k x.m x.n x.bs
        obtain ⟨sq, hsq⟩ : ∃ sq, actS s x.k x.m x.n x.bs = sq := ⟨_, rfl⟩
        rw [hsq] at P6 hwq hlq
        have HWQ := Lib.hid hwq
        clear hK K hP6 SG6 hb6 hs6 kg hB6 hS6 rdX hXb PX SX OX hwq hsq hHeld hwf
        (try simp only [Act.put, List.setIfInBounds_toArray, List.set_cons_zero, List.set_cons_succ])
        refine takeL (i := 15) (v := ?_) rfl (by kernel_rfl) (by kernel_rfl) (by kernel_rfl) (fun _ _ _ h => h) ⟨by rfl, ?_⟩ (by first | assumption | trivial) ?_
        rotate_left
        · intro W9 hSw
          (try dsimp only at hSw)
          go_simp
          try with_reducible rfl
        (try simp only [Act.put, List.setIfInBounds_toArray, List.set_cons_zero, List.set_cons_succ])
        refine wpAnyH_done (by kernel_rfl) ?_ _
        obtain ⟨d0, d1, d2, d3⟩ := HX0.out.below BB6.out hb
        go_wp2_with fail
        refine (kept_any (some ⟨g, 0, none⟩) x.A (x.z + 3) x.z c5 x.c w6.heap.size w.heap.size (lent x.bs) x.bs (by rw [lent_length, xl]) xl (by omega) (by omega) w6 (Rd.own O6.out) (Nat.le_refl _) (XR.out.below BB6.out) BB6.out.size).mono ?_
        rintro e w7 ⟨rfl, hb7⟩
        rw [decide_eq_true (rfl : lent x.bs = lent x.bs)]
        have P7 := Lib.hid (P6.out.next hb7)
        have S7 := Lib.hid (S6.out.next hb7)
        have O7 := Lib.hid (own_keep O6.out hb7 (Nat.le_refl _))
        have BB7 : Hid (Below w.heap.size w w7) := Lib.hid (BB6.out.trans (hb7.mono BB6.out.size))
        clear hb7 P6 S6 O6 BB6 d0 d1 d2 d3
        by_cases h40 : k < 40
        · have k40 : (k : Int) < 40 := by omega
          go_wp2_with fail
          refine (sflight_any P7.out.p HWQ.out).mono ?_
          rintro e w8 ⟨v8, l8, rfl, hk8, ho8, hf8, hb8⟩
          obtain ⟨A8, c8, rfl, -, -⟩ := own_sl ho8
          have R8 := Lib.hid (hf8.rdL ho8)
          have P8 := Lib.hid (P7.out.next hb8)
          have S8 := Lib.hid (S7.out.next hb8)
          have O8 := Lib.hid (own_keep O7.out hb8 (Nat.le_refl _))
          have BB8 : Hid (Below w.heap.size w w8) := Lib.hid (BB7.out.trans (hb8.mono BB7.out.size))
          have K8 := Lib.hid hk8
          have hl8 : l8.length = sq.ks.length := by rw [← hk8, List.length_map]
          rw [hl8]
          clear ho8 hf8 hb8 hk8 P7 S7 O7 BB7
          go_wp2_with fail
          refine (rflight_any P8.out.r).mono ?_
          rintro e w9 ⟨v9, l9, rfl, hk9, ho9, hf9, hb9⟩
          obtain ⟨A9, c9, rfl, -, -⟩ := own_sl ho9
          have R9 := Lib.hid (hf9.rdL ho9)
          have R8' := Lib.hid (R8.out.next hb9)
          have P9 := Lib.hid (P8.out.next hb9)
          have S9 := Lib.hid (S8.out.next hb9)
          have O9 := Lib.hid (own_keep O8.out hb9 (Nat.le_refl _))
          have BB9 : Hid (Below w.heap.size w w9) := Lib.hid (BB8.out.trans (hb9.mono BB8.out.size))
          have K9 : Hid (l8.map Ltr.k = l9.map Ltr.k) := Lib.hid (by rw [K8.out, hk9])
          have hl9 : l9.length = sq.ks.length := by rw [← hk9, List.length_map]
          rw [hl9]
          have hsl : sq.ks.length ≤ 2048 := HWQ.out.len
          clear ho9 hf9 hb9 hk9 P8 S8 O8 BB8 R8 K8 hl9
          go_wp2_with fail
          refine (flights_yes A8 A9 c8 c9 sq.ks.length l8 l9 hl8 (by omega) K9.out w9 R8'.out R9.out).mono ?_
          rintro e wa ⟨rfl, hba⟩
          have PP := Lib.hid (P9.out.next hba)
          have SS := Lib.hid (S9.out.next hba)
          have OO := Lib.hid (own_keep O9.out hba (Nat.le_refl _))
          have QQ : Hid (Below w.heap.size w wa) := Lib.hid (BB9.out.trans (hba.mono BB9.out.size))
          clear hba P9 S9 O9 BB9 R8' R9 K9 hl8 hsl
          go_wp2_with fail
          refine (over_own (some ⟨g, 0, none⟩) (x.z + 3) c5 w4.heap.size (lent x.bs) (by rw [lent_length, xl]) wa (OO.out)).mono ?_
          rintro e wz ⟨rfl, -, gz⟩
          have PZ : Hid (Pr wz w.heap.size bp br vpq vrq Fpq Frq sq sq) := Lib.hid (PP.out.keep gz.size (fun j hj hns => gz.block j hj (fun e => by
            have e2 : some j = some g := e
            injection e2 with e2
            rw [e2] at hns
            exact hns SS.out)))
          have BZ : Hid (Below w.heap.size w wz) := Lib.hid (QQ.out.grown gz QQ.out.size (fun j e => by have e2 : some g = some j := e; injection e2 with e2; omega))
          clear gz PP SS OO QQ
          go_wp2_with fail
          go_roundw
          case rel => exact ⟨k + 1, sq, vpq, vrq, Fpq, Frq, by go_num, by omega, PZ, HWQ, by omega, BZ⟩
          case measure => simp [intOf]; omega
        · have k40 : ¬ (k : Int) < 40 := by omega
          go_wp2_with fail
          have PP := P7
          have SS := S7
          have OO := O7
          have QQ := BB7
          refine (over_own (some ⟨g, 0, none⟩) (x.z + 3) c5 w4.heap.size (lent x.bs) (by rw [lent_length, xl]) w7 (OO.out)).mono ?_
          rintro e wz ⟨rfl, -, gz⟩
          have PZ : Hid (Pr wz w.heap.size bp br vpq vrq Fpq Frq sq sq) := Lib.hid (PP.out.keep gz.size (fun j hj hns => gz.block j hj (fun e => by
            have e2 : some j = some g := e
            injection e2 with e2
            rw [e2] at hns
            exact hns SS.out)))
          have BZ : Hid (Below w.heap.size w wz) := Lib.hid (QQ.out.grown gz QQ.out.size (fun j e => by have e2 : some g = some j := e; injection e2 with e2; omega))
          clear gz PP SS OO QQ
          go_wp2_with fail
          go_roundw
          case rel => exact ⟨k + 1, sq, vpq, vrq, Fpq, Frq, by go_num, by omega, PZ, HWQ, by omega, BZ⟩
          case measure => simp [intOf]; omega
      exact AllReadyH.nil
    · obtain rfl : k = n := by omega
      go_wp2_with fail
      refine (sflight_any hpr.out.p hwf.out).mono ?_
      rintro e w8 ⟨v8, l8, rfl, hk8, ho8, hf8, hb8⟩
      obtain ⟨A8, c8, rfl, -, -⟩ := own_sl ho8
      have hl8 : l8.length = s.ks.length := by rw [← hk8, List.length_map]
      have HO8 := Lib.hid ho8
      have HF8 := Lib.hid hf8
      have P8 := Lib.hid (hpr.out.next hb8)
      have P4 := hpr
      have HB8 := Lib.hid hb8
      have BB8 : Hid (Below w.heap.size w w8) := Lib.hid (hbw.out.trans (hb8.mono hbw.out.size))
      have K8 := Lib.hid hk8
      have z48 : w4.heap.size ≤ w8.heap.size := hb8.size
      rw [hl8]
      clear ho8 hf8 hb8 hk8 hpr
      go_wp2_with fail
      refine (rflight_any P8.out.r).mono ?_
      rintro e w9 ⟨v9, l9, rfl, hk9, ho9, hf9, hb9⟩
      obtain ⟨A9, c9, rfl, -, -⟩ := own_sl ho9
      have hl9 : l9.length = s.ks.length := by rw [← hk9, List.length_map]
      have HO9 := Lib.hid ho9
      have HF9 := Lib.hid hf9
      have O8 := Lib.hid (own_keep HO8.out hb9 (Nat.le_refl _))
      have F8 := Lib.hid (HF8.out.next hb9)
      have P9 := Lib.hid (P8.out.next hb9)
      have BB9 : Hid (Below w.heap.size w w9) := Lib.hid (BB8.out.trans (hb9.mono BB8.out.size))
      have B49 : Hid (Below w4.heap.size w4 w9) := Lib.hid (HB8.out.trans (hb9.mono z48))
      have K9 : Hid (l9.map Ltr.k = s.ks) := Lib.hid hk9
      have z89 : w8.heap.size ≤ w9.heap.size := hb9.size
      rw [hl9]
      have hsl : s.ks.length ≤ 2048 := hwf.out.len
      have hl8w : ∀ i x g, l8[i]? = some x → (ltB x).ownBlock = some g → w4.heap.size ≤ g ∧ g < w8.heap.size := fun i x g hx e => (HF8.out.byt i x hx).1.lt g e
      have HL8 := Lib.hid hl8w
      clear ho9 hf9 hb9 hk9 P8 BB8 HO8 HF8 HB8 hbw hl8w
      go_wp2_with fail
      refine (flights_yes A8 A9 c8 c9 s.ks.length l8 l9 hl8 (by omega) (by rw [K8.out, K9.out]) w9 (by have h1 := F8.out.rdL O8.out; exact h1) (HF9.out.rdL HO9.out)).mono ?_
      rintro e wa ⟨rfl, hba⟩
      have O8 := Lib.hid (own_keep O8.out hba (Nat.le_refl _))
      have F8 := Lib.hid (F8.out.next hba)
      have O9 := Lib.hid (own_keep HO9.out hba (Nat.le_refl _))
      have F9 := Lib.hid (HF9.out.next hba)
      have PA := Lib.hid (P9.out.next hba)
      have BA : Hid (Below w.heap.size w wa) := Lib.hid (BB9.out.trans (hba.mono BB9.out.size))
      have B4A : Hid (Below w4.heap.size w4 wa) := Lib.hid (B49.out.trans (hba.mono (by omega)))
      have z9a : w9.heap.size ≤ wa.heap.size := hba.size
      clear hba P9 BB9 B49 HO9 HF9
      go_wp2_with fail
      refine (gone_any PA.out.p hwf.out A9 c9 s.ks.length l9 rfl K9.out ((F9.out.rdL O9.out).row) stop hst).mono ?_
      rintro e wb ⟨rfl, hbb⟩
      have O8 := Lib.hid (own_keep O8.out hbb (Nat.le_refl _))
      have F8 := Lib.hid (F8.out.next hbb)
      have O9 := Lib.hid (own_keep O9.out hbb (Nat.le_refl _))
      have F9 := Lib.hid (F9.out.next hbb)
      have BB : Hid (Below w.heap.size w wb) := Lib.hid (BA.out.trans (hbb.mono BA.out.size))
      have B4B : Hid (Below w4.heap.size w4 wb) := Lib.hid (B4A.out.trans (hbb.mono (by omega)))
      have zab : wa.heap.size ≤ wb.heap.size := hbb.size
      clear hbb PA BA B4A
      go_wp2_with fail
      have OV0 : Hid (wb.ownsRow wb.heap.size 22 1 (.slice none 0 0) 0 ((l8.take 0).map ltB)) := Lib.hid (World.ownsRow_nil _ _ _ _)
      go_loopw [16, 17] (fun v i wr => ∃ (j : Nat) (Aj : Option Addr) (cj : Nat), v = .slice Aj j cj ∧ i = .int .i64 j ∧ j ≤ s.ks.length ∧ Hid (wr.ownsRow wb.heap.size 22 1 (.slice Aj j cj) j ((l8.take j).map ltB)) ∧ Hid (Below wb.heap.size wb wr)) (fun _ i _ => s.ks.length - (intOf i).toNat)
      case atStart => exact ⟨0, none, 0, rfl, rfl, Nat.zero_le _, OV0, Lib.hid (Below.refl _ _)⟩
      case round =>
        obtain ⟨j, Aj, cj, rfl, rfl, hj, hoj, hbj⟩ := hrel
        clear OV0
        obtain ⟨wc, rfl⟩ : ∃ x, x = wr := ⟨_, rfl⟩
        have zbc := hbj.out.size
        by_cases hlt2 : j < s.ks.length
        · have hx : l8[j]? = some (l8[j]'(by omega)) := List.getElem?_eq_getElem _
          have R8 := (F8.out.rdL O8.out).next hbj.out
          obtain ⟨b, o, rfl, -, -, -, d3⟩ := R8.at_ hx
          have hb1 : b < wc.heap.size := World.block_lt_of_cell? _ _ d3
          have htk : (l8.take (j + 1)).map ltB = (l8.take j).map ltB ++ [ltB (l8[j]'(by omega))] := by rw [List.take_add_one, hx, List.map_append]; rfl
          have HTK := Lib.hid htk
          have i1 : (j : Int) < (s.ks.length : Int) := by omega
          have i0 : (0 : Int) ≤ (j : Int) := by omega
          generalize l8[j]'(by omega) = x at *
          clear hx htk R8
          go_wp2_with (at_builtin; refine wpList_app sty38 (.tmp 119) (.tmp 125) rfl rfl wb.heap.size (own_keep hoj.out ((Below.refl _ _).alloc (Nat.le_refl _) _) (Nat.le_refl _)) rfl 1 1 (rd_cells _ _ _) rfl rfl (by intro u hu; simp at hu; subst hu; rfl) (by unfold maxLen; omega) (by omega) (by simp; omega) ?_; intro v2 w2' own2 gr2 nil2 at2; obtain ⟨A2', c2', rfl, -, -⟩ := own_sl own2)
          have N2 : Hid (Below wb.heap.size wb w2') := Lib.hid ((hbj.out.alloc zbc _).grown gr2 (by simp; omega) (fun g e => (hoj.out.lt g e).1))
          have O2 : Hid (w2'.ownsRow wb.heap.size 22 1 (.slice A2' (j + 1) c2') (j + 1) ((l8.take (j + 1)).map ltB)) := Lib.hid (by rw [HTK.out]; exact own2)
          clear own2 gr2 nil2 at2 hoj hbj
          go_roundw
          case rel => exact ⟨j + 1, A2', c2', rfl, by go_num, by omega, O2, N2⟩
          case measure => simp [intOf]; omega
        · obtain rfl : j = s.ks.length := by omega
          have hoj2 := hoj.out
          rw [List.take_of_length_le (by omega)] at hoj2
          have OJ := Lib.hid hoj2
          have O8 := Lib.hid (own_keep O8.out hbj.out (Nat.le_refl _))
          have F8 := Lib.hid (F8.out.next hbj.out)
          have O9 := Lib.hid (own_keep O9.out hbj.out (Nat.le_refl _))
          have F9 := Lib.hid (F9.out.next hbj.out)
          have B4C : Hid (Below w4.heap.size w4 wc) := Lib.hid (B4B.out.trans (hbj.out.mono (by omega)))
          have BC : Hid (Below w.heap.size w wc) := Lib.hid (BB.out.trans (hbj.out.mono BB.out.size))
          clear hoj hoj2 hbj BB B4B
          go_wp2_with fail
          have hxi : ∀ (i : Nat) (v : Value), (l8.map ltB)[i]? = some v → ∃ x, l8[i]? = some x ∧ v = ltB x := fun i v hv => by
            rw [List.getElem?_map] at hv
            cases hx : l8[i]? with
            | none => rw [hx] at hv; cases hv
            | some x => rw [hx] at hv; injection hv with hv; exact ⟨x, rfl, hv.symm⟩
          refine (apart2_any Aj s.ks.length cj wc.heap.size w4.heap.size (l8.map ltB) (l8.map (fun x => x.k.bs)) (by rw [List.length_map, hl8]) (by rw [List.length_map, hl8]) (by omega) wc (Rd.own OJ.out) (Nat.le_refl _) B4C.out.size
            (fun i v bs hv hbs => by
              obtain ⟨x, hx, rfl⟩ := hxi i v hv
              rw [List.getElem?_map, hx] at hbs
              injection hbs with hbs
              subst hbs
              have h1 := (F8.out.byt i x hx).1
              have h2 : x.k.bs.length = x.n := by have := h1.1; simpa [bv] using this
              rw [h2]
              exact h1)
            (fun i i' v v' hii hv hv' => by
              obtain ⟨x, hx, rfl⟩ := hxi i v hv
              obtain ⟨x', hx', rfl⟩ := hxi i' v' hv'
              exact F8.out.apart i i' x x' hii hx hx')
            (fun g o e i v hv e2 => by
              obtain ⟨x, hx, rfl⟩ := hxi i v hv
              have h1 := (HL8.out i x g hx e2).2
              have h3 := (OJ.out.lt g (by rw [e]; rfl)).1
              omega)
            (fun i bs hbs => by
              rw [List.getElem?_map] at hbs
              cases hx : l8[i]? with
              | none => rw [hx] at hbs; cases hbs
              | some x =>
                rw [hx] at hbs
                injection hbs with hbs
                have h1 := F8.out.byt i x hx
                have h2 : x.k.bs.length = x.n := by have := h1.1.1; simpa [bv] using this
                rw [← hbs]
                have := h1.2
                show x.k.bs.length ≤ _
                omega)).mono ?_
          rintro e wd ⟨rfl, hbd, hkd⟩
          have B4D : Below w4.heap.size w4 wd := B4C.out.trans hbd
          have PD := Lib.hid (P4.out.next B4D)
          have BD : Hid (Below w.heap.size w wd) := Lib.hid (BC.out.trans (hbd.mono (by have := P4.out.p.lt; omega)))
          have hkeep : ∀ g, w8.heap.size ≤ g → g < wc.heap.size → wd.heap[g]? = wc.heap[g]? := fun g h1 h2 => hkd g h2 (fun i v hv e => by
            obtain ⟨x, hx, rfl⟩ := hxi i v hv
            have := (HL8.out i x g hx e).2
            omega)
          have K2 := FlB.keep2 O9.out F9.out hkeep
          have R9 := Lib.hid (K2.2.rdL K2.1)
          clear hbd hkd hkeep K2 hxi B4D O8 F8 O9 F9 OJ P4 B4C BC HL8
          go_wp2_with fail
          refine (sflight_any PD.out.p hwf.out).mono ?_
          rintro e we ⟨ve, le, rfl, hke, hoe, hfe, hbe⟩
          obtain ⟨Ae, ce, rfl, -, -⟩ := own_sl hoe
          have hle : le.length = s.ks.length := by rw [← hke, List.length_map]
          have RE := Lib.hid (hfe.rdL hoe)
          have R9' := Lib.hid (R9.out.next hbe)
          have BE : Hid (Below w.heap.size w we) := Lib.hid (BD.out.trans (hbe.mono BD.out.size))
          have KE : Hid (le.map Ltr.k = l9.map Ltr.k) := Lib.hid (by rw [hke, K9.out])
          rw [hle]
          clear hoe hfe hbe hke PD BD R9
          go_wp2_with fail
          refine (flights_yes Ae A9 ce c9 s.ks.length le l9 hle (by omega) KE.out we RE.out R9'.out).mono ?_
          rintro e wf ⟨rfl, hbf⟩
          have BF : Hid (Below w.heap.size w wf) := Lib.hid (BE.out.trans (hbf.mono BE.out.size))
          clear hbf BE RE R9' KE
          go_wp2_with fail
          go_ret
          exact ⟨rfl, BF.out⟩
end Go.Proofs.Ytlpdihcgdgkkbaa
