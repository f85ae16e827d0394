/- The walk of the law FrameTorn: it returns true. -/
import Derived.Test.YtmfkngijgellhaaX
import Derived.Test.YtmfkngijgellhaaY
import Derived.Test.YtmfkngijgellhaaLi
namespace Go.Proofs.Ytmfkngijgellhaa
open Go.RowKit Go.St
set_option linter.unusedVariables false

theorem pick_at (x y : Int) (hx : (Lit.int .i64 x).wf = true) (n : Nat) (hy : y = (n : Int)) (h0 : 0 < n) (hn : n ≤ 9223372036854775807) (w : World) :
    Calls Try.prog 21 #[.int .i64 x, .int .i64 y] w fun e w' => ∃ k : Nat, k < n ∧ e = .returned (.int .i64 (k : Int)) ∧ w = w' := by
  subst hy
  exact (pick_any x hx n h0 hn w).mono fun e w' ⟨he, hw⟩ => ⟨pickN x n, pickN_lt x n h0, he, hw⟩
theorem smallB_iff {l : List (List UInt8)} (h : smallB l = true) : (∀ r ∈ l, r.length ≤ 400) ∧ l.length ≤ 40 := by
  unfold smallB at h
  simpa using h

set_option maxHeartbeats 2000000 in
theorem frameTorn_walk (w : World) (v0 : Value) (y0 : RowsArg w 140737488351232 v0) (a1 : Int) (w1 : (Lit.int .i64 a1).wf = true) :
    Calls Try.prog 11 #[v0, .int .i64 a1] w fun e w' => e = .returned (.bool true) ∧ Below w.heap.size w w' := by
  obtain ⟨A0, n0, c0, l, rfl, hl, hc, hcN, hrr⟩ := y0
  have H0 := Lib.hid hl; clear hl
  have R0 := Lib.hid hrr; clear hrr
  have WA := Lib.hid w1; clear w1
  go_enter Try.func11, Try.ntmps11
  go_wp2_with fail
  refine (lives3_any _).mono ?_
  rintro e w1 ⟨rfl, hb1⟩
  have S1 := hb1.size
  have R1 := Lib.hid (R0.out.below hb1)
  clear R0
  go_wp2_with fail
  refine (small_any A0 n0 c0 _ l H0.out (by omega) _ R1.out).mono ?_
  rintro e w' ⟨rfl, rfl⟩
  cases hsm : smallB l with
  | false =>
    go_wp2
    go_ret
    exact ⟨rfl, hb1⟩
  | true =>
    obtain ⟨hs, hl40⟩ := smallB_iff hsm
    rw [H0.out] at hl40
    have HS := Lib.hid hs; clear hs hsm
    go_wp2_with fail
    refine (rows_any A0 n0 c0 _ l H0.out hl40 HS.out _ R1.out S1).mono ?_
    rintro e w2 ⟨V, E, rfl, hV, hE, hb2⟩
    have HB2 : Hid (Below w.heap.size w w2) := hb1.trans (hb2.mono S1)
    have S2 := hb2.size
    have R2 := Lib.hid (R1.out.below (hb2.mono S1))
    have hN := endAt_bound l HS.out l.length (Nat.le_refl _)
    rw [endAt_all] at hN
    have hN : (framesL l).length ≤ 20000 := by have := H0.out; omega
    obtain ⟨A5, c5, rfl, hn5, _, rd5⟩ := own_rd4 hV
    have hE' : ∃ A6 c6, E = .slice A6 n0 c6 ∧ Rd w2 w2.heap.size A6 (endsV l n0) := own_rd hE
    obtain ⟨A6, c6, rfl, rd6⟩ := hE'
    have D5 := Lib.hid rd5
    have D6 := Lib.hid rd6
    clear rd5 rd6 hV hE R1 hb1 hb2
    obtain ⟨N, hNeq⟩ : ∃ N, (framesL l).length = N := ⟨_, rfl⟩
    rw [hNeq] at hN hn5
    have HNE := Lib.hid hNeq
    rw [hNeq]
    clear hNeq
    go_wp2_with fail
    refine (pick_at a1 _ WA.out (N + 1) (by omega) (by omega) (by omega) _).mono ?_
    rintro e w' ⟨k, hk, rfl, rfl⟩
    go_wp2
    go_loop [9, 10] (fun i g => ∃ j : Nat, j ≤ n0 ∧ i = .int .i64 j ∧ g = .int .i64 (endAt l j : Nat) ∧ endAt l j ≤ k) (fun i _ => n0 - (intOf i).toNat)
    case atStart => exact ⟨0, Nat.zero_le _, rfl, by rw [endAt_zero]; rfl, by rw [endAt_zero]; omega⟩
    case round =>
      obtain ⟨j, hj, rfl, rfl, hle⟩ := hrel
      by_cases hgo : j < n0 ∧ endAt l (j + 1) ≤ k
      · obtain ⟨hlt, hge⟩ := hgo
        obtain ⟨b6, o6, rfl, hb6, hc6⟩ := D6.out.at_ (endsV_get l n0 j hlt)
        have i0 : (0 : Int) ≤ (j : Int) := by omega
        have i1 : (j : Int) < (n0 : Int) := by omega
        have i2 : ((endAt l (j + 1) : Nat) : Int) ≤ (k : Int) := by omega
        go_wp2
        exact ⟨⟨j + 1, by omega, by go_num, rfl, hge⟩, by simp [intOf]; omega⟩
      · have hex : j = l.length ∨ k < endAt l (j + 1) := by rw [H0.out]; omega
        have hsc := scan_torn l (fun r hr => by have := HS.out r hr; omega) k j (by rw [H0.out]; exact hj) (by rw [HNE.out]; omega) hle hex
        have hsw := scan_whole l (fun r hr => by have := HS.out r hr; omega)
        rw [HNE.out] at hsw
        obtain ⟨e0, he0⟩ : ∃ e0 : Int, (if endAt l j = k then 0 else 4) = e0 := ⟨_, rfl⟩
        rw [he0] at hsc
        have HE0 := Lib.hid he0; clear he0
        have HSC := Lib.hid hsc
        have HSW := Lib.hid hsw
        have DK : Hid (Rd w2 w2.heap.size A5 (bv ((framesL l).take k))) := by
          have := D5.out.take k
          rwa [bv, ← List.map_take] at this
        have hlk : ((framesL l).take k).length = k := by rw [List.length_take, HNE.out]; omega
        have HLK := Lib.hid hlk
        clear hsc hsw hex hlk
        have k0 : (0 : Int) ≤ (k : Int) := by omega
        have k1 : (k : Int) ≤ (c5 : Int) := by omega
        rcases (by omega : j = n0 ∨ (j < n0 ∧ k < endAt l (j + 1))) with hjj | ⟨hlt, hge⟩
        case' inl =>
          have i1 : (n0 : Int) ≤ (j : Int) := by omega
          clear hjj
          go_wp2_with fail
        case' inr =>
          obtain ⟨b6, o6, rfl, hb6, hc6⟩ := D6.out.at_ (endsV_get l n0 j hlt)
          have i0 : (0 : Int) ≤ (j : Int) := by omega
          have i1 : (j : Int) < (n0 : Int) := by omega
          have i2 : (k : Int) < ((endAt l (j + 1) : Nat) : Int) := by omega
          go_wp2_with fail
        all_goals
          refine (scan_any A5 k c5 _ ((framesL l).take k) HLK.out (by omega) (by omega) _ DK.out (Nat.le_refl _)).mono ?_
          intro e w3 hp
          obtain ⟨V3, vs3, rfl, hr3, hb3⟩ := scPost_val HSC.out hp
          clear hp
          have hj3 : (l.take j).length = j := by rw [List.length_take, H0.out]; omega
          rw [hj3] at hr3
          obtain ⟨A3, c3, rfl, _⟩ := own_rd hr3.own
          have HR3 := Lib.hid hr3
          have HB3 : Hid (Below w.heap.size w w3) := HB2.out.trans (hb3.mono (by omega))
          have S3 := hb3.size
          have R3 := Lib.hid (R2.out.below (hb3.mono (by omega)))
          have D53 := Lib.hid (D5.out.below hb3)
          clear hr3 hb3 HB2 R2 D5 DK
          go_wp2_with fail
          refine (scan_any A5 N c5 _ (framesL l) HNE.out (by omega) hn5 _ D53.out S3).mono ?_
          intro e w4 hp
          obtain ⟨V4, vs4, rfl, hr4, hb4⟩ := scPost_val HSW.out hp
          clear hp
          rw [H0.out] at hr4
          obtain ⟨A4, c4, rfl, _⟩ := own_rd hr4.own
          have HB4 : Hid (Below w.heap.size w w4) := HB3.out.trans (hb4.mono (by omega))
          have S4 := hb4.size
          have R4 := Lib.hid (R3.out.below (hb4.mono (by omega)))
          have Q3 := Lib.hid ((HR3.out.keep hb4 (Nat.le_refl _)).rr (fun r hr => by have := HS.out r (List.mem_of_mem_take hr); omega))
          have Q4 := Lib.hid (hr4.rr (fun r hr => by have := HS.out r hr; omega))
          have HJ3 := Lib.hid hj3
          clear hr4 hb4 HB3 R3 HR3 D53 hj3 HSC HSW
          have j0 : (0 : Int) ≤ (j : Int) := by omega
          have j1 : (j : Int) ≤ (c0 : Int) := by omega
          have q0 : (((endAt l j : Nat) : Int) != ((endAt l j : Nat) : Int)) = false := by simp
          have q2 : ((0 : Int) == 0) = true := rfl
          have q3 : (((N : Nat) : Int) == ((N : Nat) : Int)) = true := by simp
          by_cases hgk : endAt l j = k
          · obtain rfl : e0 = 0 := by rw [← HE0.out, if_pos hgk]
            have HGK := Lib.hid hgk
            clear hgk hgo hle HE0 HLK D6 q0
            rw [show ((endAt l j : Nat) : Int) = (k : Int) from by rw [HGK.out]]
            go_wp2_with fail
            refine (sameRecords_any A3 A0 j c3 j c0 _ _ (l.take j) (l.take j) HJ3.out HJ3.out (by omega) _ Q3.out (R4.out.take j)).mono ?_
            rintro e w' ⟨rfl, m5, rfl⟩
            rw [decide_eq_true (rfl : l.take j = l.take j)]
            go_wp2_with fail
            refine (sameRecords_any A4 A0 n0 c4 n0 c0 _ _ l l H0.out H0.out (by omega) (w4.drewN m5) (Q4.out.drewN m5) (R4.out.drewN m5)).mono ?_
            rintro e w' ⟨rfl, m6, rfl⟩
            rw [decide_eq_true (rfl : l = l)]
            go_wp2
            go_ret
            exact ⟨rfl, ⟨HB4.out.os, HB4.out.tape, HB4.out.output, HB4.out.size, HB4.out.block⟩⟩
          · obtain rfl : e0 = 4 := by rw [← HE0.out, if_neg hgk]
            have q1 : (((endAt l j : Nat) : Int) == ((k : Nat) : Int)) = false := by rw [beq_eq_false_iff_ne]; omega
            have q4 : (((endAt l j : Nat) : Int) != ((k : Nat) : Int)) = true := by rw [bne_iff_ne]; omega
            have q5 : ((4 : Int) == 0) = false := rfl
            have q6 : ((4 : Int) != 4) = false := rfl
            clear hgk hgo hle HE0 HLK D6
            obtain ⟨g, hg⟩ : ∃ g : Int, ((endAt l j : Nat) : Int) = g := ⟨_, rfl⟩
            rw [hg] at q0 q1 q4
            rw [hg]
            clear hg
            go_wp2_with fail
            refine (sameRecords_any A3 A0 j c3 j c0 _ _ (l.take j) (l.take j) HJ3.out HJ3.out (by omega) _ Q3.out (R4.out.take j)).mono ?_
            rintro e w' ⟨rfl, m5, rfl⟩
            rw [decide_eq_true (rfl : l.take j = l.take j)]
            go_wp2_with fail
            refine (sameRecords_any A4 A0 n0 c4 n0 c0 _ _ l l H0.out H0.out (by omega) (w4.drewN m5) (Q4.out.drewN m5) (R4.out.drewN m5)).mono ?_
            rintro e w' ⟨rfl, m6, rfl⟩
            rw [decide_eq_true (rfl : l = l)]
            go_wp2
            go_ret
            exact ⟨rfl, ⟨HB4.out.os, HB4.out.tape, HB4.out.output, HB4.out.size, HB4.out.block⟩⟩
end Go.Proofs.Ytmfkngijgellhaa
