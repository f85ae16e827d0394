/- The walk of SimnetNames. -/
import Derived.Test.YtlpdihcgdgkkbaaNa
namespace Go.Proofs.Ytlpdihcgdgkkbaa
open Go.RowKit Go.St
set_option linter.unusedVariables false
set_option linter.unusedSimpArgs false
set_option maxRecDepth 100000

set_option maxHeartbeats 3200000 in
theorem simnetNames_walk (w : World) : Calls Try.prog 7 #[] w fun e w' => e = .returned (.bool true) ∧ Below w.heap.size w w' := by
  go_enter Try.func7, Try.ntmps7
  go_wp2_with fail
  refine (lives25_any w).mono ?_
  rintro e w1 ⟨rfl, hb1⟩
  have B1 := Lib.hid hb1
  clear hb1
  go_wp2_with fail
  refine (snew_no 0 (by omega) _).mono ?_
  rintro e w' ⟨rfl, rfl⟩
  go_wp2_with fail
  refine (snew_no 8 (by omega) _).mono ?_
  rintro e w' ⟨rfl, rfl⟩
  go_wp2_with fail
  refine (snew_net 2 (by omega) (by omega) w.heap.size w1 B1.out.size).mono ?_
  rintro e w2 ⟨rfl, hN, hb2⟩
  have F2 : Hid (Full w2 w.heap.size w1.heap.size (.slice none 0 0) (fun _ => False) ⟨2, 0, []⟩ 0) := Lib.hid ⟨hN, newWF 2 (by omega) (by omega), rfl, rfl, rfl, fun i h1 h2 => by omega⟩
  have B2 : Hid (Below w.heap.size w w2) := Lib.hid (B1.out.trans (hb2.mono B1.out.size))
  clear hN hb2 B1
  generalize w1.heap.size = b at *
  go_wp2_with fail
  go_loopw [7] (fun i wr => ∃ (k : Nat) (v : Value) (F : Nat → Prop) (s : Nt), i = .int .i64 k ∧ k ≤ 2048 ∧ Hid (Full wr w.heap.size b v F s k) ∧ Hid (Below w.heap.size w wr)) (fun i _ => 2048 - (intOf i).toNat)
  case atStart => exact ⟨0, _, _, _, rfl, by omega, F2, B2⟩
  case round =>
    obtain ⟨k, v, F, s, rfl, hk, hF, hB⟩ := hrel
    clear F2 B2
    obtain ⟨w3, rfl⟩ : ∃ x, x = wr := ⟨_, rfl⟩
    have hls : s.last ≤ 4611686018427387904 := by rw [hF.out.ls]; omega
    by_cases hlt : k < 2048
    · have hok : okK 2 ((k : Int) % 2) 0 = true := by
        have h1 : 0 ≤ (k : Int) % 2 := by omega
        have h2 : (k : Int) % 2 < 2 := by omega
        unfold okK
        simp [h1, h2]
      have HS := Lib.hid (ssend_any hF.out.net hF.out.wf hls ((k : Int) % 2) 0 none 0 0 [] (ltB_nil _ _ _ _ _))
      have HOK := Lib.hid hok
      clear hok hls
      go_wp2_with fail
      refine HS.out.mono ?_
      rintro e w4 ⟨rfl, ho⟩
      obtain ⟨e1, e2, hb4, v4, F4, hF4⟩ := hF.out.send hlt HOK.out (by decide) ho
      have G4 := Lib.hid hF4
      have B4 : Hid (Below w.heap.size w w4) := Lib.hid (hB.out.trans hb4)
      rw [e1, e2]
      clear ho hF4 hb4 HS hF hB e1 e2 HOK
      go_wp2_with fail
      go_roundw
      case rel => exact ⟨k + 1, v4, F4, _, by go_num, by omega, G4, B4⟩
      case measure => simp [intOf]; omega
    · obtain rfl : k = 2048 := by omega
      have hbv : b < w3.heap.size := hF.out.net.lt.2
      go_wp2_with fail
      have W0 := Lib.hid hF.out.wf
      have NA := Lib.hid hF.out.net
      have BA := hB
      have h2048 : ¬ s.ks.length < 2048 := by rw [hF.out.len]; omega
      have e1 : sendE s 0 1 = 3 := by unfold sendE; rw [hF.out.nd, if_pos (by decide), if_pos (by omega)]
      have e1v : sendV s 0 1 = 0 := by unfold sendV; rw [e1]; rfl
      have e1s : sendS s 0 1 [] = s := by unfold sendS; rw [e1]; rfl
      have e2 : againE s 7 = 3 := by unfold againE; rw [if_pos (hF.out.hit 7 (by omega) (by omega)), if_pos (by omega)]
      have e2v : againV s 7 = 0 := by unfold againV; rw [e2]; rfl
      have e2s : againS s 7 = s := by unfold againS; rw [e2]; rfl
      have e3 : sendE s 0 2 = 2 := by unfold sendE; rw [hF.out.nd, if_neg (by decide)]
      have e3v : sendV s 0 2 = 0 := by unfold sendV; rw [e3]; rfl
      have e3s : sendS s 0 2 [] = s := by unfold sendS; rw [e3]; rfl
      have h1 : hitB s 1 = true := hF.out.hit 1 (by omega) (by omega)
      have e4 : hitE s 1 = 0 := by unfold hitE; rw [h1]; rfl
      have e4k : (outK s 1).num = 1 := by unfold outK; rw [if_pos h1]; exact hit_num h1
      have e5 : hitE (outS s 1) 1 = 4 := by unfold hitE; rw [hitB_out_same hF.out.wf]; rfl
      have e5s : outS (outS s 1) 1 = outS s 1 := by rw [outS, hitB_out_same hF.out.wf]; rfl
      have n1 : (outS s 1).nodes = 2 ∧ (outS s 1).last = 2048 := by unfold outS; rw [if_pos h1]; exact ⟨hF.out.nd, hF.out.ls⟩
      have e6 : sendE (outS s 1) 0 1 = 0 := by unfold sendE; rw [n1.1, if_pos (by decide), if_neg (by rw [out_len h1, hF.out.len]; omega)]
      have e6v : sendV (outS s 1) 0 1 = 2049 := by unfold sendV; rw [e6, n1.2]; rfl
      have e6s : sendS (outS s 1) 0 1 [] = putS (outS s 1) 0 1 [] := by unfold sendS; rw [e6]; rfl
      have W1 := hF.out.wf.out 1
      have W2 : (putS (outS s 1) 0 1 []).WF := W1.put (by rw [n1.1]; decide) (by rw [out_len h1, hF.out.len]; omega) (by decide)
      have h2 : hitB (putS (outS s 1) 0 1 []) 2 = true := by rw [hitB_put, hitB_out_ne _ (by decide), hF.out.hit 2 (by omega) (by omega), Bool.true_or]
      have e7 : hitE (putS (outS s 1) 0 1 []) 2 = 0 := by unfold hitE; rw [h2]; rfl
      have e8 : hitE (outS (putS (outS s 1) 0 1 []) 2) 2 = 4 := by unfold hitE; rw [hitB_out_same W2]; rfl
      have W3 := W2.out 2
      have HW1 := Lib.hid W1; have HW2 := Lib.hid W2; have HW3 := Lib.hid W3
      have hl1 : (outS s 1).last ≤ 4611686018427387904 := by rw [n1.2]; omega
      clear W1 W2 W3 n1 h1 h2 hF h2048 hB
      refine (ssend_any NA.out W0.out hls 0 1 none 0 0 [] (ltB_nil _ _ _ _ _)).mono ?_
      rintro e w4 ⟨rfl, ho⟩
      rw [e1s] at ho
      obtain ⟨vB, FB, hNB, hbB, hkB⟩ := OutP.step NA.out ho
      have NB := Lib.hid hNB
      have BB : Hid (Below w.heap.size w w4) := Lib.hid (BA.out.trans hbB)
      rw [e1, e1v]
      clear ho hNB hbB hkB NA BA
      go_wp2_with fail
      refine (stwice_any NB.out W0.out hls 7).mono ?_
      rintro e w5 ⟨rfl, ho⟩
      rw [e2s] at ho
      obtain ⟨vC, FC, hNC, hbC, hkC⟩ := OutP.step NB.out ho
      have NC := Lib.hid hNC
      have BC : Hid (Below w.heap.size w w5) := Lib.hid (BB.out.trans hbC)
      rw [e2, e2v]
      clear ho hNC hbC hkC NB BB
      go_wp2_with fail
      refine (ssend_any NC.out W0.out hls 0 2 none 0 0 [] (ltB_nil _ _ _ _ _)).mono ?_
      rintro e w6 ⟨rfl, ho⟩
      rw [e3s] at ho
      obtain ⟨vD, FD, hND, hbD, hkD⟩ := OutP.step NC.out ho
      have ND := Lib.hid hND
      have BD : Hid (Below w.heap.size w w6) := Lib.hid (BC.out.trans hbD)
      rw [e3, e3v]
      clear ho hND hbD hkD NC BC
      go_wp2_with fail
      refine (sdeliver_any ND.out W0.out 1).mono ?_
      rintro e w7 ⟨x, rfl, hx, -, ho⟩
      have hxn : x.k.num = 1 := by rw [hx]; exact e4k
      obtain ⟨vE, FE, hNE, hbE, -⟩ := OutP.step ND.out ho
      have NE := Lib.hid hNE
      have BE : Hid (Below w.heap.size w w7) := Lib.hid (BD.out.trans hbE)
      rw [e4]
      clear ho hNE hbE ND BD hx
      unfold ltV
      rw [hxn]
      clear hxn
      go_upto_region 18 with (fail)
      have bx : Below w7.heap.size w7 (w7.alloc (.cells #[.int .i64 1, .int .i64 x.k.fr, .int .i64 x.k.to, .slice x.A x.n x.c] 51)) := (Below.refl _ _).alloc (Nat.le_refl _) _
      have NF := Lib.hid (NE.out.next bx)
      have BF : Hid (Below w.heap.size w (w7.alloc (.cells #[.int .i64 1, .int .i64 x.k.fr, .int .i64 x.k.to, .slice x.A x.n x.c] 51))) := Lib.hid (BE.out.alloc BE.out.size _)
      have cx := World.cell?_alloc_mark w7 #[.int .i64 1, .int .i64 x.k.fr, .int .i64 x.k.to, .slice x.A x.n x.c] 51 (0, 0) 0
      have q0 : w7.heap.size < (w7.alloc (.cells #[.int .i64 1, .int .i64 x.k.fr, .int .i64 x.k.to, .slice x.A x.n x.c] 51)).heap.size := by simp
      have q1 : w7.heap.size ≠ b := by have := NE.out.lt; omega
      have q2 : vE.ownBlock ≠ some w7.heap.size := fun e => by have := NE.out.rowlt e; omega
      generalize w7.alloc (.cells #[.int .i64 1, .int .i64 x.k.fr, .int .i64 x.k.to, .slice x.A x.n x.c] 51) = w8 at *
      generalize w7.heap.size = q at *
      simp only [List.getElem?_toArray, List.getElem?_cons_zero] at cx
      have CX := Lib.hid cx
      clear bx cx NE BE
      go_wp2_with fail
      refine (sdeliver_any NF.out HW1.out 1).mono ?_
      rintro e w9 ⟨y, rfl, -, -, ho⟩
      rw [e5s] at ho
      obtain ⟨vG, FG, hNG, hbG, hkG⟩ := OutP.step NF.out ho
      obtain ⟨k1, k2⟩ := hkG q q0 q1 q2
      have NG := Lib.hid hNG
      have BG : Hid (Below w.heap.size w w9) := Lib.hid (BF.out.trans hbG)
      have CG : Hid (w9.cell? ⟨q, 0, none⟩ = some (.int .i64 1)) := Lib.hid ((World.cell?_of_block (a := ⟨q, 0, none⟩) k1).trans CX.out)
      have q3 : q < w9.heap.size := World.block_lt_of_cell? _ _ CG.out
      rw [e5]
      clear ho hNG hbG hkG NF BF CX k1 q2 q0
      unfold ltV
      go_upto_region 19 with (fail)
      have bx : Below w9.heap.size w9 (w9.alloc (.cells #[.int .i64 y.k.num, .int .i64 y.k.fr, .int .i64 y.k.to, .slice y.A y.n y.c] 51)) := (Below.refl _ _).alloc (Nat.le_refl _) _
      have NH := Lib.hid (NG.out.next bx)
      have BH : Hid (Below w.heap.size w (w9.alloc (.cells #[.int .i64 y.k.num, .int .i64 y.k.fr, .int .i64 y.k.to, .slice y.A y.n y.c] 51))) := Lib.hid (BG.out.alloc BG.out.size _)
      have CH := Lib.hid ((bx.cell (p := ⟨q, 0, none⟩) q3).trans CG.out)
      have q4 : q < (w9.alloc (.cells #[.int .i64 y.k.num, .int .i64 y.k.fr, .int .i64 y.k.to, .slice y.A y.n y.c] 51)).heap.size := Nat.lt_of_lt_of_le q3 bx.size
      generalize w9.alloc (.cells #[.int .i64 y.k.num, .int .i64 y.k.fr, .int .i64 y.k.to, .slice y.A y.n y.c] 51) = wa at *
      clear bx NG BG CG
      go_wp2_with fail
      refine (ssend_any NH.out HW1.out hl1 0 1 none 0 0 [] (ltB_nil _ _ _ _ _)).mono ?_
      rintro e wb ⟨rfl, ho⟩
      rw [e6s] at ho
      obtain ⟨vI, FI, hNI, hbI, hkI⟩ := OutP.step NH.out ho
      obtain ⟨k1, k3⟩ := hkI q q4 q1 k2
      have NI := Lib.hid hNI
      have BI : Hid (Below w.heap.size w wb) := Lib.hid (BH.out.trans hbI)
      have cI := (World.cell?_of_block (a := ⟨q, 0, none⟩) k1).trans CH.out
      have q5 : q < wb.heap.size := World.block_lt_of_cell? _ _ cI
      rw [e6, e6v]
      clear ho hNI hbI hkI NH BH CH k1 k2 q4 q3
      go_wp2_with fail
      refine (sdrop_any NI.out HW2.out 2).mono ?_
      rintro e wc ⟨rfl, ho⟩
      obtain ⟨vJ, FJ, hNJ, hbJ, hkJ⟩ := OutP.step NI.out ho
      have NJ := Lib.hid hNJ
      have BJ : Hid (Below w.heap.size w wc) := Lib.hid (BI.out.trans hbJ)
      rw [e7]
      clear ho hNJ hbJ hkJ NI BI cI
      go_wp2_with fail
      refine (sdrop_any NJ.out HW3.out 2).mono ?_
      rintro e wd ⟨rfl, ho⟩
      have BK : Hid (Below w.heap.size w wd) := Lib.hid (BJ.out.trans (NJ.out.fr_below ho.1))
      rw [e8]
      clear ho NJ BJ
      go_wp2_with fail
      go_ret
      exact ⟨rfl, BK.out⟩
end Go.Proofs.Ytlpdihcgdgkkbaa
