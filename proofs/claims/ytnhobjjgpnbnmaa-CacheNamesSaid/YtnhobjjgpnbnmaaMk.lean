/- The walk: the worked examples of the chapter on the read cache. -/
import Derived.Test.YtnhobjjgpnbnmaaMe
import Derived.Test.YtnhobjjgpnbnmaaMj
import Derived.Deep.CutRange
namespace Go.Proofs.Ytnhobjjgpnbnmaa
open Go.RowKit Go.St
set_option linter.unusedVariables false
set_option linter.unusedSimpArgs false
set_option maxRecDepth 100000

theorem clen_is {W : World} {base b : Nat} {v : Value} {s : Stp} {l : List Mk} (h : CaB 63 W base b v s l) {x : Int} (hx : (l.length : Int) = x) : Calls Try.prog 17 #[.pointer (some ⟨b, 0, none⟩)] W fun e w' => e = .returned (.int .i64 x) ∧ W = w' := by
  subst hx
  exact clen_any h
def exE : Mk := ⟨⟨#[98]⟩, ⟨#[98]⟩, ⟨9, 0, 0⟩, 0, 1⟩
theorem cread_exE {W : World} {base b : Nat} {v : Value} {s : Stp} {l : List Mk} (h : CaB 63 W base b v s l) :
    Calls Try.prog 10 #[.pointer (some ⟨b, 0, none⟩), .agg #[.string ⟨#[98]⟩, .string ⟨#[98]⟩], .agg #[.int .i64 9, .int .i32 0, .int .i32 0], .agg #[.int .i32 0, .int .i32 1]] W fun e w' => e = .returned (.int .i64 0) ∧ Below W.heap.size W w' :=
  cread_emp h exE (by decide +kernel) (by decide +kernel)
theorem exd1 : maxS ⟨1, 0, 0⟩ ⟨6, 0, 0⟩ = ⟨6, 0, 0⟩ := stp_ext (by decide +kernel) (by decide +kernel) (by decide +kernel)
theorem exd2 : dropL ⟨6, 0, 0⟩ [exM] = [] := by
  have h : less ⟨6, 0, 0⟩ exM.a = false := by decide +kernel
  simp [dropL, h]
theorem craise_ex {W : World} {base b : Nat} {v : Value} (h : CaB 63 W base b v ⟨1, 0, 0⟩ [exM]) :
    Calls Try.prog 11 #[.pointer (some ⟨b, 0, none⟩), .agg #[.int .i64 6, .int .i32 0, .int .i32 0]] W fun e w' => e = .returned (.int .i64 0) ∧ RdP 63 base b v.ownBlock ⟨6, 0, 0⟩ [] W w' := by
  have := craise_ok h ⟨6, 0, 0⟩ (by decide +kernel)
  rw [exd1, exd2] at this
  exact this
theorem cnew_ex (w : World) : Calls Try.prog 8 #[.agg #[.int .i64 (-1), .int .i32 0, .int .i32 0]] w fun e w' => e = .returned (.tuple #[.pointer none, .int .i64 2]) ∧ Below w.heap.size w w' :=
  cnew_no ⟨-1, 0, 0⟩ (by decide +kernel) w

set_option maxHeartbeats 3200000 in
theorem cacheNames_walk (w : World) : Calls Try.prog 4 #[] w fun e w' => e = .returned (.bool true) ∧ Below w.heap.size w w' := by
  go_enter Try.func4, Try.ntmps4
  go_wp2_with fail
  refine (st26_any 1 0 0 _).mono ?_
  rintro e w1 ⟨rfl, hb1⟩
  go_wp2_with fail
  refine (cnew_ok ⟨1, 0, 0⟩ (by decide) w1).mono ?_
  rintro e w2 ⟨b, rfl, hC, hb2⟩
  have B2 : Hid (Below w.heap.size w w2) := Lib.hid (hb1.trans (hb2.mono hb1.size))
  have C2 := Lib.hid hC
  have hw1 : w.heap.size ≤ w1.heap.size := hb1.size
  have hbw : w.heap.size ≤ b := Nat.le_trans hb1.size hC.lo
  clear hb1 hb2 hC
  go_wp2_with fail
  have P3 : Hid (TxB (w2.alloc (.cells #[.int .i32 0, .int .i32 1] 35)) w2.heap.size 0 1) := Lib.hid (txb_new w2 0 1)
  have hk : Below w2.heap.size w2 (w2.alloc (.cells #[.int .i32 0, .int .i32 1] 35)) := by go_grown
  have C3 := Lib.hid (C2.out.next hk)
  have B3 : Hid (Below w.heap.size w (w2.alloc (.cells #[.int .i32 0, .int .i32 1] 35))) := Lib.hid (B2.out.trans (hk.mono B2.out.size))
  have hbp : b < w2.heap.size := C2.out.lt
  have hwp : w.heap.size ≤ w2.heap.size := B2.out.size
  clear hk B2 C2
  generalize hw3 : (w2.alloc (.cells #[.int .i32 0, .int .i32 1] 35)) = w3 at *
  generalize hp : w2.heap.size = p at *
  clear hw3 hp w2
  refine (lives26_any w3).mono ?_
  rintro e w4 ⟨rfl, hb⟩
  have P4 := Lib.hid (P3.out.next hb); have C4 := Lib.hid (C3.out.next hb); have B4 := Lib.hid (B3.out.trans (hb.mono B3.out.size))
  clear hb P3 C3 B3 w3
  go_upto_region 5 with (fail)
  go_cut [4] from 32 to 36 (fun s wc => s = .int .i64 0 ∧ ∃ v, Hid (CaB 63 wc w1.heap.size b v ⟨1, 0, 0⟩ [exM] ∧ Below w.heap.size w wc ∧ TxB wc p 0 1 ∧ v.ownBlock ≠ some p))
  case first =>
    refine wp_heldcut (S := fun W => TxB W p 0 1) 5 (by kernel_rfl) (by kernel_rfl) (P4.out.next (Below.drew (Below.refl _ _))) (fun hHeld => ?_)
    simp only [List.take_succ_cons, List.take_zero]
    refine takeL (i := 0) (v := ?_) rfl (by kernel_rfl) (by kernel_rfl) (by kernel_rfl) (fun _ _ _ h => h) ⟨by rfl, ?_⟩ (by assumption) ?_
    rotate_left
    · intro W9 hSw
      (try dsimp only at hSw)
      go_simp
      try with_reducible rfl
    (try simp only [Act.put, List.setIfInBounds_toArray, List.set_cons_zero, List.set_cons_succ])
    refine takeL (i := 1) (v := ?_) rfl (by kernel_rfl) (by kernel_rfl) (by kernel_rfl) (fun _ _ _ h => h) ⟨by rfl, ?_⟩ (by assumption) ?_
    rotate_left
    · intro W9 hSw
      (try dsimp only at hSw)
      go_simp
      try with_reducible rfl
    (try simp only [Act.put, List.setIfInBounds_toArray, List.set_cons_zero, List.set_cons_succ])
    refine takeL (i := 3) (v := ?_) rfl (by kernel_rfl) (by kernel_rfl) (by kernel_rfl) (fun _ _ _ h => h) ⟨by rfl, ?_⟩ (by assumption) ?_
    rotate_left
    · intro W9 hSw
      (try dsimp only at hSw)
      obtain ⟨s0, s1, s2⟩ := hSw
      go_simp
      try with_reducible rfl
    (try simp only [Act.put, List.setIfInBounds_toArray, List.set_cons_zero, List.set_cons_succ])
    have kX : Below w4.heap.size w4 w4.drew := Below.drew (Below.refl _ _)
    have hX := hHeld
    clear hHeld
    generalize w4.drew = X at *
    refine wpAnyH_ready (rs := [2]) (by kernel_rfl) (by simp) ?_
    refine consL rfl (by rfl) (fun K hK => ?_) ?_
    · go_simp
      go_at_call 18
      refine (st26_any 5 0 9 X).mono ?_
      rintro e X2 ⟨rfl, hb⟩
      refine hK.out _ _ (hX.next hb) (fun hX' => ?_)
      have k2 := kX.trans (hb.mono kX.size)
      clear hK K hX kX hb X
      have C5 := C4.out.next k2
      refine wpAnyH_ready (rs := [4]) (by kernel_rfl) (by simp) ?_
      refine consL rfl (by rfl) (fun K hK => ?_) ?_
      · go_simp
        go_at_call 10
        refine (cread_ex C5).mono ?_
        rintro e X3 ⟨rfl, hf, v3, hC, hv⟩
        have hlt : ∀ g, (Value.slice none 0 0).ownBlock = some g → w.heap.size ≤ g := fun g e => by cases e
        have P1' := hX'.fr hf (by omega) (by simp [Value.ownBlock])
        have B6 : Below w.heap.size w X3 := by
          have h1 := B4.out.trans (k2.mono B4.out.size)
          exact h1.trans (hf.to_below h1.size hbw hlt)
        have hvp : v3.ownBlock ≠ some p := by
          intro e
          rcases hv with h | h
          · rw [h] at e; cases e
          · have h1 := h p e
            have h2 := hX'.lt
            omega
        refine hK.out _ _ P1' (fun hX3 => ?_)
        have HQ : Hid (CaB 63 X3 w1.heap.size b v3 ⟨1, 0, 0⟩ [exM] ∧ Below w.heap.size w X3 ∧ TxB X3 p 0 1 ∧ v3.ownBlock ≠ some p) := Lib.hid ⟨hC, B6, P1', hvp⟩
        clear hK K hX' k2 C5 hf hC hv P1' B6 hlt hvp hX3
        refine wpAnyH_done (by kernel_rfl) ?_ _
        simp only [tailPost, List.drop_succ_cons, List.drop_zero]
        go_wp2_with fail
        go_meet
        case rel => exact ⟨rfl, v3, HQ⟩
      exact AllReadyH.nil
    exact AllReadyH.nil
  case rest =>
    obtain ⟨rfl, v, hq⟩ := hcut
    obtain ⟨w5, rfl⟩ : ∃ x, x = wc := ⟨_, rfl⟩
    have C5 := Lib.hid hq.out.1; have B5 := Lib.hid hq.out.2.1; have P5 := Lib.hid hq.out.2.2.1
    have hvp := hq.out.2.2.2
    clear hq C4 B4 P4
    go_upto_region 6 with (fail)
    go_cut [5] from 37 to 41 (fun s wc => s = .int .i64 0 ∧ Hid (Below w5.heap.size w5 wc))
    case first =>
      refine wp_heldcut (S := fun W => TxB W p 0 1) 5 (by kernel_rfl) (by kernel_rfl) (P5.out.next (Below.drew (Below.refl _ _))) (fun hHeld => ?_)
      simp only [List.take_succ_cons, List.take_zero]
      refine takeL (i := 0) (v := ?_) rfl (by kernel_rfl) (by kernel_rfl) (by kernel_rfl) (fun _ _ _ h => h) ⟨by rfl, ?_⟩ (by assumption) ?_
      rotate_left
      · intro W9 hSw
        (try dsimp only at hSw)
        go_simp
        try with_reducible rfl
      (try simp only [Act.put, List.setIfInBounds_toArray, List.set_cons_zero, List.set_cons_succ])
      refine takeL (i := 1) (v := ?_) rfl (by kernel_rfl) (by kernel_rfl) (by kernel_rfl) (fun _ _ _ h => h) ⟨by rfl, ?_⟩ (by assumption) ?_
      rotate_left
      · intro W9 hSw
        (try dsimp only at hSw)
        go_simp
        try with_reducible rfl
      (try simp only [Act.put, List.setIfInBounds_toArray, List.set_cons_zero, List.set_cons_succ])
      refine takeL (i := 3) (v := ?_) rfl (by kernel_rfl) (by kernel_rfl) (by kernel_rfl) (fun _ _ _ h => h) ⟨by rfl, ?_⟩ (by assumption) ?_
      rotate_left
      · intro W9 hSw
        (try dsimp only at hSw)
        obtain ⟨s0, s1, s2⟩ := hSw
        go_simp
        try with_reducible rfl
      (try simp only [Act.put, List.setIfInBounds_toArray, List.set_cons_zero, List.set_cons_succ])
      have kX : Below w5.heap.size w5 w5.drew := Below.drew (Below.refl _ _)
      have hX := hHeld
      clear hHeld
      generalize w5.drew = X at *
      refine wpAnyH_ready (rs := [2]) (by kernel_rfl) (by simp) ?_
      refine consL rfl (by rfl) (fun K hK => ?_) ?_
      · go_simp
        go_at_call 18
        refine (st26_any 9 0 0 X).mono ?_
        rintro e X2 ⟨rfl, hb⟩
        refine hK.out _ _ (hX.next hb) (fun hX' => ?_)
        have k2 := kX.trans (hb.mono kX.size)
        clear hK K hX kX hb X
        have C6 := C5.out.next k2
        refine wpAnyH_ready (rs := [4]) (by kernel_rfl) (by simp) ?_
        refine consL rfl (by rfl) (fun K hK => ?_) ?_
        · go_simp
          go_at_call 10
          refine (cread_exE C6).mono ?_
          rintro e X3 ⟨rfl, hb⟩
          refine hK.out _ _ (hX'.next hb) (fun hX3 => ?_)
          have HQ := Lib.hid (k2.trans (hb.mono k2.size))
          clear hK K hX' k2 C6 hb hX3
          refine wpAnyH_done (by kernel_rfl) ?_ _
          simp only [tailPost, List.drop_succ_cons, List.drop_zero]
          go_wp2_with fail
          go_meet
          case rel => exact ⟨rfl, HQ⟩
        exact AllReadyH.nil
      exact AllReadyH.nil
    case rest =>
      obtain ⟨rfl, hq⟩ := hcut
      obtain ⟨w6, rfl⟩ : ∃ x, x = wc := ⟨_, rfl⟩
      have C6 := Lib.hid (C5.out.next hq.out); have B6 := Lib.hid (B5.out.trans (hq.out.mono B5.out.size)); have P6 := Lib.hid (P5.out.next hq.out)
      clear hq C5 B5 P5
      go_wp2_with fail
      refine (clen_is (x := 1) C6.out rfl).mono ?_
      rintro e w' ⟨rfl, rfl⟩
      go_wp2_with fail
      refine (st26_any 6 0 0 w6).mono ?_
      rintro e w7 ⟨rfl, hb⟩
      have C7 := Lib.hid (C6.out.next hb); have B7 := Lib.hid (B6.out.trans (hb.mono B6.out.size)); have P7 := Lib.hid (P6.out.next hb)
      clear hb C6 B6 P6
      go_wp2_with fail
      refine (craise_ex C7.out).mono ?_
      rintro e w8 ⟨rfl, hf, v8, hC, hv⟩
      have C8 := Lib.hid hC
      have B8 : Hid (Below w.heap.size w w8) := Lib.hid (B7.out.trans (hf.to_below B7.out.size hbw (fun g e => Nat.le_trans hw1 (C7.out.own.lt g e).1)))
      have P8 := Lib.hid (P7.out.fr hf (by omega) hvp)
      clear hf hC hv C7 B7 P7
      go_wp2_with fail
      refine (st26_any (-1) 0 0 w8).mono ?_
      rintro e w9 ⟨rfl, hb⟩
      have C9 := Lib.hid (C8.out.next hb); have B9 := Lib.hid (B8.out.trans (hb.mono B8.out.size)); have P9 := Lib.hid (P8.out.next hb)
      clear hb C8 B8 P8
      go_wp2_with fail
      refine (cnew_ex w9).mono ?_
      rintro e w10 ⟨rfl, hb⟩
      have C10 := Lib.hid (C9.out.next hb); have B10 := Lib.hid (B9.out.trans (hb.mono B9.out.size)); have P10 := Lib.hid (P9.out.next hb)
      clear hb C9 B9 P9
      have q0 := P10.out.c0; have q1 := P10.out.c1
      go_wp2_with fail
      refine (cat_is (x := 6) (y := 0) (z := 0) C10.out rfl).mono ?_
      rintro e w11 ⟨rfl, hb⟩
      have C11 := Lib.hid (C10.out.next hb); have B11 := Lib.hid (B10.out.trans (hb.mono B10.out.size))
      clear hb C10 B10 P10 q0 q1
      go_wp2_with fail
      refine (st26_any 6 0 0 w11).mono ?_
      rintro e w12 ⟨rfl, hb⟩
      have C12 := Lib.hid (C11.out.next hb); have B12 := Lib.hid (B11.out.trans (hb.mono B11.out.size))
      clear hb C11 B11
      go_wp2_with fail
      refine (clen_is (x := 0) C12.out rfl).mono ?_
      rintro e w' ⟨rfl, rfl⟩
      go_wp2_with fail
      refine (clow_any C12.out).mono ?_
      rintro e w13 ⟨rfl, hb⟩
      have B13 := Lib.hid (B12.out.trans (hb.mono B12.out.size))
      clear hb C12 B12
      go_wp2_with fail
      refine (st26_any 6 0 0 w13).mono ?_
      rintro e w14 ⟨rfl, hb⟩
      have B14 := Lib.hid (B13.out.trans (hb.mono B13.out.size))
      clear hb B13
      go_wp2_with fail
      go_ret
      exact ⟨rfl, B14.out⟩
end Go.Proofs.Ytnhobjjgpnbnmaa
