/- Walks: the chapter's first examples of a read cache. -/
import Derived.Test.YtnhobjjgpnbnmaaMd
import Derived.Deep.CutRange
namespace Go.Proofs.Ytnhobjjgpnbnmaa
open Go.RowKit Go.St
set_option linter.unusedVariables false
set_option linter.unusedSimpArgs false
set_option maxRecDepth 100000

theorem cat_is {W : World} {base b : Nat} {v : Value} {s : Stp} {l : List Mk} (h : CaB 63 W base b v s l) {k : ByteArray} {nd nu : Int} {x y z : Int} (hv : atF (atP k nd nu) s l = ⟨x, y, z⟩) :
    Calls Try.prog 15 #[.pointer (some ⟨b, 0, none⟩), .string k, .agg #[.int .i32 nd, .int .i32 nu]] W fun e w' => e = .returned (.agg #[.int .i64 x, .int .i32 y, .int .i32 z]) ∧ Below W.heap.size W w' := by
  have := cat_any h k nd nu
  rw [hv] at this
  exact this
def exM : Mk := ⟨⟨#[97]⟩, ⟨#[99]⟩, ⟨5, 0, 9⟩, 0, 1⟩
theorem exm1 : chk exM.a = 0 := by decide +kernel
theorem exm2 : sEmp exM.f exM.t = false := by decide +kernel
theorem exm3 : less ⟨1, 0, 0⟩ exM.a = true := by decide +kernel
theorem exa1 : atF (atP ⟨#[98]⟩ 0 2) ⟨1, 0, 0⟩ [exM] = ⟨5, 0, 9⟩ := stp_ext (by decide +kernel) (by decide +kernel) (by decide +kernel)
theorem exa2 : atF (atP ⟨#[98]⟩ 0 1) ⟨1, 0, 0⟩ [exM] = ⟨1, 0, 0⟩ := stp_ext (by decide +kernel) (by decide +kernel) (by decide +kernel)
theorem exa3 : atF (atP ⟨#[99]⟩ 0 2) ⟨1, 0, 0⟩ [exM] = ⟨1, 0, 0⟩ := stp_ext (by decide +kernel) (by decide +kernel) (by decide +kernel)
theorem cread_ex {W : World} {base b : Nat} {v : Value} (h : CaB 63 W base b v ⟨1, 0, 0⟩ []) :
    Calls Try.prog 10 #[.pointer (some ⟨b, 0, none⟩), .agg #[.string ⟨#[97]⟩, .string ⟨#[99]⟩], .agg #[.int .i64 5, .int .i32 0, .int .i32 9], .agg #[.int .i32 0, .int .i32 1]] W fun e w' => e = .returned (.int .i64 0) ∧ RdP 63 base b v.ownBlock ⟨1, 0, 0⟩ [exM] W w' :=
  cread_put h exM exm1 exm2 exm3 (by decide)
/-- A transaction in a block. -/
structure TxB (W : World) (p : Nat) (nd nu : Int) : Prop where
  lt : p < W.heap.size
  c0 : W.cell? ⟨p, 0, none⟩ = some (.int .i32 nd)
  c1 : W.cell? ⟨p, 1, none⟩ = some (.int .i32 nu)
theorem TxB.keep {W W' : World} {p : Nat} {nd nu : Int} (h : TxB W p nd nu) (hs : W.heap.size ≤ W'.heap.size) (hc : ∀ o, W'.cell? ⟨p, o, none⟩ = W.cell? ⟨p, o, none⟩) : TxB W' p nd nu := ⟨Nat.lt_of_lt_of_le h.lt hs, (hc 0).trans h.c0, (hc 1).trans h.c1⟩
theorem TxB.next {W W' : World} {p : Nat} {nd nu : Int} (h : TxB W p nd nu) (hb : Below W.heap.size W W') : TxB W' p nd nu := h.keep hb.size (fun o => hb.cell (p := ⟨p, o, none⟩) h.lt)
theorem TxB.fr {W W' : World} {p b : Nat} {row : Option Nat} {nd nu : Int} (h : TxB W p nd nu) (hf : Fr b row W W') (h1 : p ≠ b) (h2 : row ≠ some p) : TxB W' p nd nu := h.keep hf.size (fun o => hf.cell (p := ⟨p, o, none⟩) h.lt h1 h2)
theorem txb_new (W : World) (nd nu : Int) : TxB (W.alloc (.cells #[.int .i32 nd, .int .i32 nu] 35)) W.heap.size nd nu := by constructor <;> simp

set_option maxHeartbeats 1600000 in
theorem lives26_any (w : World) : Calls Try.prog 7 #[] w fun e w' => e = .returned (.bool true) ∧ Below w.heap.size w w' := by
  go_enter Try.func7, Try.ntmps7
  go_wp2_with fail
  refine (st26_any 1 0 0 _).mono ?_
  rintro e w1 ⟨rfl, hb1⟩
  go_wp2_with fail
  refine (cnew_ok ⟨1, 0, 0⟩ (by decide) w1).mono ?_
  rintro e w2 ⟨b, rfl, hC, hb2⟩
  have B2 : Hid (Below w.heap.size w w2) := Lib.hid (hb1.trans (hb2.mono hb1.size))
  have C2 := Lib.hid hC
  have hbw : w.heap.size ≤ b := Nat.le_trans hb1.size hC.lo
  clear hb1 hb2 hC
  go_upto_region 3 with (fail)
  have P1 : Hid (TxB ((w2.alloc (.cells #[.int .i32 0, .int .i32 1] 35)).alloc (.cells #[.int .i32 0, .int .i32 2] 35)) w2.heap.size 0 1) := Lib.hid ((txb_new w2 0 1).next ((Below.refl _ _).alloc (Nat.le_refl _) _))
  have P2 : Hid (TxB ((w2.alloc (.cells #[.int .i32 0, .int .i32 1] 35)).alloc (.cells #[.int .i32 0, .int .i32 2] 35)) (w2.heap.size + 1) 0 2) := by
    have := txb_new (w2.alloc (.cells #[.int .i32 0, .int .i32 1] 35)) 0 2
    rw [World.size_alloc] at this
    exact Lib.hid this
  have hk : Below w2.heap.size w2 ((w2.alloc (.cells #[.int .i32 0, .int .i32 1] 35)).alloc (.cells #[.int .i32 0, .int .i32 2] 35)) := by go_grown
  have C3 := Lib.hid (C2.out.next hk)
  have B3 : Hid (Below w.heap.size w ((w2.alloc (.cells #[.int .i32 0, .int .i32 1] 35)).alloc (.cells #[.int .i32 0, .int .i32 2] 35))) := Lib.hid (B2.out.trans (hk.mono B2.out.size))
  have hbp : b < w2.heap.size := C2.out.lt
  have hwp : w.heap.size ≤ w2.heap.size := B2.out.size
  clear hk B2 C2
  generalize hw3 : (w2.alloc (.cells #[.int .i32 0, .int .i32 1] 35)).alloc (.cells #[.int .i32 0, .int .i32 2] 35) = w3 at *
  generalize hp : w2.heap.size = p at *
  clear hw3 hp w2
  go_cut [25] from 12 to 24 (fun s wc => s = .bool false ∧ ∃ v, Hid (CaB 63 wc w1.heap.size b v ⟨1, 0, 0⟩ [exM] ∧ Below w.heap.size w wc ∧ TxB wc p 0 1 ∧ TxB wc (p + 1) 0 2))
  case first =>
    refine wp_heldall (S := fun W => TxB W p 0 1) 14 (by kernel_rfl) rfl (P1.out.next (Below.drew (Below.refl _ _))) (fun hHeld => ?_)
    refine takeL (i := 0) (v := ?_) rfl (by kernel_rfl) (by kernel_rfl) (by kernel_rfl) (fun _ _ _ h => h) ⟨by rfl, ?_⟩ (by assumption) ?_
    rotate_left
    · intro W9 hSw
      (try dsimp only at hSw)
      go_simp
      try with_reducible rfl
    (try simp only [Act.put, List.setIfInBounds_toArray, List.set_cons_zero, List.set_cons_succ])
    refine takeL (i := 1) (v := ?_) rfl (by kernel_rfl) (by kernel_rfl) (by kernel_rfl) (fun _ _ _ h => h) ⟨by rfl, ?_⟩ (by assumption) ?_
    rotate_left
    · intro W9 hSw
      (try dsimp only at hSw)
      go_simp
      try with_reducible rfl
    (try simp only [Act.put, List.setIfInBounds_toArray, List.set_cons_zero, List.set_cons_succ])
    refine takeL (i := 2) (v := ?_) rfl (by kernel_rfl) (by kernel_rfl) (by kernel_rfl) (fun _ _ _ h => h) ⟨by rfl, ?_⟩ (by assumption) ?_
    rotate_left
    · intro W9 hSw
      (try dsimp only at hSw)
      go_simp
      try with_reducible rfl
    (try simp only [Act.put, List.setIfInBounds_toArray, List.set_cons_zero, List.set_cons_succ])
    refine takeL (i := 3) (v := ?_) rfl (by kernel_rfl) (by kernel_rfl) (by kernel_rfl) (fun _ _ _ h => h) ⟨by rfl, ?_⟩ (by assumption) ?_
    rotate_left
    · intro W9 hSw
      (try dsimp only at hSw)
      go_simp
      try with_reducible rfl
    (try simp only [Act.put, List.setIfInBounds_toArray, List.set_cons_zero, List.set_cons_succ])
    refine takeL (i := 4) (v := ?_) rfl (by kernel_rfl) (by kernel_rfl) (by kernel_rfl) (fun _ _ _ h => h) ⟨by rfl, ?_⟩ (by assumption) ?_
    rotate_left
    · intro W9 hSw
      (try dsimp only at hSw)
      go_simp
      try with_reducible rfl
    (try simp only [Act.put, List.setIfInBounds_toArray, List.set_cons_zero, List.set_cons_succ])
    refine takeL (i := 5) (v := ?_) rfl (by kernel_rfl) (by kernel_rfl) (by kernel_rfl) (fun _ _ _ h => h) ⟨by rfl, ?_⟩ (by assumption) ?_
    rotate_left
    · intro W9 hSw
      (try dsimp only at hSw)
      go_simp
      try with_reducible rfl
    (try simp only [Act.put, List.setIfInBounds_toArray, List.set_cons_zero, List.set_cons_succ])
    refine takeL (i := 6) (v := ?_) rfl (by kernel_rfl) (by kernel_rfl) (by kernel_rfl) (fun _ _ _ h => h) ⟨by rfl, ?_⟩ (by assumption) ?_
    rotate_left
    · intro W9 hSw
      (try dsimp only at hSw)
      go_simp
      try with_reducible rfl
    (try simp only [Act.put, List.setIfInBounds_toArray, List.set_cons_zero, List.set_cons_succ])
    refine takeL (i := 7) (v := ?_) rfl (by kernel_rfl) (by kernel_rfl) (by kernel_rfl) (fun _ _ _ h => h) ⟨by rfl, ?_⟩ (by assumption) ?_
    rotate_left
    · intro W9 hSw
      (try dsimp only at hSw)
      go_simp
      try with_reducible rfl
    (try simp only [Act.put, List.setIfInBounds_toArray, List.set_cons_zero, List.set_cons_succ])
    refine takeL (i := 8) (v := ?_) rfl (by kernel_rfl) (by kernel_rfl) (by kernel_rfl) (fun _ _ _ h => h) ⟨by rfl, ?_⟩ (by assumption) ?_
    rotate_left
    · intro W9 hSw
      (try dsimp only at hSw)
      go_simp
      try with_reducible rfl
    (try simp only [Act.put, List.setIfInBounds_toArray, List.set_cons_zero, List.set_cons_succ])
    refine takeL (i := 10) (v := ?_) rfl (by kernel_rfl) (by kernel_rfl) (by kernel_rfl) (fun _ _ _ h => h) ⟨by rfl, ?_⟩ (by assumption) ?_
    rotate_left
    · intro W9 hSw
      (try dsimp only at hSw)
      obtain ⟨s0, s1, s2⟩ := hSw
      go_simp
      try with_reducible rfl
    (try simp only [Act.put, List.setIfInBounds_toArray, List.set_cons_zero, List.set_cons_succ])
    have kX : Below w3.heap.size w3 w3.drew := Below.drew (Below.refl _ _)
    have hX := hHeld
    clear hHeld
    generalize w3.drew = X at *
    refine wpAnyH_ready (rs := [9]) (by kernel_rfl) (by simp) ?_
    refine consL rfl (by rfl) (fun K hK => ?_) ?_
    · go_simp
      go_at_call 18
      refine (st26_any 5 0 9 X).mono ?_
      rintro e X2 ⟨rfl, hb⟩
      refine hK.out _ _ (hX.next hb) (fun hX' => ?_)
      have k2 := kX.trans (hb.mono kX.size)
      clear hK K hX kX hb X
      have C4 := C3.out.next k2
      refine wpAnyH_ready (rs := [11]) (by kernel_rfl) (by simp) ?_
      refine consL rfl (by rfl) (fun K hK => ?_) ?_
      · go_simp
        go_at_call 10
        refine (cread_ex C4).mono ?_
        rintro e X3 ⟨rfl, hf, v3, hC, hv⟩
        have hlt : ∀ g, (Value.slice none 0 0).ownBlock = some g → w.heap.size ≤ g := fun g e => by cases e
        have P1' := hX'.fr hf (by omega) (by simp [Value.ownBlock])
        have P2' := (P2.out.next k2).fr hf (by omega) (by simp [Value.ownBlock])
        have B4 : Below w.heap.size w X3 := by
          have h1 := B3.out.trans (k2.mono B3.out.size)
          exact h1.trans (hf.to_below h1.size hbw hlt)
        refine hK.out _ _ P1' (fun hX3 => ?_)
        have HQ : Hid (CaB 63 X3 w1.heap.size b v3 ⟨1, 0, 0⟩ [exM] ∧ Below w.heap.size w X3 ∧ TxB X3 p 0 1 ∧ TxB X3 (p + 1) 0 2) := Lib.hid ⟨hC, B4, P1', P2'⟩
        clear hK K hX' k2 C4 hf hC hv P1' P2' B4 hlt
        refine takeL (i := 12) (v := ?_) rfl (by kernel_rfl) (by kernel_rfl) (by kernel_rfl) (fun _ _ _ h => h) ⟨by rfl, ?_⟩ (by assumption) ?_
        rotate_left
        · intro W9 hSw
          (try dsimp only at hSw)
          go_simp
          try with_reducible rfl
        (try simp only [Act.put, List.setIfInBounds_toArray, List.set_cons_zero, List.set_cons_succ])
        refine takeL (i := 13) (v := ?_) rfl (by kernel_rfl) (by kernel_rfl) (by kernel_rfl) (fun _ _ _ h => h) ⟨by rfl, ?_⟩ (by assumption) ?_
        rotate_left
        · intro W9 hSw
          (try dsimp only at hSw)
          go_simp
          try with_reducible rfl
        (try simp only [Act.put, List.setIfInBounds_toArray, List.set_cons_zero, List.set_cons_succ])
        refine wpAnyH_done (by kernel_rfl) ?_ _
        clear hX3
        go_wp2_with fail
        go_meet
        case rel => exact ⟨rfl, v3, HQ⟩
      exact AllReadyH.nil
    exact AllReadyH.nil
  case rest =>
    obtain ⟨rfl, v, hq⟩ := hcut
    obtain ⟨hC, hB, h1, h2⟩ := hq.out
    have HC := Lib.hid hC; have HB := Lib.hid hB; have H1 := Lib.hid h1; have H2 := Lib.hid h2
    clear hq hC hB h1 h2 C3 B3 P1 P2
    have q0 := H2.out.c0; have q1 := H2.out.c1
    go_wp2_with fail
    refine (cat_is HC.out exa1).mono ?_
    rintro e v1 ⟨rfl, hb⟩
    have HC1 := Lib.hid (HC.out.next hb); have HB1 := Lib.hid (HB.out.trans (hb.mono HB.out.size)); have H11 := Lib.hid (H1.out.next hb); have H21 := Lib.hid (H2.out.next hb)
    clear hb HC HB H1 H2 q0 q1
    go_wp2_with fail
    refine (st26_any 5 0 9 v1).mono ?_
    rintro e v2 ⟨rfl, hb⟩
    have HC2 := Lib.hid (HC1.out.next hb); have HB2 := Lib.hid (HB1.out.trans (hb.mono HB1.out.size)); have H12 := Lib.hid (H11.out.next hb); have H22 := Lib.hid (H21.out.next hb)
    clear hb HC1 HB1 H11 H21
    have q0 := H12.out.c0; have q1 := H12.out.c1
    go_wp2_with fail
    refine (cat_is HC2.out exa2).mono ?_
    rintro e v3 ⟨rfl, hb⟩
    have HC3 := Lib.hid (HC2.out.next hb); have HB3 := Lib.hid (HB2.out.trans (hb.mono HB2.out.size)); have H23 := Lib.hid (H22.out.next hb)
    clear hb HC2 HB2 H12 H22 q0 q1
    go_wp2_with fail
    refine (st26_any 1 0 0 v3).mono ?_
    rintro e v4 ⟨rfl, hb⟩
    have HC4 := Lib.hid (HC3.out.next hb); have HB4 := Lib.hid (HB3.out.trans (hb.mono HB3.out.size)); have H24 := Lib.hid (H23.out.next hb)
    clear hb HC3 HB3 H23
    have q0 := H24.out.c0; have q1 := H24.out.c1
    go_wp2_with fail
    refine (cat_is HC4.out exa3).mono ?_
    rintro e v5 ⟨rfl, hb⟩
    have HB5 := Lib.hid (HB4.out.trans (hb.mono HB4.out.size))
    clear hb HC4 HB4 H24 q0 q1
    go_wp2_with fail
    refine (st26_any 1 0 0 v5).mono ?_
    rintro e v6 ⟨rfl, hb⟩
    have HB6 := Lib.hid (HB5.out.trans (hb.mono HB5.out.size))
    clear hb HB5
    go_wp2_with fail
    go_ret
    exact ⟨rfl, HB6.out⟩
end Go.Proofs.Ytnhobjjgpnbnmaa
