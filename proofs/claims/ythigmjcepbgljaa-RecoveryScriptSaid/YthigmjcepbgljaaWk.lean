/- The walk: the worked examples of the chapter on recovery. -/
import Derived.Test.YthigmjcepbgljaaWh
import Derived.Test.YthigmjcepbgljaaWj
namespace Go.Proofs.Ythigmjcepbgljaa
open Go.RowKit Go.St
set_option linter.unusedVariables false
set_option linter.unusedSimpArgs false
set_option maxRecDepth 100000

theorem BxQ.only {W W' : World} {B b g : Nat} {r : Rec} (h : BxQ W b r) (ho : Only B g W W') (hb : b < B) (hne : b ≠ g) : BxQ W' b r :=
  h.keep (Nat.lt_of_lt_of_le h.lt ho.size) (fun o => ho.cell (p := ⟨b, o, none⟩) hb hne) (fun o => ho.frozen (p := ⟨b, o, none⟩) hb hne)
theorem Rd.only {W W' : World} {B B0 g : Nat} {A : Option Addr} {xs : List Value} (h : Rd W B0 A xs) (ho : Only B g W W') (hb : B0 ≤ B) (hne : B0 ≤ g) : Rd W' B0 A xs :=
  h.keep (fun p hp => ho.cell (by omega) (by omega))
theorem verdict_is {r : Rec} {some : Bool} {At : Option Addr} {nt ct : Nat} {th : List Bool} {V E : Int} {B : Nat} {w : World} (hl : fit r) (ht : th.length = nt) (hnt : nt ≤ 140737488355328) (hr : Rd w B r.A (sv r.l)) (hrt : Rd w B At (lv th)) (hB : B ≤ w.heap.size) (hV : vdV r some th = V) (hE : vdE r some th = E) :
    Calls Try.prog 19 #[r.v, .bool some, .slice At nt ct] w fun e w' => e = .returned (.tuple #[.int .i64 V, .int .i64 E]) ∧ Below w.heap.size w w' := by
  subst hV hE
  exact verdict_any r hl B some At nt ct th ht hnt w hr hrt hB
theorem vdV_to (r : Rec) (A : Option Addr) (c : Nat) (some : Bool) (th : List Bool) : vdV (r.to A c) some th = vdV r some th := rfl
theorem vdE_to (r : Rec) (A : Option Addr) (c : Nat) (some : Bool) (th : List Bool) : vdE (r.to A c) some th = vdE r some th := rfl
theorem newE_to (r : Rec) (A : Option Addr) (c : Nat) : newE (r.to A c) = newE r := rfl
theorem rd_lv (w : World) (l : List Bool) (t : TypeId) : Rd (w.alloc (.cells (lv l).toArray t)) (w.heap.size + 1) (some ⟨w.heap.size, 0, none⟩) (lv l) := fun _ => by
  refine ⟨w.heap.size, 0, rfl, by omega, fun i v hv => ?_⟩
  rw [World.cell?_alloc_mark]
  simpa using hv
def abR : Rec := ⟨1, 2, 4, ⟨0, 0, 0⟩, none, 0, 0, [], 0, ⟨0, 0, 0⟩⟩
def cmR : Rec := { exR with st := 3 }

theorem example29_lit (w : World) : Calls Try.prog 17 #[] w fun e w' => ∃ A c, e = .returned (.agg #[.int .i32 1, .int .i32 2, .int .u8 2, .int .i64 9, .int .i32 0, .int .i32 17, .slice A 3 c, .int .i64 0, .int .i64 0, .int .i32 0, .int .i32 0]) ∧ RdN w' w.heap.size A (sv [tx 97, tx 98, tx 99]) ∧ Below w.heap.size w w' := example29_any w
set_option maxHeartbeats 3200000 in
theorem recoveryNames_walk (w : World) : Calls Try.prog 4 #[] w fun e w' => e = .returned (.bool true) ∧ Below w.heap.size w w' := by
  go_enter Try.func4, Try.ntmps4
  go_wp2_with fail
  refine (example29_lit _).mono ?_
  rintro e w1 ⟨A, c, rfl, hrn, hb⟩
  go_wp2_with fail
  have HB2 : Hid (Below w.heap.size w (w1.alloc (.cells #[.int .i32 1, .int .i32 2, .int .u8 2, .int .i64 9, .int .i32 0, .int .i32 17, .slice A 3 c, .int .i64 0, .int .i64 0, .int .i32 0, .int .i32 0] 30))) := Lib.hid (hb.alloc hb.size _)
  have X2 := Lib.hid (BxQ.new w1 ⟨1, 2, 2, ⟨9, 0, 17⟩, A, 3, c, [tx 97, tx 98, tx 99], 0, ⟨0, 0, 0⟩⟩ 30)
  have R2 : Hid (Rd (w1.alloc (.cells #[.int .i32 1, .int .i32 2, .int .u8 2, .int .i64 9, .int .i32 0, .int .i32 17, .slice A 3 c, .int .i64 0, .int .i64 0, .int .i32 0, .int .i32 0] 30)) w1.heap.size A (sv [tx 97, tx 98, tx 99])) := Lib.hid (hrn.rd.alloc (Nat.le_refl _) _)
  have htb : w.heap.size ≤ w1.heap.size := hb.size
  have zt : w1.heap.size < (w1.alloc (.cells #[.int .i32 1, .int .i32 2, .int .u8 2, .int .i64 9, .int .i32 0, .int .i32 17, .slice A 3 c, .int .i64 0, .int .i64 0, .int .i32 0, .int .i32 0] 30)).heap.size := by simp
  dsimp only at X2
  clear hb hrn
  generalize hw2 : (w1.alloc (.cells #[.int .i32 1, .int .i32 2, .int .u8 2, .int .i64 9, .int .i32 0, .int .i32 17, .slice A 3 c, .int .i64 0, .int .i64 0, .int .i32 0, .int .i32 0] 30)) = w2 at *
  generalize hw1 : w1.heap.size = tb at *
  clear hw1 hw2
  refine (new_is (r := exR.to A c) (w := w2) rfl (R2.out.more (by omega)) ev1 (ans := [0, 0, 0]) rfl).mono ?_
  rintro e w3 ⟨b, g, A', c', rfl, hW, hb⟩
  have hg : w2.heap.size ≤ g := hW.gl.1
  have HB3 : Hid (Below w.heap.size w w3) := Lib.hid (HB2.out.trans (hb.mono HB2.out.size))
  have X3 := Lib.hid (X2.out.next hb)
  have R3 : Hid (Rd w3 tb A (sv [tx 97, tx 98, tx 99])) := Lib.hid (R2.out.keep (fun p hp => hb.cell (Nat.lt_trans hp zt)))
  have HW3 := Lib.hid hW
  have zb3 : tb ≤ w3.heap.size := Nat.le_trans (Nat.le_of_lt zt) hb.size
  have hws : w.heap.size ≤ w2.heap.size := HB2.out.size
  clear hb hW X2 R2 HB2
  go_wp2_with fail
  refine (lives29_any _).mono ?_
  rintro e w4 ⟨rfl, hb⟩
  have HB4 : Hid (Below w.heap.size w w4) := Lib.hid (HB3.out.trans (hb.mono HB3.out.size))
  have X4 := Lib.hid (X3.out.next hb)
  have R4 : Hid (Rd w4 tb A (sv [tx 97, tx 98, tx 99])) := Lib.hid (R3.out.keep (fun p hp => hb.cell (Nat.lt_of_lt_of_le hp zb3)))
  have zb4 : tb ≤ w4.heap.size := Nat.le_trans zb3 hb.size
  have HW4 := Lib.hid (HW3.out.next hb)
  clear hb X3 R3 HB3 zb3 HW3

  have HB2s : w.heap.size ≤ w2.heap.size := hws
  go_wp2_with fail
  refine (got_is HW4.out (key := tx 98) (yes := true) ev2 ev3).mono ?_
  rintro e w5 ⟨rfl, ho, hW⟩
  have HB5 : Hid (Below w.heap.size w w5) := Lib.hid (Below.onto HB4.out ho (Nat.le_trans HB2s hg) HB4.out.size)
  have X5 := Lib.hid (X4.out.only ho X4.out.lt (by omega))
  have R5 := Lib.hid (Rd.only R4.out ho zb4 (by omega))
  have HW5 := Lib.hid hW
  have zb5 : tb ≤ w5.heap.size := Nat.le_trans zb4 ho.size
  clear ho hW X4 R4 HB4 HW4 zb4
  go_wp2_with fail
  refine (got_is HW5.out (key := tx 98) (yes := true) (E := 4) (show gotE exR.l [0, 1, 0] (tx 98) = 4 by decide +kernel) (ans' := [0, 1, 0]) (show gotA exR.l [0, 1, 0] (tx 98) true = [0, 1, 0] by decide +kernel)).mono ?_
  rintro e w6 ⟨rfl, ho, hW⟩
  have HB6 : Hid (Below w.heap.size w w6) := Lib.hid (Below.onto HB5.out ho (Nat.le_trans HB2s hg) HB5.out.size)
  have X6 := Lib.hid (X5.out.only ho X5.out.lt (by omega))
  have R6 := Lib.hid (Rd.only R5.out ho zb5 (by omega))
  have HW6 := Lib.hid hW
  have zb6 : tb ≤ w6.heap.size := Nat.le_trans zb5 ho.size
  clear ho hW X5 R5 HB5 HW5 zb5
  go_wp2_with fail
  refine (got_is HW6.out (key := tx 120) (yes := false) (E := 4) (show gotE exR.l [0, 1, 0] (tx 120) = 4 by decide +kernel) (ans' := [0, 1, 0]) (show gotA exR.l [0, 1, 0] (tx 120) false = [0, 1, 0] by decide +kernel)).mono ?_
  rintro e w7 ⟨rfl, ho, hW⟩
  have HB7 : Hid (Below w.heap.size w w7) := Lib.hid (Below.onto HB6.out ho (Nat.le_trans HB2s hg) HB6.out.size)
  have X7 := Lib.hid (X6.out.only ho X6.out.lt (by omega))
  have R7 := Lib.hid (Rd.only R6.out ho zb6 (by omega))
  have HW7 := Lib.hid hW
  have zb7 : tb ≤ w7.heap.size := Nat.le_trans zb6 ho.size
  clear ho hW X6 R6 HB6 HW6 zb6
  clear HW7 hg
  have q7 : tb < w7.heap.size := X7.out.lt
  obtain ⟨x0, x1, x2, x3, x4, x5, x6, x7, x8, x9, x10, x11, x12⟩ := X7.out
  dsimp only at x2 x3 x4 x5 x6 x7 x8 x9 x10 x11 x12
  go_wp2_with fail
  refine (verdict_is (r := exR.to A c) (some := true) (nt := 3) (th := [true, true, true]) (B := w7.heap.size + 1) (V := 2) (E := 0) rfl rfl (by omega) (Rd.more (Rd.alloc R7.out zb7 _) (by omega)) (rd_lv w7 [true, true, true] 4) (by simp) ((vdV_to _ _ _ _ _).trans (by decide +kernel)) ((vdE_to _ _ _ _ _).trans (by decide +kernel))).mono ?_
  rintro e w8 ⟨rfl, hb⟩
  have hb := ((Below.refl w7.heap.size w7).alloc (Nat.le_refl _) (.cells (lv [true, true, true]).toArray 4)).trans (hb.mono (by simp))
  clear x0 x1 x2 x3 x4 x5 x6 x7 x8 x9 x10 x11 x12 q7
  have HB8 : Hid (Below w.heap.size w w8) := Lib.hid (HB7.out.trans (hb.mono HB7.out.size))
  have X8 := Lib.hid (X7.out.next hb)
  have R8 : Hid (Rd w8 tb A (sv [tx 97, tx 98, tx 99])) := Lib.hid (R7.out.keep (fun p hp => hb.cell (Nat.lt_of_lt_of_le hp zb7)))
  have zb8 : tb ≤ w8.heap.size := Nat.le_trans zb7 hb.size
  clear hb X7 R7 HB7 zb7
  have q8 : tb < w8.heap.size := X8.out.lt
  obtain ⟨x0, x1, x2, x3, x4, x5, x6, x7, x8, x9, x10, x11, x12⟩ := X8.out
  dsimp only at x2 x3 x4 x5 x6 x7 x8 x9 x10 x11 x12
  go_wp2_with fail
  refine (verdict_is (r := exR.to A c) (some := true) (nt := 3) (th := [true, false, true]) (B := w8.heap.size + 1) (V := 1) (E := 0) rfl rfl (by omega) (Rd.more (Rd.alloc R8.out zb8 _) (by omega)) (rd_lv w8 [true, false, true] 4) (by simp) ((vdV_to _ _ _ _ _).trans (by decide +kernel)) ((vdE_to _ _ _ _ _).trans (by decide +kernel))).mono ?_
  rintro e w9 ⟨rfl, hb⟩
  have hb := ((Below.refl w8.heap.size w8).alloc (Nat.le_refl _) (.cells (lv [true, false, true]).toArray 4)).trans (hb.mono (by simp))
  clear x0 x1 x2 x3 x4 x5 x6 x7 x8 x9 x10 x11 x12 q8
  have HB9 : Hid (Below w.heap.size w w9) := Lib.hid (HB8.out.trans (hb.mono HB8.out.size))
  have X9 := Lib.hid (X8.out.next hb)
  have R9 : Hid (Rd w9 tb A (sv [tx 97, tx 98, tx 99])) := Lib.hid (R8.out.keep (fun p hp => hb.cell (Nat.lt_of_lt_of_le hp zb8)))
  have zb9 : tb ≤ w9.heap.size := Nat.le_trans zb8 hb.size
  clear hb X8 R8 HB8 zb8
  have q9 : tb < w9.heap.size := X9.out.lt
  obtain ⟨x0, x1, x2, x3, x4, x5, x6, x7, x8, x9, x10, x11, x12⟩ := X9.out
  dsimp only at x2 x3 x4 x5 x6 x7 x8 x9 x10 x11 x12
  go_wp2_with fail
  refine (verdict_is (r := exR.to A c) (some := false) (nt := 0) (th := []) (B := w9.heap.size) (V := 1) (E := 0) rfl rfl (by omega) (R9.out.more zb9) Rd.nil (Nat.le_refl _) ((vdV_to _ _ _ _ _).trans (by decide +kernel)) ((vdE_to _ _ _ _ _).trans (by decide +kernel))).mono ?_
  rintro e w10 ⟨rfl, hb⟩
  clear x0 x1 x2 x3 x4 x5 x6 x7 x8 x9 x10 x11 x12 q9
  have HB10 : Hid (Below w.heap.size w w10) := Lib.hid (HB9.out.trans (hb.mono HB9.out.size))
  have X10 := Lib.hid (X9.out.next hb)
  have R10 : Hid (Rd w10 tb A (sv [tx 97, tx 98, tx 99])) := Lib.hid (R9.out.keep (fun p hp => hb.cell (Nat.lt_of_lt_of_le hp zb9)))
  have zb10 : tb ≤ w10.heap.size := Nat.le_trans zb9 hb.size
  clear hb X9 R9 HB9 zb9
  have q10 : tb < w10.heap.size := X10.out.lt
  obtain ⟨x0, x1, x2, x3, x4, x5, x6, x7, x8, x9, x10, x11, x12⟩ := X10.out
  dsimp only at x2 x3 x4 x5 x6 x7 x8 x9 x10 x11 x12
  go_wp2_with fail
  refine (verdict_is (r := exR.to A c) (some := true) (nt := 0) (th := []) (B := w10.heap.size) (V := 0) (E := 2) rfl rfl (by omega) (R10.out.more zb10) Rd.nil (Nat.le_refl _) ((vdV_to _ _ _ _ _).trans (by decide +kernel)) ((vdE_to _ _ _ _ _).trans (by decide +kernel))).mono ?_
  rintro e w11 ⟨rfl, hb⟩
  clear x0 x1 x2 x3 x4 x5 x6 x7 x8 x9 x10 x11 x12 q10
  have HB11 : Hid (Below w.heap.size w w11) := Lib.hid (HB10.out.trans (hb.mono HB10.out.size))
  have X11 := Lib.hid (X10.out.next hb)
  have R11 : Hid (Rd w11 tb A (sv [tx 97, tx 98, tx 99])) := Lib.hid (R10.out.keep (fun p hp => hb.cell (Nat.lt_of_lt_of_le hp zb10)))
  have zb11 : tb ≤ w11.heap.size := Nat.le_trans zb10 hb.size
  clear hb X10 R10 HB10 zb10
  have q11 : tb < w11.heap.size := X11.out.lt
  obtain ⟨x0, x1, x2, x3, x4, x5, x6, x7, x8, x9, x10, x11, x12⟩ := X11.out
  dsimp only at x2 x3 x4 x5 x6 x7 x8 x9 x10 x11 x12
  go_wp2_with fail
  refine (verdict_is (r := abR) (some := true) (nt := 0) (th := []) (B := 0) (V := 3) (E := 0) rfl rfl (by omega) Rd.nil Rd.nil (Nat.zero_le _) (by decide +kernel) (by decide +kernel)).mono ?_
  rintro e w12 ⟨rfl, hb⟩
  clear x0 x1 x2 x3 x4 x5 x6 x7 x8 x9 x10 x11 x12 q11
  have HB12 : Hid (Below w.heap.size w w12) := Lib.hid (HB11.out.trans (hb.mono HB11.out.size))
  have X12 := Lib.hid (X11.out.next hb)
  have R12 : Hid (Rd w12 tb A (sv [tx 97, tx 98, tx 99])) := Lib.hid (R11.out.keep (fun p hp => hb.cell (Nat.lt_of_lt_of_le hp zb11)))
  have zb12 : tb ≤ w12.heap.size := Nat.le_trans zb11 hb.size
  clear hb X11 R11 HB11 zb11
  have q12 : tb < w12.heap.size := X12.out.lt
  obtain ⟨x0, x1, x2, x3, x4, x5, x6, x7, x8, x9, x10, x11, x12⟩ := X12.out
  dsimp only at x2 x3 x4 x5 x6 x7 x8 x9 x10 x11 x12
  have HZ : Hid (w12.heap.size ≤ (w12.setCell ⟨tb, 2, none⟩ (.int .u8 3)).heap.size) := Lib.hid (by simp [World.setCell])
  have HB13 : Hid (Below w.heap.size w (w12.setCell ⟨tb, 2, none⟩ (.int .u8 3))) := Lib.hid (HB12.out.setCell htb _)
  have X13 : Hid (BxQ (w12.setCell ⟨tb, 2, none⟩ (.int .u8 3)) tb ⟨1, 2, 3, ⟨9, 0, 17⟩, A, 3, c, [tx 97, tx 98, tx 99], 0, ⟨0, 0, 0⟩⟩) := Lib.hid (by constructor <;> first | (intro o; simp [x1]) | simp [go_sem, *])
  have R13 : Hid (Rd (w12.setCell ⟨tb, 2, none⟩ (.int .u8 3)) tb A (sv [tx 97, tx 98, tx 99])) := Lib.hid (Rd.setCell R12.out (Nat.le_refl _) _)
  have zb13 : tb ≤ (w12.setCell ⟨tb, 2, none⟩ (.int .u8 3)).heap.size := Nat.le_trans zb12 HZ.out
  clear x0 x1 x2 x3 x4 x5 x6 x7 x8 x9 x10 x11 x12 q12
  obtain ⟨x0, x1, x2, x3, x4, x5, x6, x7, x8, x9, x10, x11, x12⟩ := X12.out
  dsimp only at x2 x3 x4 x5 x6 x7 x8 x9 x10 x11 x12
  go_wp2_with fail
  clear x0 x1 x2 x3 x4 x5 x6 x7 x8 x9 x10 x11 x12 X12 R12 HB12 zb12 HZ
  generalize hw13 : (w12.setCell ⟨tb, 2, none⟩ (.int .u8 3)) = w13 at *
  clear hw13
  refine (verdict_is (r := cmR.to A c) (some := true) (nt := 0) (th := []) (B := w13.heap.size) (V := 2) (E := 0) rfl rfl (by omega) (R13.out.more zb13) Rd.nil (Nat.le_refl _) ((vdV_to _ _ _ _ _).trans (by decide +kernel)) ((vdE_to _ _ _ _ _).trans (by decide +kernel))).mono ?_
  rintro e w14 ⟨rfl, hb⟩
  have HB14 : Hid (Below w.heap.size w w14) := Lib.hid (HB13.out.trans (hb.mono HB13.out.size))
  have X14 := Lib.hid (X13.out.next hb)
  have R14 : Hid (Rd w14 tb A (sv [tx 97, tx 98, tx 99])) := Lib.hid (R13.out.keep (fun p hp => hb.cell (Nat.lt_of_lt_of_le hp zb13)))
  have zb14 : tb ≤ w14.heap.size := Nat.le_trans zb13 hb.size
  clear hb X13 R13 HB13 zb13
  have q14 : tb < w14.heap.size := X14.out.lt
  obtain ⟨x0, x1, x2, x3, x4, x5, x6, x7, x8, x9, x10, x11, x12⟩ := X14.out
  dsimp only at x2 x3 x4 x5 x6 x7 x8 x9 x10 x11 x12
  have hn := fun W hr => wnew_no (cmR.to A c) rfl W.heap.size W hr (Nat.le_refl _)
  have e2 : newE (cmR.to A c) = 2 := (newE_to _ _ _).trans (by decide +kernel)
  rw [e2] at hn
  have HN := Lib.hid hn; clear hn e2
  go_wp2_with fail
  refine (HN.out _ (R14.out.more zb14) (by decide)).mono ?_
  rintro e w15 ⟨rfl, hb⟩
  have HB15 : Hid (Below w.heap.size w w15) := Lib.hid (HB14.out.trans (hb.mono HB14.out.size))
  clear hb x0 x1 x2 x3 x4 x5 x6 x7 x8 x9 x10 x11 x12
  go_wp2
  go_ret
  exact ⟨rfl, HB15.out⟩
end Go.Proofs.Ythigmjcepbgljaa
