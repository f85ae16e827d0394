/- Walk: the chapter's first examples hold. -/
import Derived.Test.YtgikaglmeeeplaaIi
import Derived.Test.YtgikaglmeeeplaaCut
namespace Go.Proofs.Ytgikaglmeeeplaa
open Go.RowKit Go.St
set_option linter.unusedVariables false
set_option linter.unusedSimpArgs false
set_option maxRecDepth 100000

theorem ex24_1 : scanM exL [] ⟨4, 0, 0⟩ ⟨4, 0, 0⟩ (0, 0) [] = ⟨1, [(⟨#[97]⟩, ⟨#[121]⟩)], [], ⟨0, 0, 0⟩⟩ ∧ scanE exL [] ⟨4, 0, 0⟩ ⟨4, 0, 0⟩ = 0 := by decide +kernel
theorem ex24_2 : scanM exL [] ⟨4, 0, 0⟩ ⟨9, 0, 0⟩ (0, 0) [] = ⟨3, [], [], ⟨5, 0, 8⟩⟩ ∧ scanE exL [] ⟨4, 0, 0⟩ ⟨9, 0, 0⟩ = 0 := by decide +kernel
theorem ex24_3 : wrT exL [] (laidI ⟨#[97]⟩ ⟨4, 0, 17⟩) ⟨1, 0, 0⟩ = (⟨5, 0, 17⟩, false, 0) := by decide +kernel
/-- The chapter's cells, scanned at a stamp with nothing laid. -/
theorem scan_ex (t : Stp) (M : Sn) (hM : scanM exL [] ⟨4, 0, 0⟩ t (0, 0) [] = M ∧ scanE exL [] ⟨4, 0, 0⟩ t = 0) (b : Nat) (w : World) (hr : Rd w w.heap.size (some ⟨b, 0, none⟩) (cev exL)) :
    Calls Try.prog 16 #[.slice (some ⟨b, 0, none⟩) 3 3, .slice none 0 0, .agg #[.int .i64 4, .int .i32 0, .int .i32 0], .agg #[.int .i64 t.wall, .int .i32 t.logic, .int .i32 t.tag], .agg #[.int .i32 0, .int .i32 0], .slice none 0 0] w fun e w' => ∃ A c I d, e = .returned (.tuple #[.agg #[.int .i64 M.kind, .slice A M.rows.length c, .slice I M.its.length d, .int .i64 M.at_.wall, .int .i32 M.at_.logic, .int .i32 M.at_.tag], .int .i64 0]) ∧ Rd w' w'.heap.size A (kvv M.rows) ∧ Rd w' w'.heap.size I (itv M.its) ∧ Below w.heap.size w w' := by
  have h := scan24_any (some ⟨b, 0, none⟩) 3 3 exL rfl (by decide) none 0 0 [] rfl (by decide) ⟨4, 0, 0⟩ t (0, 0) none 0 0 [] rfl (by decide) w.heap.size w hr Rd.nil Rd.nil (Nat.le_refl _)
  rw [hM.1, hM.2] at h
  refine h.mono ?_
  rintro e w' ⟨⟨vr, vi, rfl, o1, o2⟩, hb⟩
  obtain ⟨A, c, rfl, -, r1⟩ := own_sl o1
  obtain ⟨I, d, rfl, -, r2⟩ := own_sl o2
  exact ⟨A, c, I, d, rfl, r1, r2, hb⟩

set_option maxHeartbeats 6400000 in
theorem lives24_any (w : World) : Calls Try.prog 7 #[] w fun e w' => e = .returned (.bool true) ∧ Below w.heap.size w w' := by
  go_enter Try.func7, Try.ntmps7
  go_wp2_with fail
  refine (example24_any _).mono ?_
  rintro e w1 ⟨b1, rfl, -, r1, hb1⟩
  have B1 := Lib.hid hb1
  have R1 := Lib.hid r1
  clear hb1 r1
  go_wp2_with fail
  refine (st24_any 4 0 0 _).mono ?_
  rintro e w2 ⟨rfl, hb2⟩
  have B2 := Lib.hid (B1.out.trans (hb2.mono B1.out.size))
  have R2 := Lib.hid ((R1.out.below hb2).more hb2.size)
  clear hb2 B1 R1
  go_wp2_with fail
  refine (st24_any 4 0 0 _).mono ?_
  rintro e w3 ⟨rfl, hb2⟩
  have B3 := Lib.hid (B2.out.trans (hb2.mono B2.out.size))
  have R3 := Lib.hid ((R2.out.below hb2).more hb2.size)
  clear hb2 B2 R2
  go_wp2_with fail
  refine (scan_ex ⟨4, 0, 0⟩ _ ex24_1 b1 _ R3.out).mono ?_
  rintro e w4 ⟨A1, c1, I1, d1, rfl, rr1, ri1, hb4⟩
  have B4 := Lib.hid (B3.out.trans (hb4.mono B3.out.size))
  have RR1 := Lib.hid rr1
  have RI1 := Lib.hid ri1
  clear hb4 B3 R3 rr1 ri1
  simp only [List.length_cons, List.length_nil, Nat.zero_add]
  go_wp2_with fail
  have X5 : Hid (BxV (w4.alloc (.cells #[.int .i64 1, .slice A1 1 c1, .slice I1 0 d1, .int .i64 0, .int .i32 0, .int .i32 0] 53)) w4.heap.size [.int .i64 1, .slice A1 1 c1, .slice I1 0 d1, .int .i64 0, .int .i32 0, .int .i32 0]) := Lib.hid (BxV.new _ _ _)
  have B5 := Lib.hid (B4.out.alloc B4.out.size (.cells #[.int .i64 1, .slice A1 1 c1, .slice I1 0 d1, .int .i64 0, .int .i32 0, .int .i32 0] 53))
  have RR5 := Lib.hid (RR1.out.alloc (Nat.le_refl _) (.cells #[.int .i64 1, .slice A1 1 c1, .slice I1 0 d1, .int .i64 0, .int .i32 0, .int .i32 0] 53))
  have RI5 := Lib.hid (RI1.out.alloc (Nat.le_refl _) (.cells #[.int .i64 1, .slice A1 1 c1, .slice I1 0 d1, .int .i64 0, .int .i32 0, .int .i32 0] 53))
  have hs5 : w4.heap.size ≤ (w4.alloc (.cells #[.int .i64 1, .slice A1 1 c1, .slice I1 0 d1, .int .i64 0, .int .i32 0, .int .i32 0] 53)).heap.size := by simp
  clear B4 RR1 RI1
  generalize hw5 : w4.alloc (.cells #[.int .i64 1, .slice A1 1 c1, .slice I1 0 d1, .int .i64 0, .int .i32 0, .int .i32 0] 53) = w5 at *
  generalize w4.heap.size = p1 at *
  clear hw5
  refine (example24_any _).mono ?_
  rintro e w6 ⟨b2, rfl, -, r1, hb1⟩
  have X6 := Lib.hid (X5.out.next hb1)
  have B6 := Lib.hid (B5.out.trans (hb1.mono B5.out.size))
  have RR6 := Lib.hid ((RR5.out.more hs5).below hb1)
  have RI6 := Lib.hid ((RI5.out.more hs5).below hb1)
  have hs6 : w5.heap.size ≤ w6.heap.size := hb1.size
  have R6 := Lib.hid r1
  clear hb1 r1 X5 B5 RR5 RI5
  go_wp2_with fail
  refine (st24_any 4 0 0 _).mono ?_
  rintro e w7 ⟨rfl, hb2⟩
  have B7 := Lib.hid (B6.out.trans (hb2.mono B6.out.size))
  have C7 := Lib.hid hb2
  have R7 := Lib.hid ((R6.out.below hb2).more hb2.size)
  clear hb2 B6 R6
  go_wp2_with fail
  refine (st24_any 9 0 0 _).mono ?_
  rintro e w8 ⟨rfl, hb2⟩
  have B8 := Lib.hid (B7.out.trans (hb2.mono B7.out.size))
  have C8 := Lib.hid (C7.out.trans (hb2.mono C7.out.size))
  have R8 := Lib.hid ((R7.out.below hb2).more hb2.size)
  clear hb2 B7 R7 C7
  go_wp2_with fail
  refine (scan_ex ⟨9, 0, 0⟩ _ ex24_2 b2 _ R8.out).mono ?_
  rintro e w9 ⟨A2, c2, I2, d2, rfl, rr1, ri1, hb4⟩
  have B9 := Lib.hid (B8.out.trans (hb4.mono B8.out.size))
  have C9 := C8.out.trans (hb4.mono C8.out.size)
  have X9 := Lib.hid (X6.out.next C9)
  have RR9 := Lib.hid (RR6.out.below (C9.mono hs6))
  have RI9 := Lib.hid (RI6.out.below (C9.mono hs6))
  have QR9 := Lib.hid rr1
  have QI9 := Lib.hid ri1
  have hs9 : w5.heap.size ≤ w9.heap.size := Nat.le_trans hs6 C9.size
  clear hb4 B8 R8 rr1 ri1 C9 C8 X6 RR6 RI6
  simp only [List.length_cons, List.length_nil, Nat.zero_add]
  go_wp2_with fail
  have P10 : Hid (BxV (w9.alloc (.cells #[.int .i64 3, .slice A2 0 c2, .slice I2 0 d2, .int .i64 5, .int .i32 0, .int .i32 8] 53)) w9.heap.size [.int .i64 3, .slice A2 0 c2, .slice I2 0 d2, .int .i64 5, .int .i32 0, .int .i32 8]) := Lib.hid (BxV.new _ _ _)
  have X10 := Lib.hid (X9.out.alloc (.cells #[.int .i64 3, .slice A2 0 c2, .slice I2 0 d2, .int .i64 5, .int .i32 0, .int .i32 8] 53))
  have B10 := Lib.hid (B9.out.alloc B9.out.size (.cells #[.int .i64 3, .slice A2 0 c2, .slice I2 0 d2, .int .i64 5, .int .i32 0, .int .i32 8] 53))
  have RR10 := Lib.hid (RR9.out.alloc hs9 (.cells #[.int .i64 3, .slice A2 0 c2, .slice I2 0 d2, .int .i64 5, .int .i32 0, .int .i32 8] 53))
  have RI10 := Lib.hid (RI9.out.alloc hs9 (.cells #[.int .i64 3, .slice A2 0 c2, .slice I2 0 d2, .int .i64 5, .int .i32 0, .int .i32 8] 53))
  have QR10 := Lib.hid (QR9.out.alloc (Nat.le_refl _) (.cells #[.int .i64 3, .slice A2 0 c2, .slice I2 0 d2, .int .i64 5, .int .i32 0, .int .i32 8] 53))
  have QI10 := Lib.hid (QI9.out.alloc (Nat.le_refl _) (.cells #[.int .i64 3, .slice A2 0 c2, .slice I2 0 d2, .int .i64 5, .int .i32 0, .int .i32 8] 53))
  have hs10 : w5.heap.size ≤ (w9.alloc (.cells #[.int .i64 3, .slice A2 0 c2, .slice I2 0 d2, .int .i64 5, .int .i32 0, .int .i32 8] 53)).heap.size := by simp; omega
  have ht10 : w9.heap.size ≤ (w9.alloc (.cells #[.int .i64 3, .slice A2 0 c2, .slice I2 0 d2, .int .i64 5, .int .i32 0, .int .i32 8] 53)).heap.size := by simp
  clear B9 X9 RR9 RI9 QR9 QI9
  generalize hw5 : w9.alloc (.cells #[.int .i64 3, .slice A2 0 c2, .slice I2 0 d2, .int .i64 5, .int .i32 0, .int .i32 8] 53) = w10 at *
  clear hw5
  generalize w9.heap.size = p2 at *
  refine (example24_any _).mono ?_
  rintro e w11 ⟨b3, rfl, -, r1, hb1⟩
  have D11 := Lib.hid hb1
  have B11 := Lib.hid (B10.out.trans (hb1.mono B10.out.size))
  have R11 := Lib.hid r1
  clear hb1 r1 B10
  go_wp2_with fail
  refine (st24_any 4 0 17 _).mono ?_
  rintro e w12 ⟨rfl, hb2⟩
  have B12 := Lib.hid (B11.out.trans (hb2.mono B11.out.size))
  have D12 := Lib.hid (D11.out.trans (hb2.mono D11.out.size))
  have R12 := Lib.hid ((R11.out.below hb2).more hb2.size)
  clear hb2 B11 R11 D11
  go_wp2_with fail
  refine (laid_any ⟨#[97]⟩ ⟨4, 0, 17⟩ _).mono ?_
  rintro e w13 ⟨rfl, hb2⟩
  have B13 := Lib.hid (B12.out.trans (hb2.mono B12.out.size))
  have D13 := Lib.hid (D12.out.trans (hb2.mono D12.out.size))
  have R13 := Lib.hid ((R12.out.below hb2).more hb2.size)
  clear hb2 B12 R12 D12
  unfold Itt.v laidI zeroS zE
  dsimp only
  go_wp2_with fail
  refine (st24_any 1 0 0 _).mono ?_
  rintro e w14 ⟨rfl, hb2⟩
  have B14 := Lib.hid (B13.out.trans (hb2.mono B13.out.size))
  have D14 := Lib.hid (D13.out.trans (hb2.mono D13.out.size))
  have R14 := Lib.hid ((R13.out.below hb2).more hb2.size)
  clear hb2 B13 R13 D13
  have HW := Lib.hid (fun W hr => write24_any (some ⟨b3, 0, none⟩) 3 3 exL rfl (by decide) none 0 0 [] rfl (by decide) (laidI ⟨#[97]⟩ ⟨4, 0, 17⟩) ⟨1, 0, 0⟩ W.heap.size W hr Rd.nil (Nat.le_refl _))
  rw [ex24_3] at HW
  unfold wrV Itt.v laidI zeroS zE at HW
  dsimp only at HW
  go_wp2_with fail
  refine (HW.out _ R14.out).mono ?_
  rintro e w15 ⟨rfl, hb2⟩
  have B15 := Lib.hid (B14.out.trans (hb2.mono B14.out.size))
  have D15 := D14.out.trans (hb2.mono D14.out.size)
  have P15 := Lib.hid (P10.out.next D15)
  have X15 := Lib.hid (X10.out.next D15)
  have RR15 := Lib.hid (RR10.out.below (D15.mono hs10))
  have RI15 := Lib.hid (RI10.out.below (D15.mono hs10))
  have QR15 := Lib.hid (QR10.out.below (D15.mono ht10))
  have QI15 := Lib.hid (QI10.out.below (D15.mono ht10))
  have hs15 : w5.heap.size ≤ w15.heap.size := Nat.le_trans hs10 D15.size
  have ht15 : p2 ≤ w15.heap.size := Nat.le_trans ht10 D15.size
  clear hb2 B14 R14 D14 D15 P10 X10 RR10 RI10 QR10 QI10 HW
  go_wp2_with fail
  have T16 : Hid (BxV (w15.alloc (.cells #[.int .i64 5, .int .i32 0, .int .i32 17] 25)) w15.heap.size [.int .i64 5, .int .i32 0, .int .i32 17]) := Lib.hid (BxV.new _ _ _)
  have P16 := Lib.hid (P15.out.alloc (.cells #[.int .i64 5, .int .i32 0, .int .i32 17] 25))
  have X16 := Lib.hid (X15.out.alloc (.cells #[.int .i64 5, .int .i32 0, .int .i32 17] 25))
  have B16 := Lib.hid (B15.out.alloc B15.out.size (.cells #[.int .i64 5, .int .i32 0, .int .i32 17] 25))
  have RR16 := Lib.hid (RR15.out.alloc hs15 (.cells #[.int .i64 5, .int .i32 0, .int .i32 17] 25))
  have RI16 := Lib.hid (RI15.out.alloc hs15 (.cells #[.int .i64 5, .int .i32 0, .int .i32 17] 25))
  have QR16 := Lib.hid (QR15.out.alloc ht15 (.cells #[.int .i64 5, .int .i32 0, .int .i32 17] 25))
  have QI16 := Lib.hid (QI15.out.alloc ht15 (.cells #[.int .i64 5, .int .i32 0, .int .i32 17] 25))
  have hs16 : w5.heap.size ≤ (w15.alloc (.cells #[.int .i64 5, .int .i32 0, .int .i32 17] 25)).heap.size := by simp; omega
  have ht16 : p2 ≤ (w15.alloc (.cells #[.int .i64 5, .int .i32 0, .int .i32 17] 25)).heap.size := by simp; omega
  clear B15 P15 X15 RR15 RI15 QR15 QI15
  generalize hw5 : w15.alloc (.cells #[.int .i64 5, .int .i32 0, .int .i32 17] 25) = w16 at *
  clear hw5
  generalize w15.heap.size = p3 at *
  refine wp_heldall (S := fun X => Below w16.heap.size w16 X) 33 (by kernel_rfl) rfl (Below.drew (Below.refl _ _)) (fun hHeld => ?_)
  refine takeL (i := 0) (v := ?_) rfl (by kernel_rfl) (by kernel_rfl) (by kernel_rfl) (fun _ _ _ h => h) ⟨by rfl, ?_⟩ (by first | assumption | trivial) ?_
  rotate_left
  · intro W9 hSw
    (try dsimp only at hSw)
    (have X9 := X16.out.next hSw; have r0 := X9.c 0 _ rfl; have r1 := X9.c 1 _ rfl; have r2 := X9.c 2 _ rfl; have r3 := X9.c 3 _ rfl; have r4 := X9.c 4 _ rfl; have r5 := X9.c 5 _ rfl)
    go_simp
    try with_reducible rfl
  (try simp only [Act.put, List.setIfInBounds_toArray, List.set_cons_zero, List.set_cons_succ])
  refine takeL (i := 1) (v := ?_) rfl (by kernel_rfl) (by kernel_rfl) (by kernel_rfl) (fun _ _ _ h => h) ⟨by rfl, ?_⟩ (by first | assumption | trivial) ?_
  rotate_left
  · intro W9 hSw
    (try dsimp only at hSw)
    (have X9 := X16.out.next hSw; have r0 := X9.c 0 _ rfl; have r1 := X9.c 1 _ rfl; have r2 := X9.c 2 _ rfl; have r3 := X9.c 3 _ rfl; have r4 := X9.c 4 _ rfl; have r5 := X9.c 5 _ rfl)
    go_simp
    try with_reducible rfl
  (try simp only [Act.put, List.setIfInBounds_toArray, List.set_cons_zero, List.set_cons_succ])
  refine takeL (i := 2) (v := ?_) rfl (by kernel_rfl) (by kernel_rfl) (by kernel_rfl) (fun _ _ _ h => h) ⟨by rfl, ?_⟩ (by first | assumption | trivial) ?_
  rotate_left
  · intro W9 hSw
    (try dsimp only at hSw)
    (have X9 := X16.out.next hSw; have r0 := X9.c 0 _ rfl; have r1 := X9.c 1 _ rfl; have r2 := X9.c 2 _ rfl; have r3 := X9.c 3 _ rfl; have r4 := X9.c 4 _ rfl; have r5 := X9.c 5 _ rfl)
    go_simp
    try with_reducible rfl
  (try simp only [Act.put, List.setIfInBounds_toArray, List.set_cons_zero, List.set_cons_succ])
  refine takeL (i := 3) (v := ?_) rfl (by kernel_rfl) (by kernel_rfl) (by kernel_rfl) (fun _ _ _ h => h) ⟨by rfl, ?_⟩ (by first | assumption | trivial) ?_
  rotate_left
  · intro W9 hSw
    (try dsimp only at hSw)
    (have X9 := X16.out.next hSw; have r0 := X9.c 0 _ rfl; have r1 := X9.c 1 _ rfl; have r2 := X9.c 2 _ rfl; have r3 := X9.c 3 _ rfl; have r4 := X9.c 4 _ rfl; have r5 := X9.c 5 _ rfl)
    go_simp
    try with_reducible rfl
  (try simp only [Act.put, List.setIfInBounds_toArray, List.set_cons_zero, List.set_cons_succ])
  refine takeL (i := 4) (v := ?_) rfl (by kernel_rfl) (by kernel_rfl) (by kernel_rfl) (fun _ _ _ h => h) ⟨by rfl, ?_⟩ (by first | assumption | trivial) ?_
  rotate_left
  · intro W9 hSw
    (try dsimp only at hSw)
    (have X9 := X16.out.next hSw; have r0 := X9.c 0 _ rfl; have r1 := X9.c 1 _ rfl; have r2 := X9.c 2 _ rfl; have r3 := X9.c 3 _ rfl; have r4 := X9.c 4 _ rfl; have r5 := X9.c 5 _ rfl)
    go_simp
    try with_reducible rfl
  (try simp only [Act.put, List.setIfInBounds_toArray, List.set_cons_zero, List.set_cons_succ])
  generalize w16.drew = X at *
  refine wpAnyH_ready (rs := [5]) (by kernel_rfl) (by simp) ?_
  refine consL rfl (by rfl) (fun K hK => ?_) ?_
  · go_simp
    have h6 : Below w16.heap.size w16 (X.alloc (.cells #[.string ⟨#[97]⟩, .string ⟨#[121]⟩] 67)) := hHeld.alloc hHeld.size _
    have rk : Rd (X.alloc (.cells #[.string ⟨#[97]⟩, .string ⟨#[121]⟩] 67)) (X.alloc (.cells #[.string ⟨#[97]⟩, .string ⟨#[121]⟩] 67)).heap.size (some ⟨X.heap.size, 0, none⟩) (kvv [(⟨#[97]⟩, ⟨#[121]⟩)]) := rd_frC X #[.string ⟨#[97]⟩, .string ⟨#[121]⟩] 67 (0, 0)
    refine hK.out _ _ h6 (fun _ => ?_)
    clear hK K
    generalize X.alloc (.cells #[.string ⟨#[97]⟩, .string ⟨#[121]⟩] 67) = X2 at *
    generalize X.heap.size = r2 at *
    (try simp only [Act.put, List.setIfInBounds_toArray, List.set_cons_zero, List.set_cons_succ])
    refine takeL (i := 6) (v := ?_) rfl (by kernel_rfl) (by kernel_rfl) (by kernel_rfl) (fun _ _ _ h => h) ⟨by rfl, ?_⟩ (by first | assumption | trivial) ?_
    rotate_left
    · intro W9 hSw
      (try dsimp only at hSw)
      go_simp
      try with_reducible rfl
    (try simp only [Act.put, List.setIfInBounds_toArray, List.set_cons_zero, List.set_cons_succ])
    refine wpAnyH_ready (rs := [7]) (by kernel_rfl) (by simp) ?_
    refine consL rfl (by rfl) (fun K hK => ?_) ?_
    · go_simp
      go_at_call 23
      have hsz := h6.size
      refine (seen_yes 1 ⟨0, 0, 0⟩ A1 1 c1 (some ⟨r2, 0, none⟩) 1 [(⟨#[97]⟩, ⟨#[121]⟩)] rfl (by decide) I1 0 d1 none 0 [] rfl (by decide) X2.heap.size X2 ((RR16.out.below (h6.mono hs16)).more (by omega)) rk Rd.nil Rd.nil (Nat.le_refl _)).mono ?_
      rintro e X3 ⟨rfl, hb3⟩
      have h7 : Below w16.heap.size w16 X3 := h6.trans (hb3.mono h6.size)
      refine hK.out _ _ h7 (fun _ => ?_)
      clear hK K rk hb3 h6 hsz hHeld
      (try simp only [Act.put, List.setIfInBounds_toArray, List.set_cons_zero, List.set_cons_succ])
      refine takeL (i := 8) (v := ?_) rfl (by kernel_rfl) (by kernel_rfl) (by kernel_rfl) (fun _ _ _ h => h) ⟨by rfl, ?_⟩ (by first | assumption | trivial) ?_
      rotate_left
      · intro W9 hSw
        (try dsimp only at hSw)
        (have X9 := P16.out.next hSw; have r0 := X9.c 0 _ rfl; have r1 := X9.c 1 _ rfl; have r2 := X9.c 2 _ rfl; have r3 := X9.c 3 _ rfl; have r4 := X9.c 4 _ rfl; have r5 := X9.c 5 _ rfl)
        go_simp
        try with_reducible rfl
      (try simp only [Act.put, List.setIfInBounds_toArray, List.set_cons_zero, List.set_cons_succ])
      refine takeL (i := 9) (v := ?_) rfl (by kernel_rfl) (by kernel_rfl) (by kernel_rfl) (fun _ _ _ h => h) ⟨by rfl, ?_⟩ (by first | assumption | trivial) ?_
      rotate_left
      · intro W9 hSw
        (try dsimp only at hSw)
        (have X9 := P16.out.next hSw; have r0 := X9.c 0 _ rfl; have r1 := X9.c 1 _ rfl; have r2 := X9.c 2 _ rfl; have r3 := X9.c 3 _ rfl; have r4 := X9.c 4 _ rfl; have r5 := X9.c 5 _ rfl)
        go_simp
        try with_reducible rfl
      (try simp only [Act.put, List.setIfInBounds_toArray, List.set_cons_zero, List.set_cons_succ])
      refine takeL (i := 10) (v := ?_) rfl (by kernel_rfl) (by kernel_rfl) (by kernel_rfl) (fun _ _ _ h => h) ⟨by rfl, ?_⟩ (by first | assumption | trivial) ?_
      rotate_left
      · intro W9 hSw
        (try dsimp only at hSw)
        (have X9 := P16.out.next hSw; have r0 := X9.c 0 _ rfl; have r1 := X9.c 1 _ rfl; have r2 := X9.c 2 _ rfl; have r3 := X9.c 3 _ rfl; have r4 := X9.c 4 _ rfl; have r5 := X9.c 5 _ rfl)
        go_simp
        try with_reducible rfl
      (try simp only [Act.put, List.setIfInBounds_toArray, List.set_cons_zero, List.set_cons_succ])
      refine takeL (i := 11) (v := ?_) rfl (by kernel_rfl) (by kernel_rfl) (by kernel_rfl) (fun _ _ _ h => h) ⟨by rfl, ?_⟩ (by first | assumption | trivial) ?_
      rotate_left
      · intro W9 hSw
        (try dsimp only at hSw)
        (have X9 := P16.out.next hSw; have r0 := X9.c 0 _ rfl; have r1 := X9.c 1 _ rfl; have r2 := X9.c 2 _ rfl; have r3 := X9.c 3 _ rfl; have r4 := X9.c 4 _ rfl; have r5 := X9.c 5 _ rfl)
        go_simp
        try with_reducible rfl
      (try simp only [Act.put, List.setIfInBounds_toArray, List.set_cons_zero, List.set_cons_succ])
      refine takeL (i := 12) (v := ?_) rfl (by kernel_rfl) (by kernel_rfl) (by kernel_rfl) (fun _ _ _ h => h) ⟨by rfl, ?_⟩ (by first | assumption | trivial) ?_
      rotate_left
      · intro W9 hSw
        (try dsimp only at hSw)
        (have X9 := P16.out.next hSw; have r0 := X9.c 0 _ rfl; have r1 := X9.c 1 _ rfl; have r2 := X9.c 2 _ rfl; have r3 := X9.c 3 _ rfl; have r4 := X9.c 4 _ rfl; have r5 := X9.c 5 _ rfl)
        go_simp
        try with_reducible rfl
      (try simp only [Act.put, List.setIfInBounds_toArray, List.set_cons_zero, List.set_cons_succ])
      refine takeL (i := 13) (v := ?_) rfl (by kernel_rfl) (by kernel_rfl) (by kernel_rfl) (fun _ _ _ h => h) ⟨by rfl, ?_⟩ (by first | assumption | trivial) ?_
      rotate_left
      · intro W9 hSw
        (try dsimp only at hSw)
        (have X9 := P16.out.next hSw; have r0 := X9.c 0 _ rfl; have r1 := X9.c 1 _ rfl; have r2 := X9.c 2 _ rfl; have r3 := X9.c 3 _ rfl; have r4 := X9.c 4 _ rfl; have r5 := X9.c 5 _ rfl)
        go_simp
        try with_reducible rfl
      (try simp only [Act.put, List.setIfInBounds_toArray, List.set_cons_zero, List.set_cons_succ])
      refine takeL (i := 14) (v := ?_) rfl (by kernel_rfl) (by kernel_rfl) (by kernel_rfl) (fun _ _ _ h => h) ⟨by rfl, ?_⟩ (by first | assumption | trivial) ?_
      rotate_left
      · intro W9 hSw
        (try dsimp only at hSw)
        (have X9 := P16.out.next hSw; have r0 := X9.c 0 _ rfl; have r1 := X9.c 1 _ rfl; have r2 := X9.c 2 _ rfl; have r3 := X9.c 3 _ rfl; have r4 := X9.c 4 _ rfl; have r5 := X9.c 5 _ rfl)
        go_simp
        try with_reducible rfl
      (try simp only [Act.put, List.setIfInBounds_toArray, List.set_cons_zero, List.set_cons_succ])
      refine wpAnyH_ready (rs := [15]) (by kernel_rfl) (by simp) ?_
      refine consL rfl (by rfl) (fun K hK => ?_) ?_
      · go_simp
        go_at_call 15
        refine (st24_any 5 0 8 _).mono ?_
        rintro e X4 ⟨rfl, hb4⟩
        have h8 : Below w16.heap.size w16 X4 := h7.trans (hb4.mono h7.size)
        refine hK.out _ _ h8 (fun _ => ?_)
        clear hK K hb4 h7
        (try simp only [Act.put, List.setIfInBounds_toArray, List.set_cons_zero, List.set_cons_succ])
        refine takeL (i := 16) (v := ?_) rfl (by kernel_rfl) (by kernel_rfl) (by kernel_rfl) (fun _ _ _ h => h) ⟨by rfl, ?_⟩ (by first | assumption | trivial) ?_
        rotate_left
        · intro W9 hSw
          (try dsimp only at hSw)
          go_simp
          try with_reducible rfl
        (try simp only [Act.put, List.setIfInBounds_toArray, List.set_cons_zero, List.set_cons_succ])
        refine wpAnyH_ready (rs := [17]) (by kernel_rfl) (by simp) ?_
        refine consL rfl (by rfl) (fun K hK => ?_) ?_
        · go_simp
          go_at_call 23
          have hsz := h8.size
          refine (seen_yes 3 ⟨5, 0, 8⟩ A2 0 c2 none 0 [] rfl (by decide) I2 0 d2 none 0 [] rfl (by decide) X4.heap.size X4 Rd.nil Rd.nil Rd.nil Rd.nil (Nat.le_refl _)).mono ?_
          rintro e X5 ⟨rfl, hb5⟩
          have h9 : Below w16.heap.size w16 X5 := h8.trans (hb5.mono h8.size)
          refine hK.out _ _ h9 (fun _ => ?_)
          clear hK K hb5 h8 hsz
          (try simp only [Act.put, List.setIfInBounds_toArray, List.set_cons_zero, List.set_cons_succ])
          refine takeL (i := 18) (v := ?_) rfl (by kernel_rfl) (by kernel_rfl) (by kernel_rfl) (fun _ _ _ h => h) ⟨by rfl, ?_⟩ (by first | assumption | trivial) ?_
          rotate_left
          · intro W9 hSw
            (try dsimp only at hSw)
            (have X9 := T16.out.next hSw; have r0 := X9.c 0 _ rfl; have r1 := X9.c 1 _ rfl; have r2 := X9.c 2 _ rfl)
            go_simp
            try with_reducible rfl
          (try simp only [Act.put, List.setIfInBounds_toArray, List.set_cons_zero, List.set_cons_succ])
          refine takeL (i := 19) (v := ?_) rfl (by kernel_rfl) (by kernel_rfl) (by kernel_rfl) (fun _ _ _ h => h) ⟨by rfl, ?_⟩ (by first | assumption | trivial) ?_
          rotate_left
          · intro W9 hSw
            (try dsimp only at hSw)
            (have X9 := T16.out.next hSw; have r0 := X9.c 0 _ rfl; have r1 := X9.c 1 _ rfl; have r2 := X9.c 2 _ rfl)
            go_simp
            try with_reducible rfl
          (try simp only [Act.put, List.setIfInBounds_toArray, List.set_cons_zero, List.set_cons_succ])
          refine takeL (i := 20) (v := ?_) rfl (by kernel_rfl) (by kernel_rfl) (by kernel_rfl) (fun _ _ _ h => h) ⟨by rfl, ?_⟩ (by first | assumption | trivial) ?_
          rotate_left
          · intro W9 hSw
            (try dsimp only at hSw)
            (have X9 := T16.out.next hSw; have r0 := X9.c 0 _ rfl; have r1 := X9.c 1 _ rfl; have r2 := X9.c 2 _ rfl)
            go_simp
            try with_reducible rfl
          (try simp only [Act.put, List.setIfInBounds_toArray, List.set_cons_zero, List.set_cons_succ])
          refine wpAnyH_ready (rs := [21]) (by kernel_rfl) (by simp) ?_
          refine consL rfl (by rfl) (fun K hK => ?_) ?_
          · go_simp
            go_at_call 15
            refine (st24_any 5 0 17 _).mono ?_
            rintro e X6 ⟨rfl, hb6⟩
            have h10 : Below w16.heap.size w16 X6 := h9.trans (hb6.mono h9.size)
            refine hK.out _ _ h10 (fun _ => ?_)
            clear hK K hb6 h9
            (try simp only [Act.put, List.setIfInBounds_toArray, List.set_cons_zero, List.set_cons_succ])
            refine takeL (i := 22) (v := ?_) rfl (by kernel_rfl) (by kernel_rfl) (by kernel_rfl) (fun _ _ _ h => h) ⟨by rfl, ?_⟩ (by first | assumption | trivial) ?_
            rotate_left
            · intro W9 hSw
              (try dsimp only at hSw)
              go_simp
              try with_reducible rfl
            (try simp only [Act.put, List.setIfInBounds_toArray, List.set_cons_zero, List.set_cons_succ])
            refine takeL (i := 23) (v := ?_) rfl (by kernel_rfl) (by kernel_rfl) (by kernel_rfl) (fun _ _ _ h => h) ⟨by rfl, ?_⟩ (by first | assumption | trivial) ?_
            rotate_left
            · intro W9 hSw
              (try dsimp only at hSw)
              go_simp
              try with_reducible rfl
            (try simp only [Act.put, List.setIfInBounds_toArray, List.set_cons_zero, List.set_cons_succ])
            refine takeL (i := 24) (v := ?_) rfl (by kernel_rfl) (by kernel_rfl) (by kernel_rfl) (fun _ _ _ h => h) ⟨by rfl, ?_⟩ (by first | assumption | trivial) ?_
            rotate_left
            · intro W9 hSw
              (try dsimp only at hSw)
              go_simp
              try with_reducible rfl
            (try simp only [Act.put, List.setIfInBounds_toArray, List.set_cons_zero, List.set_cons_succ])
            refine takeL (i := 25) (v := ?_) rfl (by kernel_rfl) (by kernel_rfl) (by kernel_rfl) (fun _ _ _ h => h) ⟨by rfl, ?_⟩ (by first | assumption | trivial) ?_
            rotate_left
            · intro W9 hSw
              (try dsimp only at hSw)
              go_simp
              try with_reducible rfl
            (try simp only [Act.put, List.setIfInBounds_toArray, List.set_cons_zero, List.set_cons_succ])
            refine takeL (i := 26) (v := ?_) rfl (by kernel_rfl) (by kernel_rfl) (by kernel_rfl) (fun _ _ _ h => h) ⟨by rfl, ?_⟩ (by first | assumption | trivial) ?_
            rotate_left
            · intro W9 hSw
              (try dsimp only at hSw)
              go_simp
              try with_reducible rfl
            (try simp only [Act.put, List.setIfInBounds_toArray, List.set_cons_zero, List.set_cons_succ])
            refine takeL (i := 27) (v := ?_) rfl (by kernel_rfl) (by kernel_rfl) (by kernel_rfl) (fun _ _ _ h => h) ⟨by rfl, ?_⟩ (by first | assumption | trivial) ?_
            rotate_left
            · intro W9 hSw
              (try dsimp only at hSw)
              go_simp
              try with_reducible rfl
            (try simp only [Act.put, List.setIfInBounds_toArray, List.set_cons_zero, List.set_cons_succ])
            refine takeL (i := 28) (v := ?_) rfl (by kernel_rfl) (by kernel_rfl) (by kernel_rfl) (fun _ _ _ h => h) ⟨by rfl, ?_⟩ (by first | assumption | trivial) ?_
            rotate_left
            · intro W9 hSw
              (try dsimp only at hSw)
              go_simp
              try with_reducible rfl
            (try simp only [Act.put, List.setIfInBounds_toArray, List.set_cons_zero, List.set_cons_succ])
            refine takeL (i := 29) (v := ?_) rfl (by kernel_rfl) (by kernel_rfl) (by kernel_rfl) (fun _ _ _ h => h) ⟨by rfl, ?_⟩ (by first | assumption | trivial) ?_
            rotate_left
            · intro W9 hSw
              (try dsimp only at hSw)
              go_simp
              try with_reducible rfl
            (try simp only [Act.put, List.setIfInBounds_toArray, List.set_cons_zero, List.set_cons_succ])
            refine takeL (i := 30) (v := ?_) rfl (by kernel_rfl) (by kernel_rfl) (by kernel_rfl) (fun _ _ _ h => h) ⟨by rfl, ?_⟩ (by first | assumption | trivial) ?_
            rotate_left
            · intro W9 hSw
              (try dsimp only at hSw)
              go_simp
              try with_reducible rfl
            (try simp only [Act.put, List.setIfInBounds_toArray, List.set_cons_zero, List.set_cons_succ])
            refine takeL (i := 31) (v := ?_) rfl (by kernel_rfl) (by kernel_rfl) (by kernel_rfl) (fun _ _ _ h => h) ⟨by rfl, ?_⟩ (by first | assumption | trivial) ?_
            rotate_left
            · intro W9 hSw
              (try dsimp only at hSw)
              go_simp
              try with_reducible rfl
            (try simp only [Act.put, List.setIfInBounds_toArray, List.set_cons_zero, List.set_cons_succ])
            refine takeL (i := 32) (v := ?_) rfl (by kernel_rfl) (by kernel_rfl) (by kernel_rfl) (fun _ _ _ h => h) ⟨by rfl, ?_⟩ (by first | assumption | trivial) ?_
            rotate_left
            · intro W9 hSw
              (try dsimp only at hSw)
              go_simp
              try with_reducible rfl
            (try simp only [Act.put, List.setIfInBounds_toArray, List.set_cons_zero, List.set_cons_succ])
            refine wpAnyH_done (by kernel_rfl) ?_ _
            go_wp2_with fail
            go_ret
            exact ⟨rfl, B16.out.trans (h10.mono B16.out.size)⟩
          · exact AllReadyH.nil
        · exact AllReadyH.nil
      · exact AllReadyH.nil
    · exact AllReadyH.nil
  · exact AllReadyH.nil
end Go.Proofs.Ytgikaglmeeeplaa
