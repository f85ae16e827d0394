/- Walk: the layer's numbers. -/
import Derived.Test.YtjhgbdeadkoegaaLo
import Derived.Test.YtjhgbdeadkoegaaGh
namespace Go.Proofs.Ytjhgbdeadkoegaa
open Go.RowKit Go.St Go.Shelf Go.Maps
set_option linter.unusedVariables false
set_option linter.unusedSimpArgs false
set_option maxRecDepth 100000

theorem nm0 : fndE (exM.map Prod.fst) { data := #[98] } 0 = Ent.z ∧ isE (exM.map Prod.fst) { data := #[98] } 0 = false := by decide +kernel
theorem nm3 : fndE (exM.map Prod.fst) { data := #[98] } 3 = xB3 ∧ isE (exM.map Prod.fst) { data := #[98] } 3 = true := by decide +kernel
theorem nmz : Ent.z.v = .agg #[.string { data := #[] }, .string { data := #[] }, .int .i64 0, .bool false] := rfl
theorem nmb : xB3.v = .agg #[.string { data := #[98] }, .string { data := #[] }, .int .i64 3, .bool false] := rfl
theorem nml : lnL 1 exM = [0, 1, 2] ∧ lnL 2 exM = [1, 2] ∧ lnL 3 exM = [1] ∧ lnL 4 exM = [] := by decide +kernel
theorem nmc : cst { data := #[98] } 3 exM = 4 ∧ cst { data := #[97] } 2 exM = 3 := by decide +kernel
def xZ1 : Ent := ⟨zB, zB, 1, false⟩
theorem nma : addC xB3 exM = 9 ∧ addL [2, 1, 3] xB3 exM = exM ∧ addC xZ1 exM = 2 ∧ addL [2, 1, 3] xZ1 exM = exM ∧ szL exM = 3 := by decide +kernel
-- $1 old, $2 new world; $3 the boxes carried: (from hb)
set_option maxHeartbeats 3200000 in
theorem memNames_walk (w : World) : Calls Try.prog 6 #[] w fun e w' => e = .returned (.bool true) ∧ Below w.heap.size w w' := by
  have HEX := Lib.hid (example_any w)
  go_enter Try.func6, Try.ntmps6
  go_wp2_with fail
  refine HEX.out.mono ?_
  rintro r w1 ⟨T, rfl, hm, hb⟩
  have M1 := Lib.hid hm
  have B1 := Lib.hid hb
  clear hm hb HEX
  go_wp2_with fail
  refine (lives6_any w1).mono ?_
  rintro r w2 ⟨rfl, hb⟩
  have M2 := Lib.hid (M1.out.next hb)
  have B2 := Lib.hid (B1.out.trans (hb.mono B1.out.size))
  clear hb M1 B1
  go_wp2_with fail
  refine (mget_any _ T [2, 1, 3] exM (by decide) { data := #[98] } 0 w2 M2.out).mono ?_
  rintro r w3 ⟨rfl, hb⟩
  rw [nm0.1, nm0.2, nmz]
  have M3 := Lib.hid (M2.out.next hb)
  have B3 := Lib.hid (B2.out.trans (hb.mono B2.out.size))
  clear hb M2 B2
  go_wp2_with fail
  have hb : Below w3.heap.size w3 (w3.alloc (.cells #[.string { data := #[] }, .string { data := #[] }, .int .i64 0, .bool false] 32)) := (Below.refl _ _).alloc (Nat.le_refl _) _
  obtain ⟨w4, hw4⟩ : ∃ x, x = w3.alloc (.cells #[.string { data := #[] }, .string { data := #[] }, .int .i64 0, .bool false] 32) := ⟨_, rfl⟩
  rw [← hw4] at hb ⊢
  clear hw4
  have M4 := Lib.hid (M3.out.next hb)
  have B4 := Lib.hid (B3.out.trans (hb.mono B3.out.size))
  clear hb M3 B3
  refine (mget_any _ T [2, 1, 3] exM (by decide) { data := #[98] } 3 w4 M4.out).mono ?_
  rintro r w5 ⟨rfl, hb⟩
  rw [nm3.1, nm3.2, nmb]
  have M5 := Lib.hid (M4.out.next hb)
  have B5 := Lib.hid (B4.out.trans (hb.mono B4.out.size))
  clear hb M4 B4
  go_upto_region 6 with (fail)
  have hb : Below w5.heap.size w5 (w5.alloc (.cells #[.string { data := #[98] }, .string { data := #[] }, .int .i64 3, .bool false] 32)) := (Below.refl _ _).alloc (Nat.le_refl _) _
  have XB6 : Hid (BxV (w5.alloc (.cells #[.string { data := #[98] }, .string { data := #[] }, .int .i64 3, .bool false] 32)) w5.heap.size [.string { data := #[98] }, .string { data := #[] }, .int .i64 3, .bool false]) := Lib.hid (BxV.new w5 _ _)
  obtain ⟨w6, hw6⟩ : ∃ x, x = w5.alloc (.cells #[.string { data := #[98] }, .string { data := #[] }, .int .i64 3, .bool false] 32) := ⟨_, rfl⟩
  rw [← hw6] at hb XB6 ⊢
  clear hw6
  obtain ⟨bx, hbx⟩ : ∃ b, b = w5.heap.size := ⟨_, rfl⟩
  rw [← hbx] at XB6 ⊢
  have M6 := Lib.hid (M5.out.next hb)
  have B6 := Lib.hid (B5.out.trans (hb.mono B5.out.size))
  clear hb M5 B5
  clear hbx
  go_wp2_with fail
  have hal : Below w6.heap.size w6 (w6.alloc (.cells #[.int .i64 13] 3)) := (Below.refl _ _).alloc (Nat.le_refl _) _
  refine (mnew_any _ 1 1 _ [13] rfl (by omega) _ (rd_frC w6 #[.int .i64 13] _ _) (Nat.le_refl _)).mono ?_
  rintro r w7 ⟨⟨_, rfl⟩ | ⟨h, _⟩, hb'⟩
  rotate_left
  · exact absurd h (by decide)
  have hb : Below w6.heap.size w6 w7 := hal.trans (hb'.mono hal.size)
  have XB7 := Lib.hid (XB6.out.next hb)
  clear hb' hal XB6
  have M7 := Lib.hid (M6.out.next hb)
  have B7 := Lib.hid (B6.out.trans (hb.mono B6.out.size))
  clear hb M6 B6
  go_wp2_with fail
  refine (mlane_any _ T [2, 1, 3] exM (by decide) 1 w7 M7.out).mono ?_
  rintro r w8 ⟨u, rfl, own, hb⟩
  rw [nml.1] at own
  obtain ⟨A5, c5, rfl, -, r5⟩ := own_sl own
  have R5 := Lib.hid r5
  have XB8 := Lib.hid (XB7.out.next hb)
  clear own r5 XB7
  have M8 := Lib.hid (M7.out.next hb)
  have B8 := Lib.hid (B7.out.trans (hb.mono B7.out.size))
  clear hb M7 B7
  go_wp2_with fail
  have hal : Below w8.heap.size w8 (w8.alloc (.cells #[.int .i64 0, .int .i64 1, .int .i64 2] 3)) := (Below.refl _ _).alloc (Nat.le_refl _) _
  refine (sameI_any A5 _ 3 3 c5 3 w8.heap.size _ [0, 1, 2] [0, 1, 2] rfl rfl (by omega) _ (R5.out.alloc (Nat.le_refl _) _) (by rw [World.size_alloc]; omega) (rd_frC w8 _ _ _) (Nat.le_refl _)).mono ?_
  rintro r w9 ⟨rfl, hb'⟩
  rw [decide_eq_true rfl]
  have hb : Below w8.heap.size w8 w9 := hal.trans (hb'.mono hal.size)
  have XB9 := Lib.hid (XB8.out.next hb)
  clear hb' hal XB8 R5
  have M9 := Lib.hid (M8.out.next hb)
  have B9 := Lib.hid (B8.out.trans (hb.mono B8.out.size))
  clear hb M8 B8
  go_wp2_with fail
  refine (mlane_any _ T [2, 1, 3] exM (by decide) 2 w9 M9.out).mono ?_
  rintro r w10 ⟨u, rfl, own, hb⟩
  rw [nml.2.1] at own
  obtain ⟨A5, c5, rfl, -, r5⟩ := own_sl own
  have R5 := Lib.hid r5
  have XB10 := Lib.hid (XB9.out.next hb)
  clear own r5 XB9
  have M10 := Lib.hid (M9.out.next hb)
  have B10 := Lib.hid (B9.out.trans (hb.mono B9.out.size))
  clear hb M9 B9
  go_wp2_with fail
  have hal : Below w10.heap.size w10 (w10.alloc (.cells #[.int .i64 1, .int .i64 2] 3)) := (Below.refl _ _).alloc (Nat.le_refl _) _
  refine (sameI_any A5 _ 2 2 c5 2 w10.heap.size _ [1, 2] [1, 2] rfl rfl (by omega) _ (R5.out.alloc (Nat.le_refl _) _) (by rw [World.size_alloc]; omega) (rd_frC w10 _ _ _) (Nat.le_refl _)).mono ?_
  rintro r w11 ⟨rfl, hb'⟩
  rw [decide_eq_true rfl]
  have hb : Below w10.heap.size w10 w11 := hal.trans (hb'.mono hal.size)
  have XB11 := Lib.hid (XB10.out.next hb)
  clear hb' hal XB10 R5
  have M11 := Lib.hid (M10.out.next hb)
  have B11 := Lib.hid (B10.out.trans (hb.mono B10.out.size))
  clear hb M10 B10
  go_wp2_with fail
  refine (mlane_any _ T [2, 1, 3] exM (by decide) 3 w11 M11.out).mono ?_
  rintro r w12 ⟨u, rfl, own, hb⟩
  rw [nml.2.2.1] at own
  obtain ⟨A5, c5, rfl, -, r5⟩ := own_sl own
  have R5 := Lib.hid r5
  have XB12 := Lib.hid (XB11.out.next hb)
  clear own r5 XB11
  have M12 := Lib.hid (M11.out.next hb)
  have B12 := Lib.hid (B11.out.trans (hb.mono B11.out.size))
  clear hb M11 B11
  go_wp2_with fail
  have hal : Below w12.heap.size w12 (w12.alloc (.cells #[.int .i64 1] 3)) := (Below.refl _ _).alloc (Nat.le_refl _) _
  refine (sameI_any A5 _ 1 1 c5 1 w12.heap.size _ [1] [1] rfl rfl (by omega) _ (R5.out.alloc (Nat.le_refl _) _) (by rw [World.size_alloc]; omega) (rd_frC w12 _ _ _) (Nat.le_refl _)).mono ?_
  rintro r w13 ⟨rfl, hb'⟩
  rw [decide_eq_true rfl]
  have hb : Below w12.heap.size w12 w13 := hal.trans (hb'.mono hal.size)
  have XB13 := Lib.hid (XB12.out.next hb)
  clear hb' hal XB12 R5
  have M13 := Lib.hid (M12.out.next hb)
  have B13 := Lib.hid (B12.out.trans (hb.mono B12.out.size))
  clear hb M12 B12
  go_wp2_with fail
  refine (mlane_any _ T [2, 1, 3] exM (by decide) 4 w13 M13.out).mono ?_
  rintro r w14 ⟨u, rfl, own, hb⟩
  rw [nml.2.2.2] at own
  obtain ⟨A5, c5, rfl, -, r5⟩ := own_sl own
  have XB14 := Lib.hid (XB13.out.next hb)
  clear own r5 XB13
  have M14 := Lib.hid (M13.out.next hb)
  have B14 := Lib.hid (B13.out.trans (hb.mono B13.out.size))
  clear hb M13 B13
  have x2 := XB14.out.c 2 _ rfl
  have xl := XB14.out.lt
  go_wp2_with fail
  refine (mcost_any _ T [2, 1, 3] exM (by decide) { data := #[98] } 3 w14 M14.out).mono ?_
  rintro r w15 ⟨rfl, hb⟩
  rw [nmc.1]
  clear x2 xl XB14
  have M15 := Lib.hid (M14.out.next hb)
  have B15 := Lib.hid (B14.out.trans (hb.mono B14.out.size))
  clear hb M14 B14
  go_wp2_with fail
  refine (mcost_any _ T [2, 1, 3] exM (by decide) { data := #[97] } 2 w15 M15.out).mono ?_
  rintro r w16 ⟨rfl, hb⟩
  rw [nmc.2]
  have M16 := Lib.hid (M15.out.next hb)
  have B16 := Lib.hid (B15.out.trans (hb.mono B15.out.size))
  clear hb M15 B15
  go_wp2_with fail
  refine (madd_any _ T [2, 1, 3] exM (by decide) xB3 (by decide) w16 M16.out).mono ?_
  rintro r w17 ⟨rfl, hm, ho⟩
  rw [nma.1]
  rw [nma.2.1] at hm
  have M17 := Lib.hid hm
  have B17 := Lib.hid (B16.out.trans (ho.below B16.out.size (fun g hg => by omega)))
  have z17 := ho.size
  have z16 := B16.out.size
  clear hm ho M16 B16
  go_wp2_with fail
  refine (madd_any _ T [2, 1, 3] exM (by decide) xZ1 (by decide) w17 M17.out).mono ?_
  rintro r w18 ⟨rfl, hm, ho⟩
  rw [nma.2.2.1]
  rw [nma.2.2.2.1] at hm
  have M18 := Lib.hid hm
  have B18 := Lib.hid (B17.out.trans (ho.below B17.out.size (fun g hg => by omega)))
  clear hm ho M17 B17
  go_wp2_with fail
  refine (mlen_any _ T [2, 1, 3] exM w18 M18.out).mono ?_
  rintro r w19 ⟨rfl, rfl⟩
  rw [show ((exM.length : Nat) : Int) = 3 from rfl]
  go_wp2_with fail
  refine (msize_any _ T [2, 1, 3] exM w18 M18.out).mono ?_
  rintro r w20 ⟨rfl, rfl⟩
  rw [nma.2.2.2.2]
  go_wp2_with fail
  go_ret
  exact ⟨rfl, B18.out⟩
end Go.Proofs.Ytjhgbdeadkoegaa
