/- Walks: the chapter's example. -/
import Derived.Test.YtjhgbdeadkoegaaLn
namespace Go.Proofs.Ytjhgbdeadkoegaa
open Go.RowKit Go.St Go.Shelf Go.Maps
set_option linter.unusedVariables false
set_option linter.unusedSimpArgs false
set_option maxRecDepth 100000

def xB1 : Ent := ⟨{ data := #[98] }, zB, 1, false⟩
def xA2 : Ent := ⟨{ data := #[97] }, zB, 2, false⟩
def xB3 : Ent := ⟨{ data := #[98] }, zB, 3, false⟩
def exM : List Ld := [(xA2, 1), (xB3, 3), (xB1, 2)]
theorem exM1 : addC xB1 [] = 0 ∧ addL [2, 1, 3] xB1 [] = [(xB1, 2)] := by decide
theorem exM2 : addC xA2 [(xB1, 2)] = 0 ∧ addL [2, 1, 3] xA2 [(xB1, 2)] = [(xA2, 1), (xB1, 2)] := by decide +kernel
theorem exM3 : addC xB3 [(xA2, 1), (xB1, 2)] = 0 ∧ addL [2, 1, 3] xB3 [(xA2, 1), (xB1, 2)] = exM := by decide +kernel
set_option maxHeartbeats 1600000 in
theorem example_any (w : World) : Calls Try.prog 22 #[] w fun e w' => ∃ T, e = .returned (.pointer (some ⟨T, 0, none⟩)) ∧ Mt w' (fun g => w.heap.size ≤ g ∧ g < w'.heap.size) T [2, 1, 3] exM ∧ Below w.heap.size w w' := by
  go_enter Try.func22, Try.ntmps22
  go_wp2_with fail
  have B1 : Hid (Below w.heap.size w (w.alloc (.cells #[.int .i64 2, .int .i64 1, .int .i64 3] 3))) := Lib.hid ((Below.refl _ _).alloc (Nat.le_refl _) _)
  refine (mnew_any _ 3 3 _ [2, 1, 3] rfl (by omega) _ (rd_frC w #[.int .i64 2, .int .i64 1, .int .i64 3] _ _) (Nat.le_refl _)).mono ?_
  rintro r w2 ⟨⟨h, _⟩ | ⟨_, T, rfl, hm⟩, hb⟩
  · exact absurd h (by decide)
  have M2 : Hid (Mt w2 (fun g => w.heap.size ≤ g ∧ g < w2.heap.size) T [2, 1, 3] []) := Lib.hid (hm.mono (fun g hg => by have := B1.out.size; omega))
  have B2 := Lib.hid (B1.out.trans (hb.mono B1.out.size))
  clear hm hb B1
  go_wp2_with fail
  refine (madd_any _ T [2, 1, 3] [] (by simp) xB1 (by decide) w2 M2.out).mono ?_
  rintro r w3 ⟨rfl, hm, ho⟩
  rw [exM1.1]
  rw [exM1.2] at hm
  have B3 := Lib.hid (B2.out.trans (ho.below B2.out.size (fun g hg => by omega)))
  have M3 : Hid (Mt w3 (fun g => w.heap.size ≤ g ∧ g < w3.heap.size) T [2, 1, 3] [(xB1, 2)]) := Lib.hid (hm.mono (fun g hg => by have := B2.out.size; have := ho.size; omega))
  clear hm ho B2 M2
  go_wp2_with fail
  refine (madd_any _ T [2, 1, 3] [(xB1, 2)] (by simp) xA2 (by decide) w3 M3.out).mono ?_
  rintro r w4 ⟨rfl, hm, ho⟩
  rw [exM2.1]
  rw [exM2.2] at hm
  have B4 := Lib.hid (B3.out.trans (ho.below B3.out.size (fun g hg => by omega)))
  have M4 : Hid (Mt w4 (fun g => w.heap.size ≤ g ∧ g < w4.heap.size) T [2, 1, 3] [(xA2, 1), (xB1, 2)]) := Lib.hid (hm.mono (fun g hg => by have := B3.out.size; have := ho.size; omega))
  clear hm ho B3 M3
  go_wp2_with fail
  refine (madd_any _ T [2, 1, 3] [(xA2, 1), (xB1, 2)] (by simp) xB3 (by decide) w4 M4.out).mono ?_
  rintro r w5 ⟨rfl, hm, ho⟩
  rw [exM3.1]
  rw [exM3.2] at hm
  have B5 := Lib.hid (B4.out.trans (ho.below B4.out.size (fun g hg => by omega)))
  have M5 : Hid (Mt w5 (fun g => w.heap.size ≤ g ∧ g < w5.heap.size) T [2, 1, 3] exM) := Lib.hid (hm.mono (fun g hg => by have := B4.out.size; have := ho.size; omega))
  clear hm ho B4 M4
  go_wp2_with fail
  go_ret
  exact ⟨T, rfl, M5.out, B5.out⟩
theorem exM_get : fndE (exM.map Prod.fst) { data := #[98] } 2 = xB1 ∧ isE (exM.map Prod.fst) { data := #[98] } 2 = true := by decide +kernel
theorem xB1v : xB1.v = .agg #[.string { data := #[98] }, .string { data := #[] }, .int .i64 1, .bool false] := rfl
set_option maxHeartbeats 1600000 in
theorem lives6_any (w : World) : Calls Try.prog 9 #[] w fun e w' => e = .returned (.bool true) ∧ Below w.heap.size w w' := by
  have HEX := Lib.hid (example_any w)
  go_enter Try.func9, Try.ntmps9
  go_wp2_with fail
  refine HEX.out.mono ?_
  rintro r w1 ⟨T, rfl, hm, hb⟩
  have M1 := Lib.hid hm
  have B1 := Lib.hid hb
  clear hm hb HEX
  go_wp2_with fail
  refine (mget_any _ T [2, 1, 3] exM (by decide) { data := #[98] } 2 w1 M1.out).mono ?_
  rintro r w2 ⟨rfl, hb⟩
  rw [exM_get.1, exM_get.2, xB1v]
  have M2 := Lib.hid (M1.out.next hb)
  have B2 := Lib.hid (B1.out.trans (hb.mono B1.out.size))
  clear hb M1 B1
  go_wp2_with fail
  have hal : Below w2.heap.size w2 (w2.alloc (.cells #[.string { data := #[98] }, .string { data := #[] }, .int .i64 1, .bool false] 32)) := (Below.refl _ _).alloc (Nat.le_refl _) _
  have M3 := Lib.hid (M2.out.next hal)
  have B3 := Lib.hid (B2.out.trans (hal.mono B2.out.size))
  clear hal M2 B2
  generalize w2.alloc (.cells #[.string { data := #[98] }, .string { data := #[] }, .int .i64 1, .bool false] 32) = w3 at *
  refine (mall_any _ T [2, 1, 3] exM (by decide) 9 w3 M3.out).mono ?_
  rintro r w4 ⟨u, rfl, own, hb⟩
  obtain ⟨A5, c5, rfl, -, r5⟩ := own_sl own
  have R5 := Lib.hid r5
  have B4 := Lib.hid (B3.out.trans (hb.mono B3.out.size))
  clear own r5 hb M3 B3
  go_wp2_with fail
  refine (sameE_any A5 _ 3 3 c5 3 w4.heap.size _ ((exM.map Prod.fst).take 9) [xA2, xB3, xB1] rfl rfl (by omega) _ (R5.out.alloc (Nat.le_refl _) _) (by rw [World.size_alloc]; omega) (rd_frC w4 _ _ _) (Nat.le_refl _)).mono ?_
  rintro r w6 ⟨rfl, hb⟩
  rw [show decide ((exM.map Prod.fst).take 9 = [xA2, xB3, xB1]) = true by decide +kernel]
  have B6 := Lib.hid ((B4.out.alloc B4.out.size _).trans (hb.mono (by rw [World.size_alloc]; have := B4.out.size; omega)))
  clear hb
  go_wp2_with fail
  go_ret
  exact ⟨rfl, B6.out⟩
end Go.Proofs.Ytjhgbdeadkoegaa
