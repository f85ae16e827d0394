/- The walk of the chapter's numbers and examples on filters. -/
import Derived.Test.YtlpdihcgdgkkbaaBe
namespace Go.Proofs.Ytlpdihcgdgkkbaa
open Go.RowKit Go.St
set_option linter.unusedVariables false
set_option linter.unusedSimpArgs false
set_option maxRecDepth 100000

theorem bof_one : bof (brounds 1) (bsize 1 1) (bl [⟨#[97]⟩]) = [1, 16] := by decide +kernel
theorem has_x1 : hasB [7, 255] [120] = true := by decide +kernel
theorem has_x0 : hasB [7, 0] [120] = false := by decide +kernel
theorem hash_0 : bhash [] = hini := rfl

set_option maxHeartbeats 3200000 in
theorem bloomNames_walk (w : World) : Calls Try.prog 3 #[] w fun e w' => e = .returned (.bool true) ∧ Below w.heap.size w w' := by
  have hh := fun w => hash_any ⟨#[]⟩ (by decide) w
  have e1 : ((bhash (⟨#[]⟩ : ByteArray).data.toList : Nat) : Int) = 14695981039346656037 := by rw [show (⟨#[]⟩ : ByteArray).data.toList = [] from rfl, hash_0]; exact hini_val.symm
  rw [e1] at hh
  have HH := Lib.hid hh; clear hh e1
  go_enter Try.func3, Try.ntmps3
  go_wp2_with fail
  refine (of_any _ 1 1 (w.heap.size + 1) [⟨#[97]⟩] rfl (by omega) (by simp; decide) 1 (by omega) (by omega) _ (rd_new w #[.string ⟨#[97]⟩] _) (by simp)).mono ?_
  rintro e w1 ⟨v1, rfl, own1, hb1⟩
  have HB1 : Hid (Below w.heap.size w w1) := Below.go (by go_grown) hb1 (by go_size)
  rw [bof_one, show bsize 1 1 + 1 = 2 by decide] at own1
  obtain ⟨A1, c1, rfl, rd1⟩ := own_rd own1
  have RD1 := Lib.hid rd1
  clear rd1 own1 hb1
  have h1 := fun w => has_any (some ⟨w1.heap.size, 0, none⟩) 2 2 (w1.heap.size + 1) [7, 255] rfl (by omega) ⟨#[120]⟩ (by decide) w
  have ex1 : hasB [7, 255] (⟨#[120]⟩ : ByteArray).data.toList = true := has_x1
  have ek1 : bchk [7, 255] = 0 := by decide
  rw [ex1, ek1] at h1
  have H1 := Lib.hid h1; clear h1 ex1 ek1
  go_wp2_with fail
  refine (H1.out _ (rd_new w1 #[.int .u8 7, .int .u8 255] _)).mono ?_
  rintro e w' ⟨rfl, rfl⟩
  have h2 := fun w => has_any (some ⟨w1.heap.size + 1, 0, none⟩) 2 2 (w1.heap.size + 1 + 1) [7, 0] rfl (by omega) ⟨#[120]⟩ (by decide) w
  have ex2 : hasB [7, 0] (⟨#[120]⟩ : ByteArray).data.toList = false := has_x0
  have ek2 : bchk [7, 0] = 0 := by decide
  rw [ex2, ek2] at h2
  have H2 := Lib.hid h2; clear h2 ex2 ek2 H1
  have hrd2 : Hid (Rd ((w1.alloc (.cells #[.int .u8 7, .int .u8 255] 5)).alloc (.cells #[.int .u8 7, .int .u8 0] 5)) (w1.heap.size + 1 + 1) (some ⟨w1.heap.size + 1, 0, none⟩) (bv [7, 0])) := by
    have h := rd_new (w1.alloc (.cells #[.int .u8 7, .int .u8 255] 5)) #[.int .u8 7, .int .u8 0] 5
    rw [World.size_alloc] at h
    exact h
  go_wp2_with fail
  refine (H2.out _ hrd2.out).mono ?_
  rintro e w' ⟨rfl, rfl⟩
  clear H2 hrd2
  have HB2 : Hid (Below w.heap.size w ((w1.alloc (.cells #[.int .u8 7, .int .u8 255] 5)).alloc (.cells #[.int .u8 7, .int .u8 0] 5))) := by
    have h := HB1.out
    have hs := h.size
    unfold Hid
    go_grown
  have RD2 : Hid (Rd ((w1.alloc (.cells #[.int .u8 7, .int .u8 255] 5)).alloc (.cells #[.int .u8 7, .int .u8 0] 5)) w1.heap.size A1 (bv [1, 16])) := (RD1.out.alloc (Nat.le_refl _) _).alloc (by simp) _
  generalize ((w1.alloc (.cells #[.int .u8 7, .int .u8 255] 5)).alloc (.cells #[.int .u8 7, .int .u8 0] 5)) = w2 at *
  obtain ⟨b1, o1, rfl, hb1, hx1⟩ := RD2.out.at_ (bv_get [1, 16] 1 (by decide))
  obtain ⟨b1', o1', e, -, hx0⟩ := RD2.out.at_ (bv_get [1, 16] 0 (by decide))
  injection e with e
  injection e with e1 e2
  subst e1 e2
  have hc1 : w2.cell? ⟨b1, o1 + 1, none⟩ = some (.int .u8 16) := hx1
  have hc0 : w2.cell? ⟨b1, o1, none⟩ = some (.int .u8 1) := hx0
  clear RD1 HB1 hx1 hx0
  go_wp2_with fail
  go_loop [7, 8] (fun t i => ∃ j : Nat, j ≤ 8 ∧ i = .int .i64 j ∧ t = .int .i64 ((if 4 < j then 1 else 0 : Nat) : Int)) (fun _ i => 8 - (intOf i).toNat)
  case atStart => exact ⟨0, by omega, rfl, rfl⟩
  case round =>
    obtain ⟨j, hj, rfl, rfl⟩ := hrel
    rcases (by omega : j = 0 ∨ j = 1 ∨ j = 2 ∨ j = 3 ∨ j = 4 ∨ j = 5 ∨ j = 6 ∨ j = 7 ∨ j = 8) with rfl | rfl | rfl | rfl | rfl | rfl | rfl | rfl | rfl
    all_goals (have k16 : bits .and .u8 16 1 = 0 := by decide)
    all_goals (have k8 : bits .and .u8 8 1 = 0 := by decide)
    all_goals (have k4 : bits .and .u8 4 1 = 0 := by decide)
    all_goals (have k2 : bits .and .u8 2 1 = 0 := by decide)
    all_goals (have k1 : bits .and .u8 1 1 = 1 := by decide)
    all_goals (have k0 : bits .and .u8 0 1 = 0 := by decide)
    · go_wp2
      exact ⟨⟨1, by omega, rfl, rfl⟩, by simp [intOf]⟩
    · go_wp2
      exact ⟨⟨2, by omega, rfl, rfl⟩, by simp [intOf]⟩
    · go_wp2
      exact ⟨⟨3, by omega, rfl, rfl⟩, by simp [intOf]⟩
    · go_wp2
      exact ⟨⟨4, by omega, rfl, rfl⟩, by simp [intOf]⟩
    · go_wp2
      exact ⟨⟨5, by omega, rfl, rfl⟩, by simp [intOf]⟩
    · go_wp2
      exact ⟨⟨6, by omega, rfl, rfl⟩, by simp [intOf]⟩
    · go_wp2
      exact ⟨⟨7, by omega, rfl, rfl⟩, by simp [intOf]⟩
    · go_wp2
      exact ⟨⟨8, by omega, rfl, rfl⟩, by simp [intOf]⟩
    · clear k16 k8 k4 k2 k1 k0
      go_wp2_with fail
      refine (of_arg none 0 0 (by omega) 17 (.inr (by omega)) w2).mono ?_
      rintro e w' ⟨rfl, rfl⟩
      go_wp2_with fail
      refine (lives08_any _).mono ?_
      rintro e w3 ⟨rfl, hb⟩
      have hl1 : b1 < w2.heap.size := World.block_lt_of_cell? w2 _ hc0
      have hc3 : w3.cell? ⟨b1, o1, none⟩ = some (.int .u8 1) := (hb.cell (p := ⟨b1, o1, none⟩) hl1).trans hc0
      have HB3 : Hid (Below w.heap.size w w3) := Below.go HB2.out hb HB2.out.size
      clear hb hc0 hc1 RD2
      go_wp2_with fail
      refine (HH.out _).mono ?_
      rintro e w' ⟨rfl, rfl⟩
      have x1 := fun w => bcheck_any (some ⟨w3.heap.size, 0, none⟩) 2 2 (w3.heap.size + 1) [0, 1] rfl w
      rw [show bchk [0, 1] = 5 by decide] at x1
      have X1 := Lib.hid x1; clear x1
      go_wp2_with fail
      refine (X1.out _ (rd_new w3 #[.int .u8 0, .int .u8 1] _)).mono ?_
      rintro e w' ⟨rfl, rfl⟩
      have HB4 : Hid (Below w.heap.size w (w3.alloc (.cells #[.int .u8 0, .int .u8 1] 5))) := HB3.out.alloc HB3.out.size _
      have hs4 : (w3.alloc (.cells #[.int .u8 0, .int .u8 1] 5)).heap.size = w3.heap.size + 1 := World.size_alloc _ _
      have x2 := fun w => bcheck_any (some ⟨w3.heap.size + 1, 0, none⟩) 2 2 (w3.heap.size + 1 + 1) [13, 1] rfl w
      rw [show bchk [13, 1] = 5 by decide] at x2
      have X2 := Lib.hid x2; clear x2
      have r2 := rd_new (w3.alloc (.cells #[.int .u8 0, .int .u8 1] 5)) #[.int .u8 13, .int .u8 1] 5
      rw [hs4] at r2
      have R2 := Lib.hid r2; clear r2
      go_wp2_with fail
      refine (X2.out _ R2.out).mono ?_
      rintro e w' ⟨rfl, rfl⟩
      have x3 := fun w => bcheck_any (some ⟨w3.heap.size + 1 + 1, 0, none⟩) 1 1 (w3.heap.size + 1 + 1 + 1) [5] rfl w
      rw [show bchk [5] = 5 by decide] at x3
      have X3 := Lib.hid x3; clear x3
      have r3 := rd_new ((w3.alloc (.cells #[.int .u8 0, .int .u8 1] 5)).alloc (.cells #[.int .u8 13, .int .u8 1] 5)) #[.int .u8 5] 5
      rw [World.size_alloc, hs4] at r3
      have R3 := Lib.hid r3; clear r3 hs4
      go_wp2_with fail
      refine (X3.out _ R3.out).mono ?_
      rintro e w' ⟨rfl, rfl⟩
      go_wp2
      go_ret
      refine ⟨rfl, ?_⟩
      have h := HB3.out
      have hs := h.size
      go_grown
theorem bloomNames_law (w : World) : Calls Try.prog 3 #[] w fun e w' => e = .returned (.bool true) ∧ Below w.heap.size w w' := bloomNames_walk w
end Go.Proofs.Ytlpdihcgdgkkbaa
