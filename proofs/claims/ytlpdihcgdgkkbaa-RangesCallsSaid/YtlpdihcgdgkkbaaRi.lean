/- Walks: the chapter's first example of ranges. -/
import Derived.Test.YtlpdihcgdgkkbaaRh
namespace Go.Proofs.Ytlpdihcgdgkkbaa
open Go.RowKit Go.St
set_option linter.unusedVariables false
set_option linter.unusedSimpArgs false
set_option maxRecDepth 100000

set_option maxHeartbeats 1600000 in
theorem lives21_any (w : World) : Calls Try.prog 45 #[] w fun e w' => e = .returned (.bool true) ∧ Below w.heap.size w w' := by
  have hp := parts21_any (some ⟨w.heap.size, 0, none⟩) 2 2 (w.heap.size + 1) [cG, cP] rfl (by omega) cF cQ (w.alloc (.cells #[.string cG, .string cP] 9)) (rd_new w #[.string cG, .string cP] _) (by simp)
  rw [lv_chk, lv_parts] at hp
  have HP := Lib.hid hp; clear hp
  go_enter Try.func45, Try.ntmps45
  go_wp2_with fail
  refine HP.out.mono ?_
  rintro e w1 ⟨v1, rfl, own1, hb1⟩
  have HB1 : Hid (Below w.heap.size w w1) := Below.go ((Below.refl _ _).alloc (Nat.le_refl _) _) hb1 (by simp)
  obtain ⟨A1, c1, rfl, rd1⟩ := own_rdS own1 (by decide)
  have RD1 := Lib.hid rd1
  clear rd1 own1 hb1 HP
  have ho := of21_any (some ⟨w1.heap.size, 0, none⟩) 2 2 (w1.heap.size + 1) [cG, cP] rfl (by omega) cO (w1.alloc (.cells #[.string cG, .string cP] 9)) (rd_new w1 #[.string cG, .string cP] _)
  rw [lv_chk, lv_of] at ho
  have HO := Lib.hid ho; clear ho
  go_wp2_with fail
  refine HO.out.mono ?_
  rintro e w2 ⟨rfl, m, rfl⟩
  clear HO
  have hsp := fun W (h1 : Rd W w1.heap.size A1 (pv [(cF, cG), (cG, cP), (cP, cQ)])) (h2 : Rd W (w1.heap.size + 1 + 1) (some ⟨w1.heap.size + 1, 0, none⟩) (pv [(cF, cG), (cG, cP), (cP, cQ)])) => spans21_any A1 (some ⟨w1.heap.size + 1, 0, none⟩) 3 3 c1 3 _ _ _ _ rfl rfl (by omega) (by omega) W h1 h2
  rw [decide_eq_true rfl] at hsp
  have HS := Lib.hid hsp; clear hsp
  have r2 := rd_new ((w1.alloc (.cells #[.string cG, .string cP] 9)).drewN m) #[.string cF, .string cG, .string cG, .string cP, .string cP, .string cQ] 67
  rw [show ((w1.alloc (.cells #[.string cG, .string cP] 9)).drewN m).heap.size = w1.heap.size + 1 from World.size_alloc _ _] at r2
  have R2 := Lib.hid r2; clear r2
  have R1 : Hid (Rd (((w1.alloc (.cells #[.string cG, .string cP] 9)).drewN m).alloc (.cells #[.string cF, .string cG, .string cG, .string cP, .string cP, .string cQ] 67)) w1.heap.size A1 (pv [(cF, cG), (cG, cP), (cP, cQ)])) := (Rd.drew (RD1.out.alloc (Nat.le_refl _) _) m).alloc (by simp) _
  go_wp2_with fail
  refine (HS.out _ R1.out R2.out).mono ?_
  rintro e w3 ⟨rfl, m', rfl⟩
  clear HS R1 R2
  go_wp2
  go_ret
  refine ⟨rfl, ?_⟩
  exact bel_dn ((bel_dn (HB1.out.alloc HB1.out.size _) m).alloc (by have := HB1.out.size; simp; omega) _) m'
end Go.Proofs.Ytlpdihcgdgkkbaa
