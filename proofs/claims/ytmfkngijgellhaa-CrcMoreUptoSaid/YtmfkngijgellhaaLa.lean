/- The laws CrcMore, CrcXor: they return true. -/
import Derived.Test.YtmfkngijgellhaaC
namespace Go.Proofs.Ytmfkngijgellhaa
open Go.RowKit Go.St

set_option maxHeartbeats 1000000 in
theorem crcMore_walk (w : World) (A0 : Option Addr) (n0 c0 : Nat) (b0 : List UInt8) (bl0 : b0.length = n0) (lc0 : n0 ≤ c0) (bn0 : c0 ≤ 1048576) (rd0 : Rd w w.heap.size A0 (bv b0))
    (A1 : Option Addr) (n1 c1 : Nat) (b1 : List UInt8) (bl1 : b1.length = n1) (lc1 : n1 ≤ c1) (bn1 : c1 ≤ 1048576) (rd1 : Rd w w.heap.size A1 (bv b1)) :
    Calls Try.prog 3 #[.slice A0 n0 c0, .slice A1 n1 c1] w fun e w' => e = .returned (.bool true) ∧ Below w.heap.size w w' := by
  have H0 := Lib.hid bl0; clear bl0
  have H1 := Lib.hid bl1; clear bl1
  have R0 := Lib.hid rd0; clear rd0
  have R1 := Lib.hid rd1; clear rd1
  go_enter Try.func3, Try.ntmps3
  go_wp2_with (first
    | (at_builtin; refine wpList_app sty22 (.tmp 6) (.tmp 7) rfl rfl w.heap.size (World.ownsRow_lit w #[] 0 (Nat.le_refl _) (by decide) rfl) rfl n0 c0 (Rd.alloc R0.out (Nat.le_refl _) _) rfl (by rw [bv_length, H0.out]; omega) (bv_one _) (by unfold maxLen; omega) (by omega) (by simp) ?_; intro v1 w1 own1 gr1 nil1 at1)
    | (at_builtin; refine wpList_app sty22 (.tmp 8) (.tmp 9) rfl rfl w.heap.size own1 rfl n1 c1 (Rd.grown (Rd.alloc R1.out (Nat.le_refl _) _) gr1 (by simp) (by simp [Value.ownBlock])) rfl (by rw [bv_length, H1.out]; omega) (bv_one _) (by unfold maxLen; omega) (by omega) (by have := gr1.size; simp at this; omega) ?_; intro v2 w2 own2 gr2 nil2 at2))
  have hb1 : Below w.heap.size w w1 := ((Below.refl _ _).alloc (Nat.le_refl _) _).grown gr1 (by simp) (by simp [Value.ownBlock])
  have hb2 : Below w.heap.size w w2 := hb1.grown gr2 hb1.size (fun g hg => (own1.lt g hg).1)
  clear gr1 gr2 nil1 nil2 at1 at2 own1 hb1
  have own3 := own_eq own2 (show 0 + n0 + n1 = n0 + n1 by omega) (show [] ++ bv b0 ++ bv b1 = bv (b0 ++ b1) by simp [bv])
  clear own2
  refine (lives_any _).mono ?_
  rintro e w3 ⟨rfl, hb3⟩
  have hs : w.heap.size ≤ w3.heap.size := Nat.le_trans hb2.size hb3.size
  have S0 := Lib.hid (R0.out.below (hb2.trans (hb3.mono hb2.size)))
  have S1 := Lib.hid (R1.out.below (hb2.trans (hb3.mono hb2.size)))
  obtain ⟨A2, c2, rfl, r2⟩ := own_rd own3
  have S2 := Lib.hid (r2.below hb3)
  have hbf := hb2.trans (hb3.mono hb2.size)
  clear r2 own3 R0 R1 hb2
  go_wp2_with fail
  refine (sum_any A0 n0 c0 _ b0 H0.out (by omega) _ S0.out).mono ?_
  rintro e w' ⟨rfl, rfl⟩
  go_wp2_with fail
  refine (more_any _ (CrcM.cmore_lt _ _) A1 n1 c1 _ b1 H1.out (by omega) _ S1.out).mono ?_
  rintro e w' ⟨rfl, rfl⟩
  go_wp2_with fail
  refine (sum_any A2 (n0 + n1) c2 _ (b0 ++ b1) (by rw [List.length_append, H0.out, H1.out]) (by omega) _ S2.out).mono ?_
  rintro e w' ⟨rfl, rfl⟩
  rw [CrcM.cmore_append]
  have heq : ((CrcM.cmore 0 (b0 ++ b1) : Nat) : Int) == ((CrcM.cmore 0 (b0 ++ b1) : Nat) : Int) := by simp
  go_wp2_with fail
  refine (more_any 0 (by decide) A0 n0 c0 _ b0 H0.out (by omega) _ S0.out).mono ?_
  rintro e w' ⟨rfl, rfl⟩
  go_wp2_with fail
  refine (sum_any A0 n0 c0 _ b0 H0.out (by omega) _ S0.out).mono ?_
  rintro e w' ⟨rfl, rfl⟩
  go_wp2
  go_ret
  exact ⟨by simp, hbf⟩
end Go.Proofs.Ytmfkngijgellhaa
