/- The walks of the reference's Frame and Append. -/
import Derived.Test.YtmfkngijgellhaaM
namespace Go.Proofs.Ytmfkngijgellhaa
open Go.RowKit Go.St
set_option linter.unusedVariables false

set_option maxHeartbeats 1000000 in
theorem rframe_any (A' : Option Addr) (n' c' B' : Nat) (rs : List UInt8) (hl' : rs.length = n') (hn' : n' ≤ 1048576) (w : World)
    (hr' : Rd w B' A' (bv rs)) (hB' : B' ≤ w.heap.size) :
    Calls Try.prog 48 #[.slice A' n' c'] w fun e w' => ∃ v, e = .returned v ∧ w'.ownsRow w.heap.size 5 1 v (n' + 12) (bv (frameL rs)) ∧ Below w.heap.size w w' := by
  have HL' := Lib.hid hl'; clear hl'
  have HR' := Lib.hid hr'; clear hr'
  go_enter Try.func48, Try.ntmps48
  go_wp2_with fail
  have hc4 := lit_cells n' hn'
  have H4 := Lib.hid hc4; clear hc4
  refine (rsealed_any _ 4 4 _ (CrcM.le32 n') rfl (by omega) _ (rd_lits _ _ _ _ H4.out) (by simp)).mono ?_
  rintro e w2 ⟨v2, rfl, own2, hb2⟩
  have hb3 : Below w.heap.size w w2 := ((Below.refl _ _).alloc (Nat.le_refl _) _).trans (hb2.mono (by simp))
  have O2 : Hid (w2.ownsRow w.heap.size 5 1 v2 8 (bv (CrcM.sealed (CrcM.le32 n')))) := own2.mono (by simp)
  have R2 := Lib.hid ((HR'.out.alloc (by omega) _).below (hb2.mono (by simp; omega)))
  have S2 : w.heap.size ≤ w2.heap.size := hb3.size
  clear own2 H4 hb2
  go_wp2_with fail
  refine (rsealed_any A' n' c' _ rs HL'.out (by omega) _ R2.out (by omega)).mono ?_
  rintro e w4 ⟨v4, rfl, own4, hb5⟩
  have hb6 : Below w.heap.size w w4 := hb3.trans (hb5.mono S2)
  have O4 := Lib.hid (own_keep O2.out hb5 (Nat.le_refl _))
  obtain ⟨A4, c4, rfl, _, _, rd4⟩ := own_rd4 own4
  have D4 := Lib.hid rd4; clear rd4 own4 O2 R2 hb5 hb3
  have S4 : w.heap.size ≤ w4.heap.size := hb6.size
  go_wp2_with (at_builtin; refine wpList_app sty22 (.tmp 20) (.tmp 22) rfl rfl w.heap.size O4.out rfl (n' + 4) c4 D4.out rfl (by rw [bv_length, CrcM.sealed_length, HL'.out]; omega) (bv_one _) (by unfold maxLen; omega) (by omega) S4 ?_; intro v5 w5 own5 gr5 nil5 at5)
  go_ret
  refine ⟨v5, rfl, own_eq own5 (by omega) ?_, hb6.grown gr5 S4 (fun g hg => (O4.out.lt g hg).1)⟩
  rw [← bv_append, frameL, HL'.out]

set_option maxHeartbeats 1000000 in
theorem rappend_fits (A A' : Option Addr) (n c B n' c' B' : Nat) (bs rs : List UInt8) (hl : bs.length = n) (hl' : rs.length = n') (hn : n + n' + 12 ≤ 140737488355328) (hn' : n' ≤ 1048576) (w : World)
    (hr : Rd w B A (bv bs)) (hB : B ≤ w.heap.size) (hr' : Rd w B' A' (bv rs)) (hB' : B' ≤ w.heap.size) :
    Calls Try.prog 33 #[.slice A n c, .slice A' n' c'] w fun e w' => ∃ v, e = .returned (.tuple #[v, .int .i64 0]) ∧ w'.ownsRow w.heap.size 5 1 v (n + n' + 12) (bv (bs ++ frameL rs)) ∧ Below w.heap.size w w' := by
  have HL := Lib.hid hl; clear hl
  have HL' := Lib.hid hl'; clear hl'
  have HR := Lib.hid hr; clear hr
  have HR' := Lib.hid hr'; clear hr'
  go_enter Try.func33, Try.ntmps33
  go_wp2_with (at_builtin; refine wpList_app sty22 (.tmp 9) (.tmp 10) rfl rfl w.heap.size (World.ownsRow_lit w #[] 0 (Nat.le_refl _) (by decide) rfl) rfl n c (Rd.alloc HR.out hB _) rfl (by rw [bv_length, HL.out]; omega) (bv_one _) (by unfold maxLen; omega) (by omega) (by simp) ?_; intro v1 w1 own1 gr1 nil1 at1)
  have hb1 : Below w.heap.size w w1 := ((Below.refl _ _).alloc (Nat.le_refl _) _).grown gr1 (by simp) (by simp [Value.ownBlock])
  have O1 : Hid (w1.ownsRow w.heap.size 5 1 v1 n (bv bs)) := own_eq own1 (by omega) (by simp)
  have R1 := Lib.hid (HR'.out.below (hb1.mono hB'))
  have S1 := hb1.size
  clear own1 gr1 nil1 at1
  refine (rframe_any A' n' c' _ rs HL'.out hn' _ R1.out (by omega)).mono ?_
  rintro e w4 ⟨v4, rfl, own4, hb5⟩
  have hb6 : Below w.heap.size w w4 := hb1.trans (hb5.mono S1)
  have O4 := Lib.hid (own_keep O1.out hb5 (Nat.le_refl _))
  obtain ⟨A4, c4, rfl, _, _, rd4⟩ := own_rd4 own4
  have D4 := Lib.hid rd4; clear rd4 own4 O1 R1 hb5 hb1
  have S4 : w.heap.size ≤ w4.heap.size := hb6.size
  go_wp2_with (at_builtin; refine wpList_app sty22 (.tmp 11) (.tmp 13) rfl rfl w.heap.size O4.out rfl (n' + 12) c4 D4.out rfl (by rw [bv_length, frameL_length, HL'.out]; omega) (bv_one _) (by unfold maxLen; omega) (by omega) S4 ?_; intro v5 w5 own5 gr5 nil5 at5)
  go_ret2
  refine ⟨v5, rfl, own_eq own5 (by omega) ?_, hb6.grown gr5 S4 (fun g hg => (O4.out.lt g hg).1)⟩
  rw [← bv_append]
end Go.Proofs.Ytmfkngijgellhaa
