/- The walks of frame.Append and of the reference's, and what a frame is. -/
import Derived.Test.YtmfkngijgellhaaK
import Derived.Test.YtmfkngijgellhaaE
namespace Go.Proofs.Ytmfkngijgellhaa
open Go.RowKit Go.St
set_option linter.unusedVariables false

/-- A record's frame. -/
def frameL (r : List UInt8) : List UInt8 := CrcM.sealed (CrcM.le32 r.length) ++ CrcM.sealed r
theorem frameL_length (r : List UInt8) : (frameL r).length = r.length + 12 := by
  unfold frameL
  rw [List.length_append, CrcM.sealed_length, CrcM.sealed_length, CrcM.le32_length]
  omega

theorem append_long (A A' : Option Addr) (n c n' c' : Nat) (hn : 1048576 < n') (hn' : n' ≤ 9223372036854775807) (w : World) :
    Calls Try.prog 32 #[.slice A n c, .slice A' n' c'] w fun e w' => e = .returned (.tuple #[.slice none 0 0, .int .i64 3]) ∧ w = w' := by
  go_enter Try.func32, Try.ntmps32
  go_wp2
  go_ret2
  exact ⟨rfl, rfl⟩
theorem rappend_long (A A' : Option Addr) (n c n' c' : Nat) (hn : 1048576 < n') (hn' : n' ≤ 9223372036854775807) (w : World) :
    Calls Try.prog 33 #[.slice A n c, .slice A' n' c'] w fun e w' => e = .returned (.tuple #[.slice none 0 0, .int .i64 3]) ∧ w = w' := by
  go_enter Try.func33, Try.ntmps33
  go_wp2
  go_ret2
  exact ⟨rfl, rfl⟩

theorem lit_cells (n : Nat) (hn : n ≤ 1048576) : (#[Value.int .u8 ((n : Int) % 256), .int .u8 ((n : Int) / 256 % 256), .int .u8 ((n : Int) / 65536), .int .u8 ((n : Int) / 16777216)] : Array Value).toList = bv (CrcM.le32 n) := by
  simp [bv, CrcM.le32, bt_ofNat]
  omega
theorem rd_lits (w : World) (cs : Array Value) (t : TypeId) (xs : List Value) (h : cs.toList = xs) : Rd (w.alloc (.cells cs t)) (w.heap.size + 1) (some ⟨w.heap.size, 0, none⟩) xs := by
  subst h
  exact rd_lit w cs t

set_option maxHeartbeats 1000000 in
theorem append_fits (A A' : Option Addr) (n c B n' c' B' : Nat) (bs rs : List UInt8) (hl : bs.length = n) (hl' : rs.length = n') (hn : n + n' + 12 ≤ 140737488355328) (hn' : n' ≤ 1048576) (w : World)
    (hr : Rd w B A (bv bs)) (hB : B ≤ w.heap.size) (hr' : Rd w B' A' (bv rs)) (hB' : B' ≤ w.heap.size) :
    Calls Try.prog 32 #[.slice A n c, .slice A' n' c'] w fun e w' => ∃ v, e = .returned (.tuple #[v, .int .i64 0]) ∧ w'.ownsRow w.heap.size 5 1 v (n + n' + 12) (bv (bs ++ frameL rs)) ∧ Below w.heap.size w w' := by
  have HL := Lib.hid hl; clear hl
  have HL' := Lib.hid hl'; clear hl'
  have HR := Lib.hid hr; clear hr
  have HR' := Lib.hid hr'; clear hr'
  go_enter Try.func32, Try.ntmps32
  go_wp2_with (at_builtin; refine wpList_app sty22 _ (.tmp 12) rfl rfl w.heap.size (World.ownsRow_nil w _ _ _) rfl n c HR.out rfl (by rw [bv_length, HL.out]; omega) (bv_one _) (by unfold maxLen; omega) (by omega) (Nat.le_refl _) ?_; intro v1 w1 own1 gr1 nil1 at1)
  have hb1 : Below w.heap.size w w1 := (Below.refl _ _).grown gr1 (Nat.le_refl _) (by simp [Value.ownBlock])
  have O1 : Hid (w1.ownsRow w.heap.size 5 1 v1 n (bv bs)) := own_eq own1 (by omega) (by simp)
  have R1 := Lib.hid (HR'.out.below (hb1.mono hB'))
  have S1 := hb1.size
  clear own1 gr1 nil1 at1
  have hc4 := lit_cells n' hn'
  have H4 := Lib.hid hc4; clear hc4
  refine (sealed_any _ 4 4 _ (CrcM.le32 n') rfl (by omega) _ (rd_lits _ _ _ _ H4.out) (by simp)).mono ?_
  rintro e w2 ⟨v2, rfl, own2, hb2⟩
  have hb3 : Below w.heap.size w w2 := (hb1.alloc S1 _).trans (hb2.mono (by simp; omega))
  have O2 := Lib.hid (own_keep (O1.out.alloc _) hb2 (Nat.le_refl _))
  have R2 := Lib.hid ((R1.out.alloc (by omega) _).below (hb2.mono (by simp; omega)))
  obtain ⟨A2, c2, rfl, _, _, rd2⟩ := own_rd4 own2
  have D2 := Lib.hid rd2; clear rd2 own2 O1 R1 H4
  have S2 : w.heap.size ≤ w2.heap.size := hb3.size
  clear hb2 hb1 S1
  go_wp2_with (at_builtin; refine wpList_app sty22 (.tmp 14) (.tmp 27) rfl rfl w.heap.size O2.out rfl 8 c2 D2.out rfl (by rw [bv_length, CrcM.sealed_length, CrcM.le32_length]) (bv_one _) (by unfold maxLen; omega) (by omega) S2 ?_; intro v3 w3 own3 gr3 nil3 at3)
  have hb4 : Below w.heap.size w w3 := hb3.grown gr3 S2 (fun g hg => (O2.out.lt g hg).1)
  have R3 := Lib.hid (R2.out.grown gr3 (by omega) (fun g hg => Nat.le_trans hB' (O2.out.lt g hg).1))
  have O3 : Hid (w3.ownsRow w.heap.size 5 1 v3 (n + 8) (bv (bs ++ CrcM.sealed (CrcM.le32 n')))) := own_eq own3 rfl (bv_append _ _).symm
  have S3 : w.heap.size ≤ w3.heap.size := hb4.size
  clear own3 gr3 nil3 at3 O2 R2 D2 hb3
  go_wp2_with fail
  refine (sealed_any A' n' c' _ rs HL'.out (by omega) _ R3.out (by omega)).mono ?_
  rintro e w4 ⟨v4, rfl, own4, hb5⟩
  have hb6 : Below w.heap.size w w4 := hb4.trans (hb5.mono S3)
  have O4 := Lib.hid (own_keep O3.out hb5 (Nat.le_refl _))
  obtain ⟨A4, c4, rfl, _, _, rd4⟩ := own_rd4 own4
  have D4 := Lib.hid rd4; clear rd4 own4 O3 R3 hb5 hb4
  have S4 : w.heap.size ≤ w4.heap.size := hb6.size
  go_wp2_with (at_builtin; refine wpList_app sty22 (.tmp 29) (.tmp 31) rfl rfl w.heap.size O4.out rfl (n' + 4) c4 D4.out rfl (by rw [bv_length, CrcM.sealed_length, HL'.out]; omega) (bv_one _) (by unfold maxLen; omega) (by omega) S4 ?_; intro v5 w5 own5 gr5 nil5 at5)
  go_ret2
  refine ⟨v5, rfl, own_eq own5 (by omega) ?_, hb6.grown gr5 S4 (fun g hg => (O4.out.lt g hg).1)⟩
  rw [← bv_append, frameL, HL'.out, List.append_assoc]
end Go.Proofs.Ytmfkngijgellhaa
