/- Walk: the chapter's first example of blocks holds. -/
import Derived.Test.YtmcpjpkidcbgiaaEq
import Derived.Test.YtmcpjpkidcbgiaaKit
namespace Go.Proofs.Ytmcpjpkidcbgiaa
open Go.RowKit Go.St Go.Maps
set_option linter.unusedVariables false
set_option linter.unusedSimpArgs false
set_option maxRecDepth 100000

theorem bel_dn {B : Nat} {a w : World} (h : Below B a w) (n : Nat) : Below B a (w.drewN n) := ⟨h.os, h.tape, h.output, h.size, h.block⟩
def exE : List Ent := [⟨{ data := #[97, 98] }, { data := #[120] }, 3, false⟩, ⟨{ data := #[97, 98] }, zB, 1, true⟩, ⟨{ data := #[97, 98, 99] }, { data := #[121] }, 2, false⟩]
def exB : List UInt8 := [3, 0, 2, 97, 98, 3, 0, 1, 120, 2, 0, 1, 1, 2, 1, 99, 2, 0, 1, 121]
theorem ex_chk : chkL exE = 0 := by kernel_rfl
theorem ex_enc : encL exE = exB := by kernel_rfl
theorem ex_dec : decO exB = some exE := by kernel_rfl

theorem example07_any (w : World) : Calls Try.prog 34 #[] w fun e w' => ∃ b1 b2, e = .returned (.tuple #[.slice (some ⟨b1, 0, none⟩) 3 3, .slice (some ⟨b2, 0, none⟩) 20 20]) ∧ Rd w' w'.heap.size (some ⟨b1, 0, none⟩) (env exE) ∧ Rd w' w'.heap.size (some ⟨b2, 0, none⟩) (bv exB) ∧ Below w.heap.size w w' := by
  go_enter Try.func34, Try.ntmps34
  go_wp2_with fail
  go_ret2
  have r1 : Rd (w.alloc (.cells (env exE).toArray 43)) (w.alloc (.cells (env exE).toArray 43)).heap.size (some ⟨w.heap.size, 0, none⟩) (env exE) := rd_frC w (env exE).toArray 43 (0, 0)
  have r2 := rd_frC (w.alloc (.cells (env exE).toArray 43)) (bv exB).toArray 5 (0, 0)
  have hb := (Below.refl w.heap.size w).alloc (Nat.le_refl _) (.cells (env exE).toArray 43)
  have hb2 : Below (w.alloc (.cells (env exE).toArray 43)).heap.size (w.alloc (.cells (env exE).toArray 43)) ((w.alloc (.cells (env exE).toArray 43)).alloc (.cells (bv exB).toArray 5)) := (Below.refl _ _).alloc (Nat.le_refl _) _
  have r2b : Rd ((w.alloc (.cells (env exE).toArray 43)).alloc (.cells (bv exB).toArray 5)) ((w.alloc (.cells (env exE).toArray 43)).alloc (.cells (bv exB).toArray 5)).heap.size (some ⟨w.heap.size + 1, 0, none⟩) (bv exB) := by
    rw [show (w.alloc (.cells (env exE).toArray 43)).heap.size = w.heap.size + 1 from World.size_alloc _ _] at r2
    exact r2
  exact ⟨w.heap.size, w.heap.size + 1, rfl, (r1.below hb2).more hb2.size, r2b, hb.alloc (by simp) _⟩

set_option maxHeartbeats 1600000 in
theorem lives07_any (w : World) : Calls Try.prog 10 #[] w fun e w' => e = .returned (.bool true) ∧ Below w.heap.size w w' := by
  go_enter Try.func10, Try.ntmps10
  go_wp2_with fail
  refine (example07_any _).mono ?_
  rintro e w1 ⟨b1, b2, rfl, r1, r2, hb1⟩
  have B1 := Lib.hid hb1
  have R1 := Lib.hid r1
  have R2 := Lib.hid r2
  clear hb1 r1 r2
  go_wp2_with fail
  have he := encode_any (some ⟨b1, 0, none⟩) 3 3 exE rfl (by omega) (by decide) w1.heap.size w1 R1.out (Nat.le_refl _)
  rw [ex_chk, ex_enc] at he
  refine he.mono ?_
  rintro e w2 ⟨v2, rfl, o2, hb2⟩
  obtain ⟨A2, c2, rfl, hc2, -⟩ := own_sl o2
  have O2 := Lib.hid (own_rdL o2)
  have B2 := Lib.hid (B1.out.trans (hb2.mono B1.out.size))
  have R3 := Lib.hid ((R1.out.below hb2).more hb2.size)
  have R4 := Lib.hid ((R2.out.below hb2).more hb2.size)
  have hs2 := hb2.size
  clear he o2 hb2 R1 R2 B1 hs2 hc2
  go_wp2_with fail
  have hd := decode_any (some ⟨b2, 0, none⟩) 20 20 w2.heap.size exB rfl (Nat.le_refl _) (by omega) (by omega) w2 R4.out (Nat.le_refl _)
  rw [(dec_some ex_dec).1, (dec_some ex_dec).2] at hd
  refine hd.mono ?_
  rintro e w3 ⟨v3, rfl, o3, hb3⟩
  obtain ⟨A3, c3, rfl, hc3, -⟩ := own_sl o3
  have O3 := Lib.hid (own_rdL o3)
  have B3 := Lib.hid (B2.out.trans (hb3.mono B2.out.size))
  have R5 := Lib.hid ((R3.out.below hb3).more hb3.size)
  have R6 := Lib.hid ((R4.out.below hb3).more hb3.size)
  have O4 := Lib.hid ((O2.out.below hb3).more hb3.size)
  clear hd o3 hb3 R3 R4 B2 O2 hc3
  have l1 : exB.length = 20 := rfl
  have l2 : exE.length = 3 := rfl
  rw [l1, l2]
  go_wp2_with fail
  refine (same_any A2 (some ⟨b2, 0, none⟩) 20 20 c2 20 w3.heap.size w3.heap.size exB exB rfl rfl (by omega) w3 O4.out R6.out).mono ?_
  rintro e w4 ⟨rfl, m, rfl⟩
  rw [decide_eq_true rfl]
  have hb4 : Below w3.heap.size w3 (w3.drewN m) := bel_dn (Below.refl _ _) m
  have B4 := Lib.hid (B3.out.trans (hb4.mono B3.out.size))
  have R7 := Lib.hid (R5.out.below hb4)
  have O5 := Lib.hid (O3.out.below hb4)
  have hs4 : w3.heap.size ≤ (w3.drewN m).heap.size := hb4.size
  clear hb4 B3 R5 R6 O4 O3
  generalize w3.drewN m = w4 at *
  go_wp2_with fail
  refine (sameE_any (some ⟨b1, 0, none⟩) A3 3 3 3 c3 w3.heap.size w3.heap.size exE exE rfl rfl (by omega) w4 R7.out hs4 O5.out hs4).mono ?_
  rintro e w5 ⟨rfl, hb5⟩
  rw [decide_eq_true rfl]
  go_wp2_with fail
  go_ret
  exact ⟨rfl, B4.out.trans (hb5.mono B4.out.size)⟩
end Go.Proofs.Ytmcpjpkidcbgiaa
