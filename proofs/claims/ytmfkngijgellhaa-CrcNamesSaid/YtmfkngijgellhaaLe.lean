/- The walk of the law CrcNames: it returns true. -/
import Derived.Test.YtmfkngijgellhaaD
import Derived.Test.YtmfkngijgellhaaG
import Derived.Test.YtmfkngijgellhaaBb
import Derived.Test.YtmfkngijgellhaaE
namespace Go.Proofs.Ytmfkngijgellhaa
open Go.RowKit Go.St
set_option linter.unusedVariables false

theorem rd_new (w : World) (bs : List UInt8) (cs : Array Value) (fr : Nat × Nat) (h : cs.toList = bv bs) : Rd (w.alloc (.cells cs 5 fr)) (w.heap.size + 1) (some ⟨w.heap.size, 0, none⟩) (bv bs) := fun _ => by
  refine ⟨w.heap.size, 0, rfl, by omega, fun i v hv => ?_⟩
  rw [World.cell?_alloc_mark]
  rw [← h] at hv
  simpa using hv

theorem below_dn {B : Nat} {a w : World} (h : Below B a w) (n : Nat) : Below B a (w.drewN n) := ⟨h.os, h.tape, h.output, h.size, h.block⟩
theorem rd_at (w : World) (b : Nat) (hb : b = w.heap.size) (bs : List UInt8) (cs : Array Value) (fr : Nat × Nat) (h : cs.toList = bv bs) : Rd (w.alloc (.cells cs 5 fr)) (b + 1) (some ⟨b, 0, none⟩) (bv bs) := by
  subst hb
  exact rd_new w bs cs fr h
theorem burst_yes' (x y : Int) (A : Option Addr) (n c B : Nat) (bs : List UInt8) (hl : bs.length = n) (hn : n ≤ 140737488355328) (a : Nat) (hx : x = (a : Int)) (ha64 : (a : Int) ≤ 9223372036854775807) (t : Nat) (hy : y = (t : Int)) (ht : t < 4294967296) (hf : Lib.bitLen t = 0 ∨ a + Lib.bitLen t ≤ 8 * n) (w : World)
    (hr : Rd w B A (bv bs)) (hB : B ≤ w.heap.size) :
    Calls Try.prog 23 #[.slice A n c, .int .i64 x, .int .u32 y] w fun e w' => ∃ v, e = .returned (.tuple #[v, .int .i64 0]) ∧ w'.ownsRow w.heap.size 5 1 v n (bv (CrcM.turnTo bs a t (Lib.bitLen t))) ∧ Below w.heap.size w w' := by
  subst hx
  subst hy
  exact burst_yes A n c B bs hl hn a ha64 t ht hf w hr hB
theorem burst_far' (x y : Int) (A : Option Addr) (n c : Nat) (hn : n ≤ 140737488355328) (hx : 0 ≤ x) (t : Nat) (hy : y = (t : Int)) (ht : t < 4294967296) (h1 : 1 ≤ Lib.bitLen t) (hf : 8 * (n : Int) - Lib.bitLen t < x) (w : World) :
    Calls Try.prog 23 #[.slice A n c, .int .i64 x, .int .u32 y] w fun e w' => e = .returned (.tuple #[.slice none 0 0, .int .i64 2]) ∧ w = w' := by
  subst hy
  exact burst_far A n c hn x hx t ht h1 hf w

theorem rd_low {w : World} {B B' b o : Nat} {xs : List Value} (h : Rd w B (some ⟨b, o, none⟩) xs) (hb : b < B') : Rd w B' (some ⟨b, o, none⟩) xs := fun hn => by
  obtain ⟨b1, o1, e, _, hc⟩ := h hn
  injection e with e
  injection e with e1 e2
  subst e1
  subst e2
  exact ⟨b, o, rfl, hb, hc⟩

set_option maxHeartbeats 2000000 in
theorem crcNames_walk (w : World) : Calls Try.prog 6 #[] w fun e w' => e = .returned (.bool true) ∧ Below w.heap.size w w' := by
  have kc := fun (w : World) (C : Array Value) (n c : Nat) => Lib.run_convert_bytes_const (P := Try.prog) w 22 5 C n c Try.underlying22 Try.underlying5
  have hmk : ∀ W : World, (Instr.makeSlice 22 (.int .i64 32) (.int .i64 32)).run Try.prog W = .ok (.slice (some ⟨W.heap.size, 0, none⟩) 32 32) (W.alloc (.cells (madeCells #[.int .u8 0] 32) 5)) := fun W => by kernel_rfl
  obtain ⟨w1, hw1⟩ : ∃ w1, w1 = w.alloc (.cells (madeCells #[.int .u8 0] 32) 5) := ⟨_, rfl⟩
  have hmk1 := hmk w
  have HMK := Lib.hid hmk; clear hmk
  have own1 : w1.ownsRow w.heap.size 5 1 (.slice (some ⟨w.heap.size, 0, none⟩) 32 32) 32 (bv (fill (List.replicate 32 255) 0 0)) := by
    rw [hw1]
    exact own_eq (World.ownsRow_lit w (madeCells #[.int .u8 0] 32) 32 (Nat.le_refl _) (by decide) (size_madeCells _ _)) rfl (by rw [toList_madeCells_one]; rfl)
  have hb1 : Below w.heap.size w w1 := by rw [hw1]; exact (Below.refl _ _).alloc (Nat.le_refl _) _
  rw [← hw1] at hmk1
  clear hw1
  have O1 := Lib.hid own1; clear own1
  go_enter Try.func6, Try.ntmps6
  go_wp2
  clear hmk1
  go_loopw [2] (fun i wr => ∃ k : Nat, k ≤ 32 ∧ i = .int .i64 k ∧ wr.ownsRow w.heap.size 5 1 (.slice (some ⟨w.heap.size, 0, none⟩) 32 32) 32 (bv (fill (List.replicate 32 255) 0 k)) ∧ Below w.heap.size w wr) (fun i _ => 32 - (intOf i).toNat)
  case atStart => exact ⟨0, Nat.zero_le _, rfl, O1.out, hb1⟩
  case round =>
    obtain ⟨k, hk, rfl, hown, hbw⟩ := hrel
    clear O1 hb1
    have OW := Lib.hid hown; clear hown
    by_cases hlt : k < 32
    · have hcx := OW.out.cellAt k (by omega)
      rw [bv_get _ k (by rw [fill_length _ _ _ (by simpa using hk)]; simpa using hlt)] at hcx
      have hfx := OW.out.frozenAt k
      unfold bt at hcx
      have i4 : (k : Int) < 32 := by omega
      go_wp2
      have o2 := (OW.out.stored k (bt 255)).1
      have e := fill_set (List.replicate 32 (255 : UInt8)) 0 k (by simpa using hlt)
      rw [List.getElem_replicate] at e
      rw [bv_set, e] at o2
      exact ⟨⟨k + 1, by omega, by go_num, o2, hbw.setCell (p := ⟨w.heap.size, k, none⟩) (Nat.le_refl _) _⟩, by simp [intOf]; omega⟩
    · obtain rfl : k = 32 := by omega
      have o2 : wr.ownsRow w.heap.size 5 1 (.slice (some ⟨w.heap.size, 0, none⟩) 32 32) 32 (bv (List.replicate 32 255)) := by
        have := OW.out
        have e := fill_all (List.replicate 32 (255 : UInt8)) 0
        rw [List.length_replicate] at e
        rwa [e] at this
      have RF := Lib.hid (rd_low (B' := w.heap.size + 1) (Rd.own o2) (Nat.lt_succ_self _))
      have hz : w.heap.size + 1 ≤ wr.heap.size := (o2.lt _ rfl).2
      clear OW o2
      go_wp2_with fail
      refine (opened_yes _ 0 4 _ [0, 0, 0, 0] rfl (by omega) (by omega) (by decide +kernel) _ (rd_new _ [0, 0, 0, 0] _ _ (by rfl)) (by simp)).mono ?_
      rintro e w2 ⟨v2, rfl, own2, hb2⟩
      have hz2 : w.heap.size + 1 ≤ w2.heap.size := by have := hb2.size; simp at this; omega
      obtain ⟨A2, c2, rfl, hnc2, _, _⟩ := own_rd4 own2
      have hb3 : Below w.heap.size w w2 := (hbw.alloc hbw.size _).trans (hb2.mono (by have := hbw.size; simp; omega))
      have RF2 := Lib.hid ((RF.out.alloc hz _).below (hb2.mono (by simp; omega)))
      clear own2 hb2 RF hbw hz
      go_wp2_with fail
      refine (opened_short _ 3 3 (by omega) _).mono ?_
      rintro e w3 ⟨rfl, q3, rfl⟩
      go_wp2_with fail
      have k3 : Lib.bitLen 3 = 2 := by decide +kernel
      refine (burst_yes' 7 3 _ 2 2 _ [0, 0] rfl (by omega) 7 rfl (by omega) 3 rfl (by omega) (by rw [k3]; omega) _ (rd_at _ _ (by simp) [0, 0] _ _ (by rfl)) (by simp)).mono ?_
      rintro e w4 ⟨v4, rfl, own4, hb4⟩
      rw [k3, show CrcM.turnTo [0, 0] 7 3 2 = [128, 1] by decide +kernel] at own4
      clear k3
      have hz4 : w.heap.size + 1 ≤ w4.heap.size := by have := hb4.size; simp at this; omega
      have hs3 := hb3.size
      have hb5 : Below w.heap.size w w4 := ((below_dn (hb3.alloc hs3 _) q3).alloc (by simp; omega) _).trans (hb4.mono (by simp; omega))
      have RF5 := Lib.hid (Rd.below (Rd.alloc (show Rd ((w2.alloc (Obj.cells #[Value.int IntKind.u8 0, Value.int IntKind.u8 0, Value.int IntKind.u8 0] 5)).drewN q3) _ _ _ from RF2.out.alloc hz2 _) (by simp; omega) (Obj.cells #[Value.int IntKind.u8 0, Value.int IntKind.u8 0] 5)) (hb4.mono (by simp; omega)))
      obtain ⟨A4, c4, rfl, _, _, r4⟩ := own_rd4 own4
      have R4 := Lib.hid r4
      clear own4 hb4 hb3 RF2 hs3 hz2 r4
      go_wp2_with fail
      have k8 : Lib.bitLen 255 = 8 := by decide +kernel
      refine (burst_far' 9 255 _ 2 2 (by omega) (by omega) 255 rfl (by omega) (by rw [k8]; omega) (by rw [k8]; omega) _).mono ?_
      rintro e w' ⟨rfl, rfl⟩
      clear k8
      have hb6 : Below w.heap.size w (w4.alloc (Obj.cells #[Value.int IntKind.u8 0, Value.int IntKind.u8 0] 5)) := hb5.alloc hb5.size _
      have RF6 := Lib.hid (RF5.out.alloc hz4 (Obj.cells #[Value.int IntKind.u8 0, Value.int IntKind.u8 0] 5))
      have R6 := Lib.hid (R4.out.alloc (Nat.le_refl _) (Obj.cells #[Value.int IntKind.u8 0, Value.int IntKind.u8 0] 5))
      have hz6 : w4.heap.size + 1 = (w4.alloc (Obj.cells #[Value.int IntKind.u8 0, Value.int IntKind.u8 0] 5)).heap.size := by simp
      clear RF5 R4 hb5
      generalize w4.alloc (Obj.cells #[Value.int IntKind.u8 0, Value.int IntKind.u8 0] 5) = w6 at *
      have hz7 : w.heap.size + 1 ≤ w6.heap.size := by omega
      have hz8 : w4.heap.size ≤ w6.heap.size := by omega
      clear hz6
      go_wp2_with fail
      refine (sum_any none 0 0 0 [] rfl (by omega) _ Rd.nil).mono ?_
      rintro e w' ⟨rfl, rfl⟩
      have e0 : ((CrcM.cmore 0 [] : Nat) : Int) = 0 := rfl
      rw [e0]
      have hmk := HMK.out w6
      go_wp2_with fail
      refine (sum_any _ 32 _ _ (List.replicate 32 0) rfl (by omega) _ (rd_at _ _ rfl (List.replicate 32 0) _ _ (by rw [toList_madeCells_one]; rfl))).mono ?_
      rintro e w' ⟨rfl, rfl⟩
      have e1 : ((CrcM.cmore 0 (List.replicate 32 0) : Nat) : Int) = 2324772522 := by decide +kernel
      rw [e1]
      clear hmk e1
      have RF7 := Lib.hid (RF6.out.alloc hz7 (Obj.cells (madeCells #[.int .u8 0] 32) 5))
      have R7 := Lib.hid (R6.out.alloc hz8 (Obj.cells (madeCells #[.int .u8 0] 32) 5))
      have hb7 : Below w.heap.size w (w6.alloc (Obj.cells (madeCells #[.int .u8 0] 32) 5)) := hb6.alloc hb6.size _
      have hs7 : (w6.alloc (Obj.cells (madeCells #[.int .u8 0] 32) 5)).heap.size = w6.heap.size + 1 := by simp
      clear RF6 R6 hb6
      generalize w6.alloc (Obj.cells (madeCells #[.int .u8 0] 32) 5) = w7 at *
      have hz9 : w.heap.size + 1 ≤ w7.heap.size := by omega
      have hz10 : w4.heap.size ≤ w7.heap.size := by omega
      clear hs7 hz7 hz8
      go_wp2_with fail
      refine (sum_any _ 32 _ _ (List.replicate 32 255) rfl (by omega) _ RF7.out).mono ?_
      rintro e w' ⟨rfl, rfl⟩
      have e1 : ((CrcM.cmore 0 (List.replicate 32 255) : Nat) : Int) = 1655221059 := by decide +kernel
      rw [e1]
      clear e1 RF7
      have kc1 := kc w7
      go_wp2_with fail
      refine (sum_any _ 4 _ _ [49, 50, 51, 52] rfl (by omega) _ (rd_at _ _ rfl [49, 50, 51, 52] _ _ (by rfl))).mono ?_
      rintro e w' ⟨rfl, rfl⟩
      clear kc1
      have R8 := Lib.hid (R7.out.alloc hz10 (Obj.cells #[Value.int IntKind.u8 49, Value.int IntKind.u8 50, Value.int IntKind.u8 51, Value.int IntKind.u8 52] 5 (4, 5)))
      have hb8 := hb7.alloc hb7.size (Obj.cells #[Value.int IntKind.u8 49, Value.int IntKind.u8 50, Value.int IntKind.u8 51, Value.int IntKind.u8 52] 5 (4, 5))
      have hs8 : (w7.alloc (Obj.cells #[Value.int IntKind.u8 49, Value.int IntKind.u8 50, Value.int IntKind.u8 51, Value.int IntKind.u8 52] 5 (4, 5))).heap.size = w7.heap.size + 1 := by simp
      clear R7 hb7
      generalize w7.alloc (Obj.cells #[Value.int IntKind.u8 49, Value.int IntKind.u8 50, Value.int IntKind.u8 51, Value.int IntKind.u8 52] 5 (4, 5)) = w8 at *
      have hz11 : w4.heap.size ≤ w8.heap.size := by omega
      clear hs8 hz9 hz10
      go_wp2_with fail
      refine (more_any (CrcM.cmore 0 [49, 50, 51, 52]) (CrcM.cmore_lt _ _) _ 5 _ _ [53, 54, 55, 56, 57] rfl (by omega) _ (rd_at _ _ rfl [53, 54, 55, 56, 57] _ _ (by rfl))).mono ?_
      rintro e w' ⟨rfl, rfl⟩
      have e1 : ((CrcM.cmore (CrcM.cmore 0 [49, 50, 51, 52]) [53, 54, 55, 56, 57] : Nat) : Int) = 3808858755 := by decide +kernel
      rw [e1]
      clear e1
      have R9 := Lib.hid (R8.out.alloc hz11 (Obj.cells #[Value.int IntKind.u8 53, Value.int IntKind.u8 54, Value.int IntKind.u8 55, Value.int IntKind.u8 56, Value.int IntKind.u8 57] 5 (5, 6)))
      have hb9 := hb8.alloc hb8.size (Obj.cells #[Value.int IntKind.u8 53, Value.int IntKind.u8 54, Value.int IntKind.u8 55, Value.int IntKind.u8 56, Value.int IntKind.u8 57] 5 (5, 6))
      have hs9 : (w8.alloc (Obj.cells #[Value.int IntKind.u8 53, Value.int IntKind.u8 54, Value.int IntKind.u8 55, Value.int IntKind.u8 56, Value.int IntKind.u8 57] 5 (5, 6))).heap.size = w8.heap.size + 1 := by simp
      clear R8 hb8
      generalize w8.alloc (Obj.cells #[Value.int IntKind.u8 53, Value.int IntKind.u8 54, Value.int IntKind.u8 55, Value.int IntKind.u8 56, Value.int IntKind.u8 57] 5 (5, 6)) = w9 at *
      have hz12 : w4.heap.size ≤ w9.heap.size := by omega
      clear hs9 hz11
      go_wp2_with fail
      refine (lives_any _).mono ?_
      rintro e w10 ⟨rfl, hb10⟩
      have R10 := Lib.hid (R9.out.below (hb10.mono hz12))
      have hb11 := hb9.trans (hb10.mono hb9.size)
      have hz13 : w4.heap.size ≤ w10.heap.size := Nat.le_trans hz12 hb10.size
      clear R9 hb9 hb10 hz12
      go_wp2_with fail
      refine (sealed_any none 0 0 0 [] rfl (by omega) _ Rd.nil (Nat.zero_le _)).mono ?_
      rintro e w12 ⟨v12, rfl, own12, hb12⟩
      obtain ⟨A12, c12, rfl, _, _, r12⟩ := own_rd4 own12
      have R12 := Lib.hid r12
      have R13 := Lib.hid (R10.out.below (hb12.mono hz13))
      have hb13 := hb11.trans (hb12.mono hb11.size)
      have hz14 : w4.heap.size ≤ w12.heap.size := Nat.le_trans hz13 hb12.size
      clear own12 r12 R10 hb11 hb12 hz13
      go_wp2_with fail
      refine (same_any A12 _ 4 4 c12 4 _ _ (CrcM.sealed []) [0, 0, 0, 0] rfl rfl (by omega) _ (R12.out.alloc (Nat.le_refl _) _) (rd_at _ _ rfl [0, 0, 0, 0] _ _ (by rfl))).mono ?_
      rintro e w' ⟨rfl, q14, rfl⟩
      have ed : decide (CrcM.sealed [] = [0, 0, 0, 0]) = true := by decide +kernel
      rw [ed]
      clear ed R12
      have R14 := Lib.hid (R13.out.alloc hz14 (Obj.cells #[Value.int IntKind.u8 0, Value.int IntKind.u8 0, Value.int IntKind.u8 0, Value.int IntKind.u8 0] 5))
      have hb14 := below_dn (hb13.alloc hb13.size (Obj.cells #[Value.int IntKind.u8 0, Value.int IntKind.u8 0, Value.int IntKind.u8 0, Value.int IntKind.u8 0] 5)) q14
      go_wp2_with fail
      refine (same_any A4 _ 2 2 c4 2 _ _ [128, 1] [128, 1] rfl rfl (by omega) _ (Rd.alloc (show Rd ((w12.alloc _).drewN q14) _ _ _ from R14.out) (by simp; omega) _) (rd_at _ _ (by simp) [128, 1] _ _ (by rfl))).mono ?_
      rintro e w' ⟨rfl, q15, rfl⟩
      have ed : decide ([128, 1] = [(128 : UInt8), 1]) = true := by decide +kernel
      rw [ed]
      go_wp2
      go_ret
      exact ⟨rfl, below_dn (hb14.alloc (by simpa using hb14.size) _) q15⟩
end Go.Proofs.Ytmfkngijgellhaa
