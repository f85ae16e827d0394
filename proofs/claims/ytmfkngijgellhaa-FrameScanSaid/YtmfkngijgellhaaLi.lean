/- The walk of the law FrameNames: it returns true. -/
import Derived.Test.YtmfkngijgellhaaQ
import Derived.Test.YtmfkngijgellhaaT
import Derived.Lib.SlBytesConst
namespace Go.Proofs.Ytmfkngijgellhaa
open Go.RowKit Go.St
set_option linter.unusedVariables false

theorem scPost_val {bs : List UInt8} {w w' : World} {e : Ending} {rs : List (List UInt8)} {q : Nat} {e0 : Int} (h : scanF bs = (rs, q, e0)) (hp : ScPost bs w e w') :
    ∃ V vs, e = .returned (.tuple #[V, .int .i64 (q : Nat), .int .i64 e0]) ∧ Rows w' w.heap.size V rs.length vs rs ∧ Below w.heap.size w w' := by
  obtain ⟨V, vs, he, hr, hb⟩ := hp
  rw [h] at he hr
  exact ⟨V, vs, he, hr, hb⟩
theorem rdPost_val {bs : List UInt8} {w w' : World} {e : Ending} {k : Int} (hk : k ≠ 0) (h : readE bs = k) (hp : RdPost bs w e w') :
    ∃ A c, e = .returned (.tuple #[.slice A 0 c, .int .i64 0, .int .i64 k]) ∧ Below w.heap.size w w' := by
  obtain ⟨v, he, ho, hb⟩ := hp
  have hn : readN bs = 0 := by rw [readN, h, if_neg hk]
  have hl : readL bs = [] := by rw [readL, h, if_neg hk]
  rw [hl] at ho
  rw [hn, h] at he
  have ho : w'.ownsRow w.heap.size 5 1 v 0 (bv []) := ho
  obtain ⟨A, c, rfl, _⟩ := own_rd4 ho
  exact ⟨A, c, he, hb⟩

theorem rd_new3 (w : World) (bs : List UInt8) (cs : Array Value) (fr : Nat × Nat) (h : cs.toList = bv bs) : Rd (w.alloc (.cells cs 5 fr)) (w.heap.size + 1) (some ⟨w.heap.size, 0, none⟩) (bv bs) := fun _ => by
  refine ⟨w.heap.size, 0, rfl, by omega, fun i v hv => ?_⟩
  rw [World.cell?_alloc_mark]
  rw [← h] at hv
  simpa using hv

set_option maxHeartbeats 2000000 in
theorem frameNames_walk (w : World) : Calls Try.prog 10 #[] w fun e w' => e = .returned (.bool true) ∧ Below w.heap.size w w' := by
  have kc := fun (w : World) (C : Array Value) (n c : Nat) => Lib.run_convert_bytes_const (P := Try.prog) w 22 5 C n c Try.underlying22 Try.underlying5
  have e7 : Hid (readE (emptyL.take 7) = 4) := by unfold Hid; decide +kernel
  have e11 : Hid (readE (emptyL.take 11) = 4) := by unfold Hid; decide +kernel
  have eb : Hid (readE (emptyL.set 0 1) = 6) := by unfold Hid; decide +kernel
  have es : Hid (scanF ((appL emptyL [97, 98]).take 25) = ([[]], 12, 4)) := by unfold Hid; decide +kernel
  have el : Hid ((appL emptyL [97, 98]).length = 26) := by unfold Hid; decide +kernel
  go_enter Try.func10, Try.ntmps10
  go_wp2_with fail
  refine (empty_any _).mono ?_
  rintro e w1 ⟨v1, rfl, own1, hb1⟩
  obtain ⟨g1, c1, rfl, hnc1, hcm1, hg1, hg2⟩ := own_blk own1 (by omega)
  have O1 := Lib.hid own1; clear own1
  have S1 := hb1.size
  have i1 : (7 : Int) ≤ (c1 : Int) := by omega
  have i2 : (11 : Int) ≤ (c1 : Int) := by omega
  go_wp2_with fail
  refine (read_any (some ⟨g1, 0, none⟩) 7 c1 _ (emptyL.take 7) rfl (by omega) (by omega) _ (by have := (Rd.own O1.out).take 7; rwa [bv, ← List.map_take] at this) (Nat.le_refl _)).mono ?_
  intro e w2 hp
  obtain ⟨A2, c2, rfl, hb2⟩ := rdPost_val (by decide) e7.out hp
  clear hp
  have HB2 : Hid (Below w.heap.size w w2) := hb1.trans (hb2.mono S1)
  have O2 := Lib.hid (own_keep O1.out hb2 (Nat.le_refl _))
  have S2 := hb2.size
  clear hb1 hb2 O1
  go_wp2_with fail
  refine (read_any (some ⟨g1, 0, none⟩) 11 c1 _ (emptyL.take 11) rfl (by omega) (by omega) _ (by have := (Rd.own O2.out).take 11; rwa [bv, ← List.map_take] at this) (Nat.le_refl _)).mono ?_
  intro e w3 hp
  obtain ⟨A3, c3, rfl, hb3⟩ := rdPost_val (by decide) e11.out hp
  clear hp
  have HB3 : Hid (Below w.heap.size w w3) := HB2.out.trans (hb3.mono (by omega))
  have O3 := Lib.hid (own_keep O2.out hb3 (Nat.le_refl _))
  have S3 := hb3.size
  clear hb3 O2 HB2
  have hcx := O3.out.cellAt 0 (by omega)
  have hcx : w3.cell? ⟨g1, 0, none⟩ = some (.int .u8 0) := hcx
  have hfx := O3.out.frozenAt 0
  have o4 := (O3.out.stored 0 (bt 1)).1
  rw [bv_set] at o4
  have O4 : Hid ((w3.setCell ⟨g1, 0, none⟩ (.int .u8 1)).ownsRow w.heap.size 5 1 (.slice (some ⟨g1, 0, none⟩) 12 c1) 12 (bv (emptyL.set 0 1))) := o4
  have HB4 : Hid (Below w.heap.size w (w3.setCell ⟨g1, 0, none⟩ (.int .u8 1))) := HB3.out.setCell (p := ⟨g1, 0, none⟩) hg1 _
  have S4 : w3.heap.size ≤ (w3.setCell ⟨g1, 0, none⟩ (.int .u8 1)).heap.size := by simp
  clear o4 HB3 O3
  go_wp2_with fail
  generalize w3.setCell ⟨g1, 0, none⟩ (.int .u8 1) = w4 at *
  refine (read_any (some ⟨g1, 0, none⟩) 12 c1 _ (emptyL.set 0 1) rfl (by omega) (by omega) _ (Rd.own O4.out) (Nat.le_refl _)).mono ?_
  intro e w5 hp
  obtain ⟨A5, c5, rfl, hb5⟩ := rdPost_val (by decide) eb.out hp
  clear hp hcx hfx
  have HB5 : Hid (Below w.heap.size w w5) := HB4.out.trans (hb5.mono (by omega))
  have S5 := hb5.size
  clear hb5 O4 HB4
  go_wp2_with fail
  refine (empty_any _).mono ?_
  rintro e w6 ⟨v6, rfl, own6, hb6⟩
  have HB6 : Hid (Below w.heap.size w w6) := HB5.out.trans (hb6.mono (by omega))
  have S6 := hb6.size
  obtain ⟨A6, c6, rfl, hnc6, _, rd6⟩ := own_rd4 own6
  have D6 := Lib.hid rd6; clear rd6 own6 hb6 HB5
  have kc1 := kc w6
  go_wp2_with fail
  refine (append_any A6 (some ⟨w6.heap.size, 0, none⟩) 12 c6 _ 2 2 _ emptyL [97, 98] rfl rfl (by omega) (by omega) _ (D6.out.alloc (Nat.le_refl _) _) (by simp) (rd_new3 w6 [97, 98] _ _ (by rfl)) (by simp)).mono ?_
  rintro e w7 ⟨v7, rfl, own7, hb7⟩
  clear kc1 kc
  rw [el.out] at own7
  have HB7 : Hid (Below w.heap.size w w7) := (HB6.out.alloc HB6.out.size _).trans (hb7.mono (by simp; omega))
  have S7 : w6.heap.size ≤ w7.heap.size := by have := hb7.size; simp at this; omega
  obtain ⟨A7, c7, rfl, hnc7, _, rd7⟩ := own_rd4 own7
  have D7 : Hid (Rd w7 w7.heap.size A7 (bv ((appL emptyL [97, 98]).take 25))) := by
    have := rd7.take 25
    rwa [bv, ← List.map_take] at this
  have el2 : ((appL emptyL [97, 98]).take 25).length = 25 := by rw [List.length_take, el.out]; rfl
  have EL2 := Lib.hid el2; clear el2
  clear rd7 own7 hb7 HB6 D6
  have i3 : (25 : Int) ≤ (c7 : Int) := by omega
  have ea : appE 2 = 0 := rfl
  rw [ea]
  go_wp2_with fail
  refine (scan_any A7 25 c7 _ ((appL emptyL [97, 98]).take 25) EL2.out (by omega) (by omega) _ D7.out (Nat.le_refl _)).mono ?_
  intro e w8 hp
  obtain ⟨V8, vs8, rfl, hr8, hb8⟩ := scPost_val es.out hp
  clear hp
  have hr8 : w8.ownsRow w7.heap.size 22 1 V8 1 vs8 := hr8.own
  obtain ⟨A8, c8, rfl, _⟩ := own_rd hr8
  have HB8 : Hid (Below w.heap.size w w8) := HB7.out.trans (hb8.mono (by omega))
  have S8 := hb8.size
  clear hr8 hb8 HB7 D7
  obtain ⟨w9, hmk, _, gr9⟩ := run_mk sty22 w8 w8.heap.size 1048577 (by omega) (by unfold maxLen; omega) (Nat.le_refl _)
  have hmk : (Instr.makeSlice 22 (.int .i64 1048577) (.int .i64 1048577)).run Try.prog w8 = .ok (.slice (some ⟨w8.heap.size, 0, none⟩) 1048577 1048577) w9 := hmk
  have HB9 : Hid (Below w.heap.size w w9) := HB8.out.grown gr9 (by omega) (by simp)
  clear gr9
  go_wp2_with fail
  refine (append_long none (some ⟨w8.heap.size, 0, none⟩) 0 0 1048577 1048577 (by omega) (by omega) w9).mono ?_
  rintro e w' ⟨rfl, rfl⟩
  clear hmk
  go_wp2_with fail
  refine (lives3_any _).mono ?_
  rintro e w10 ⟨rfl, hb10⟩
  have hb11 := HB9.out.trans (hb10.mono HB9.out.size)
  go_wp2
  go_ret
  exact ⟨rfl, hb11⟩
end Go.Proofs.Ytmfkngijgellhaa
