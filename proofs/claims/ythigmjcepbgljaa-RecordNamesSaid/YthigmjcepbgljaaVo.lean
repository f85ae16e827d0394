/- Walks: the chapter's first examples of records. -/
import Derived.Test.YthigmjcepbgljaaVn
import Derived.Test.YthigmjcepbgljaaVf
import Derived.Test.YthigmjcepbgljaaWg
import Derived.Deep.Cut
namespace Go.Proofs.Ythigmjcepbgljaa
open Go.RowKit Go.St
set_option linter.unusedVariables false
set_option linter.unusedSimpArgs false
set_option maxRecDepth 100000

theorem rs_new (W : World) : RdN (W.alloc (.cells #[.string ⟨#[97]⟩, .string ⟨#[98]⟩] 9)) 0 (some ⟨W.heap.size, 0, none⟩) (sv [tx 97, tx 98]) := rdn_new W [tx 97, tx 98] 9 0 (Nat.zero_le _)
theorem fr_ev : freshE 1 2 5 = 0 ∧ stageE (frR 1 2 5) ⟨9, 0, 17⟩ 2 [tx 97, tx 98] 6 = 0 := by decide +kernel
theorem fresh_ex (w : World) : Calls Try.prog 37 #[.agg #[.int .i32 1, .int .i32 2], .int .i64 5] w fun e w' => ∃ A c, e = .returned (.tuple #[.agg #[.int .i32 1, .int .i32 2, .int .u8 1, .int .i64 0, .int .i32 0, .int .i32 0, .slice A 0 c, .int .i64 5, .int .i64 0, .int .i32 0, .int .i32 0], .int .i64 0]) ∧ Below w.heap.size w w' := by
  have h := fresh_any 1 2 5 w
  have hO : freshO 1 2 5 = frR 1 2 5 := by unfold freshO; rw [if_pos fr_ev.1]
  rw [hO, fr_ev.1] at h
  exact h.mono fun e w' ⟨A, c, he, _, hb⟩ => ⟨A, c, he, hb⟩
def StgX (w : World) (e : Ending) (w' : World) : Prop := ∃ A' c', e = .returned (.tuple #[.agg #[.int .i32 1, .int .i32 2, .int .u8 2, .int .i64 9, .int .i32 0, .int .i32 17, .slice A' 2 c', .int .i64 6, .int .i64 0, .int .i32 0, .int .i32 0], .int .i64 0]) ∧ RdN w' w.heap.size A' (sv [tx 97, tx 98]) ∧ Below w.heap.size w w'
theorem stage_ex (A0 : Option Addr) (c0 : Nat) (A2 : Option Addr) (w : World) (hr : Rd w w.heap.size A2 (sv [tx 97, tx 98])) :
    Calls Try.prog 29 #[.agg #[.int .i32 1, .int .i32 2, .int .u8 1, .int .i64 0, .int .i32 0, .int .i32 0, .slice A0 0 c0, .int .i64 5, .int .i64 0, .int .i32 0, .int .i32 0], .agg #[.int .i64 9, .int .i32 0, .int .i32 17], .slice A2 2 2, .int .i64 6] w (StgX w) := by
  have h := stage_any ((frR 1 2 5).to A0 c0) ⟨9, 0, 17⟩ A2 2 2 [tx 97, tx 98] 6 rfl rfl (by omega) w.heap.size w Rd.nil hr (Nat.le_refl _)
  have hE : stageE ((frR 1 2 5).to A0 c0) ⟨9, 0, 17⟩ 2 [tx 97, tx 98] 6 = 0 := fr_ev.2
  have hO : stageO ((frR 1 2 5).to A0 c0) ⟨9, 0, 17⟩ 2 [tx 97, tx 98] 6 = stgR ((frR 1 2 5).to A0 c0) ⟨9, 0, 17⟩ 2 [tx 97, tx 98] 6 := by unfold stageO; rw [if_pos hE]
  rw [hO, hE] at h
  exact h
set_option maxHeartbeats 3200000 in
theorem lives22_any (w : World) : Calls Try.prog 28 #[] w fun e w' => e = .returned (.bool true) ∧ Below w.heap.size w w' := by
  have HT := Lib.hid (fun W => tag_any 1 2 W)
  have ht : tagV 1 2 = 17 ∧ tagE 1 2 = 0 := by decide
  rw [ht.1, ht.2] at HT
  clear ht
  go_enter Try.func28, Try.ntmps28
  go_wp2_with fail
  refine (example22_any _).mono ?_
  rintro e w1 ⟨A, c, rfl, hrn, hb⟩
  go_wp2_with fail
  have HB2 : Hid (Below w.heap.size w ((w1.alloc (.cells #[.int .i32 1, .int .i32 2] 24)).alloc (.cells #[.int .i32 1, .int .i32 2, .int .u8 2, .int .i64 9, .int .i32 0, .int .i32 17, .slice A 2 c, .int .i64 6, .int .i64 0, .int .i32 0, .int .i32 0] 30))) := Lib.hid ((hb.alloc hb.size _).alloc (by have := hb.size; simp; omega) _)
  have T2 := Lib.hid ((BxT.new w1 1 2 24).alloc (.cells #[.int .i32 1, .int .i32 2, .int .u8 2, .int .i64 9, .int .i32 0, .int .i32 17, .slice A 2 c, .int .i64 6, .int .i64 0, .int .i32 0, .int .i32 0] 30))
  have X2 := BxQ.new (w1.alloc (.cells #[.int .i32 1, .int .i32 2] 24)) ⟨1, 2, 2, ⟨9, 0, 17⟩, A, 2, c, [tx 97, tx 98], 6, ⟨0, 0, 0⟩⟩ 30
  rw [World.size_alloc] at X2
  have X2 := Lib.hid X2
  have R2 : Hid (RdN ((w1.alloc (.cells #[.int .i32 1, .int .i32 2] 24)).alloc (.cells #[.int .i32 1, .int .i32 2, .int .u8 2, .int .i64 9, .int .i32 0, .int .i32 17, .slice A 2 c, .int .i64 6, .int .i64 0, .int .i32 0, .int .i32 0] 30)) w.heap.size A (sv [tx 97, tx 98])) := Lib.hid ((hrn.alloc _).alloc _)
  clear hrn
  have hw1 : w.heap.size ≤ w1.heap.size := hb.size
  clear hb
  dsimp only at X2
  generalize hw2 : ((w1.alloc (.cells #[.int .i32 1, .int .i32 2] 24)).alloc (.cells #[.int .i32 1, .int .i32 2, .int .u8 2, .int .i64 9, .int .i32 0, .int .i32 17, .slice A 2 c, .int .i64 6, .int .i64 0, .int .i32 0, .int .i32 0] 30)) = w2 at *
  generalize hb1 : w1.heap.size = b1 at *
  clear hw2 hb1
  refine (HT.out _).mono ?_
  rintro e w3 ⟨rfl, hb⟩
  have HB3 : Hid (Below w.heap.size w w3) := Lib.hid (HB2.out.trans (hb.mono HB2.out.size))
  have T3 := Lib.hid (T2.out.next hb)
  have X3 := Lib.hid (X2.out.next hb)
  have R3 := Lib.hid (R2.out.next hb)
  clear hb T2 X2 R2 HB2
  obtain ⟨t0, t1, t2, t3⟩ := T3.out
  go_wp2_with fail
  refine (fresh_ex _).mono ?_
  rintro e w4 ⟨A0, c0, rfl, hb⟩
  have HB4 : Hid (Below w.heap.size w w4) := Lib.hid (HB3.out.trans (hb.mono HB3.out.size))
  have X4 := Lib.hid (X3.out.next hb)
  have R4 := Lib.hid (R3.out.next hb)
  clear hb T3 X3 R3 HB3 t0 t1 t2 t3 HT
  go_upto_region 4 with (fail)
  have X5 := Lib.hid (X4.out.alloc (.cells #[.int .i32 1, .int .i32 2, .int .u8 1, .int .i64 0, .int .i32 0, .int .i32 0, .slice A0 0 c0, .int .i64 5, .int .i64 0, .int .i32 0, .int .i32 0] 30))
  have R5 := Lib.hid (R4.out.alloc (.cells #[.int .i32 1, .int .i32 2, .int .u8 1, .int .i64 0, .int .i32 0, .int .i32 0, .slice A0 0 c0, .int .i64 5, .int .i64 0, .int .i32 0, .int .i32 0] 30))
  have F5 := Lib.hid (BxQ.new w4 ⟨1, 2, 1, ⟨0, 0, 0⟩, A0, 0, c0, [], 5, ⟨0, 0, 0⟩⟩ 30)
  have HB5 : Hid (Below w.heap.size w (w4.alloc (.cells #[.int .i32 1, .int .i32 2, .int .u8 1, .int .i64 0, .int .i32 0, .int .i32 0, .slice A0 0 c0, .int .i64 5, .int .i64 0, .int .i32 0, .int .i32 0] 30))) := Lib.hid (HB4.out.alloc HB4.out.size _)
  dsimp only at F5
  clear X4 R4 HB4
  generalize hW0 : (w4.alloc (.cells #[.int .i32 1, .int .i32 2, .int .u8 1, .int .i64 0, .int .i32 0, .int .i32 0, .slice A0 0 c0, .int .i64 5, .int .i64 0, .int .i32 0, .int .i32 0] 30)) = W0 at *
  generalize hb5 : w4.heap.size = b5 at *
  clear hW0 hb5
  go_cut [7, 8] from 9 (fun s7 s8 wc => ∃ b7 A' c', s7 = .pointer (some ⟨b7, 0, none⟩) ∧ s8 = .int .i64 0 ∧ Hid (BxQ wc b7 ⟨1, 2, 2, ⟨9, 0, 17⟩, A', 2, c', [tx 97, tx 98], 6, ⟨0, 0, 0⟩⟩ ∧ RdN wc 0 A' (sv [tx 97, tx 98]) ∧ Below W0.heap.size W0 wc))
  case first =>
    obtain ⟨x0, x1, x2, x3, x4, x5, x6, x7, x8, x9, x10, x11, x12⟩ := F5.out
    dsimp only at x2 x3 x4 x5 x6 x7 x8 x9 x10 x11 x12
    go_region_held3 (fun W => W.cell? ⟨b5, 0, none⟩ = some (.int .i32 1) ∧ W.cell? ⟨b5, 1, none⟩ = some (.int .i32 2) ∧ W.cell? ⟨b5, 2, none⟩ = some (.int .u8 1) ∧ W.cell? ⟨b5, 3, none⟩ = some (.int .i64 0) ∧ W.cell? ⟨b5, 4, none⟩ = some (.int .i32 0) ∧ W.cell? ⟨b5, 5, none⟩ = some (.int .i32 0) ∧ W.cell? ⟨b5, 6, none⟩ = some (.slice A0 0 c0) ∧ W.cell? ⟨b5, 7, none⟩ = some (.int .i64 5) ∧ W.cell? ⟨b5, 8, none⟩ = some (.int .i64 0) ∧ W.cell? ⟨b5, 9, none⟩ = some (.int .i32 0) ∧ W.cell? ⟨b5, 10, none⟩ = some (.int .i32 0)) (first | (with_reducible exact ⟨x2, x3, x4, x5, x6, x7, x8, x9, x10, x11, x12⟩) | (with_reducible exact ⟨m2, m3, m4, m5, m6, m7, m8, m9, m10, m11, m12⟩) | (with_reducible exact ⟨n2, n3, n4, n5, n6, n7, n8, n9, n10, n11, n12⟩) | ((try dsimp only); refine ⟨?_, ?_, ?_, ?_, ?_, ?_, ?_, ?_, ?_, ?_, ?_⟩ <;> (first | (with_reducible assumption) | go_simp)))
      (first | (go_at_call 38; refine (st22_any _ _ _ _).mono ?_; rintro e w5 ⟨rfl, hb5⟩; have M5 : BxQ w5 b5 ⟨1, 2, 1, ⟨0, 0, 0⟩, A0, 0, c0, [], 5, ⟨0, 0, 0⟩⟩ := (by first | with_reducible exact (F5.out).next hb5 | with_reducible exact ((F5.out).next (Below.drew (Below.refl _ _))).next hb5 | with_reducible exact ((F5.out).alloc _).next hb5 | with_reducible exact (((F5.out).alloc _).next (Below.drew (Below.refl _ _))).next hb5 | with_reducible exact (((F5.out).alloc _).alloc _).next hb5 | with_reducible exact ((((F5.out).alloc _).alloc _).next (Below.drew (Below.refl _ _))).next hb5); have HM5 := Lib.hid M5; obtain ⟨m0, m1, m2, m3, m4, m5, m6, m7, m8, m9, m10, m11, m12⟩ := M5; dsimp only at m2 m3 m4 m5 m6 m7 m8 m9 m10 m11 m12; obtain ⟨hc5, hf5⟩ := bcell hb5; have k5 : Below W0.heap.size W0 w5 := Below.go (by go_grown) hb5 (by go_size); have k5s := k5.size; (try (have zy5 : W0.heap.size < w5.heap.size := by (have hz := hb5.size; simp at hz; omega))); (try (have zz5 : W0.heap.size + 1 < w5.heap.size := by (have hz := hb5.size; simp at hz; omega))); have RS1 := rs_new w5; have RS2 := rs_new (w5.alloc (.cells #[.int .i32 0, .int .i32 0, .int .u8 0, .int .i64 0, .int .i32 0, .int .i32 0, .slice none 0 0, .int .i64 0, .int .i64 0, .int .i32 0, .int .i32 0] 30)); rw [World.size_alloc] at RS2; (try (have Y3 : BxQ w5 (W0.heap.size + 1) ⟨0, 0, 0, ⟨0, 0, 0⟩, none, 0, 0, [], 0, ⟨0, 0, 0⟩⟩ := by (have h := BxQ.new (W0.alloc (.cells #[.string ⟨#[97]⟩, .string ⟨#[98]⟩] 9)) ⟨0, 0, 0, ⟨0, 0, 0⟩, none, 0, 0, [], 0, ⟨0, 0, 0⟩⟩ 30; rw [World.size_alloc] at h; first | with_reducible exact (h).next hb5 | with_reducible exact ((h).next (Below.drew (Below.refl _ _))).next hb5 | with_reducible exact (h.alloc _).next hb5 | with_reducible exact ((h.alloc _).next (Below.drew (Below.refl _ _))).next hb5))); (try (have Y4 : BxQ w5 (W0.heap.size) ⟨0, 0, 0, ⟨0, 0, 0⟩, none, 0, 0, [], 0, ⟨0, 0, 0⟩⟩ := by (have h := BxQ.new W0 ⟨0, 0, 0, ⟨0, 0, 0⟩, none, 0, 0, [], 0, ⟨0, 0, 0⟩⟩ 30; first | with_reducible exact (h).next hb5 | with_reducible exact ((h).next (Below.drew (Below.refl _ _))).next hb5 | with_reducible exact (h.alloc _).next hb5 | with_reducible exact ((h.alloc _).next (Below.drew (Below.refl _ _))).next hb5))); (try (have RS3 : RdN w5 0 (some ⟨W0.heap.size, 0, none⟩) (sv [tx 97, tx 98]) := by (have h := rs_new W0; first | with_reducible exact h.next hb5 | with_reducible exact (h.next (Below.drew (Below.refl _ _))).next hb5 | with_reducible exact (h.alloc _).next hb5 | with_reducible exact ((h.alloc _).next (Below.drew (Below.refl _ _))).next hb5))); (try (have RS4 : RdN w5 0 (some ⟨W0.heap.size + 1, 0, none⟩) (sv [tx 97, tx 98]) := by (have h := rs_new (W0.alloc (.cells #[.int .i32 0, .int .i32 0, .int .u8 0, .int .i64 0, .int .i32 0, .int .i32 0, .slice none 0 0, .int .i64 0, .int .i64 0, .int .i32 0, .int .i32 0] 30)); rw [World.size_alloc] at h; first | with_reducible exact h.next hb5 | with_reducible exact (h.next (Below.drew (Below.refl _ _))).next hb5)))) | (go_at_call 29; refine (stage_ex A0 c0 _ _ (by first | with_reducible exact RdN.rd (RS1) | with_reducible exact RdN.rd ((RS1).next (Below.drew (Below.refl _ _))) | with_reducible exact RdN.rd (RS1.alloc _) | with_reducible exact RdN.rd ((RS1.alloc _).next (Below.drew (Below.refl _ _))) | with_reducible exact RdN.rd (RS2) | with_reducible exact RdN.rd ((RS2).next (Below.drew (Below.refl _ _))) | with_reducible exact RdN.rd (RS3) | with_reducible exact RdN.rd ((RS3).next (Below.drew (Below.refl _ _))) | with_reducible exact RdN.rd (RS3.alloc _) | with_reducible exact RdN.rd ((RS3.alloc _).next (Below.drew (Below.refl _ _))) | with_reducible exact RdN.rd (RS4) | with_reducible exact RdN.rd ((RS4).next (Below.drew (Below.refl _ _))))).mono ?_; rintro e w6 ⟨A', c', rfl, hrn6, hb6⟩; have N6 : BxQ w6 b5 ⟨1, 2, 1, ⟨0, 0, 0⟩, A0, 0, c0, [], 5, ⟨0, 0, 0⟩⟩ := (by first | with_reducible exact (HM5.out).next hb6 | with_reducible exact ((HM5.out).next (Below.drew (Below.refl _ _))).next hb6 | with_reducible exact ((HM5.out).alloc _).next hb6 | with_reducible exact (((HM5.out).alloc _).next (Below.drew (Below.refl _ _))).next hb6 | with_reducible exact (((HM5.out).alloc _).alloc _).next hb6 | with_reducible exact ((((HM5.out).alloc _).alloc _).next (Below.drew (Below.refl _ _))).next hb6); obtain ⟨n0, n1, n2, n3, n4, n5, n6, n7, n8, n9, n10, n11, n12⟩ := N6; dsimp only at n2 n3 n4 n5 n6 n7 n8 n9 n10 n11 n12; obtain ⟨hc6, hf6⟩ := bcell hb6; have k6 : Below W0.heap.size W0 w6 := Below.go (by go_grown) hb6 (by go_size); have k6s := k6.size; (try (have zy6 : W0.heap.size < w6.heap.size := by (have hz := hb6.size; simp at hz; omega))); (try (have zz6 : W0.heap.size + 1 < w6.heap.size := by (have hz := hb6.size; simp at hz; omega))); (try (have yy6 : w5.heap.size < w6.heap.size := by (have hz := hb6.size; simp at hz; omega))); (try (have yz6 : w5.heap.size + 1 < w6.heap.size := by (have hz := hb6.size; simp at hz; omega))); have HR6 := Lib.hid hrn6; (try (have Z1 : BxQ w6 (w5.heap.size + 1) ⟨0, 0, 0, ⟨0, 0, 0⟩, none, 0, 0, [], 0, ⟨0, 0, 0⟩⟩ := by (have h := BxQ.new (w5.alloc (.cells #[.string ⟨#[97]⟩, .string ⟨#[98]⟩] 9)) ⟨0, 0, 0, ⟨0, 0, 0⟩, none, 0, 0, [], 0, ⟨0, 0, 0⟩⟩ 30; rw [World.size_alloc] at h; first | with_reducible exact (h).next hb6 | with_reducible exact ((h).next (Below.drew (Below.refl _ _))).next hb6 | with_reducible exact (h.alloc _).next hb6 | with_reducible exact ((h.alloc _).next (Below.drew (Below.refl _ _))).next hb6))); (try (have Z2 : BxQ w6 (w5.heap.size) ⟨0, 0, 0, ⟨0, 0, 0⟩, none, 0, 0, [], 0, ⟨0, 0, 0⟩⟩ := by (have h := BxQ.new w5 ⟨0, 0, 0, ⟨0, 0, 0⟩, none, 0, 0, [], 0, ⟨0, 0, 0⟩⟩ 30; first | with_reducible exact (h).next hb6 | with_reducible exact ((h).next (Below.drew (Below.refl _ _))).next hb6 | with_reducible exact (h.alloc _).next hb6 | with_reducible exact ((h.alloc _).next (Below.drew (Below.refl _ _))).next hb6))); (try (have Z3 : BxQ w6 (W0.heap.size + 1) ⟨0, 0, 0, ⟨0, 0, 0⟩, none, 0, 0, [], 0, ⟨0, 0, 0⟩⟩ := by first | with_reducible exact (Y3).next hb6 | with_reducible exact ((Y3).next (Below.drew (Below.refl _ _))).next hb6 | with_reducible exact (Y3.alloc _).next hb6 | with_reducible exact ((Y3.alloc _).next (Below.drew (Below.refl _ _))).next hb6)); (try (have Z4 : BxQ w6 (W0.heap.size) ⟨0, 0, 0, ⟨0, 0, 0⟩, none, 0, 0, [], 0, ⟨0, 0, 0⟩⟩ := by first | with_reducible exact (Y4).next hb6 | with_reducible exact ((Y4).next (Below.drew (Below.refl _ _))).next hb6 | with_reducible exact (Y4.alloc _).next hb6 | with_reducible exact ((Y4.alloc _).next (Below.drew (Below.refl _ _))).next hb6))))
    all_goals
      rename_i hHeld
      clear hHeld
      have K6 := Lib.hid k6
      clear HM5 m1 m2 m3 m4 m5 m6 m7 m8 m9 m10 m11 m12 n1 n2 n3 n4 n5 n6 n7 n8 n9 n10 n11 n12 x1 x2 x3 x4 x5 x6 x7 x8 x9 x10 x11 x12 hrn6 RS1 RS2
      go_wp2_with fail
      go_meet
      case rel =>
        refine ⟨_, A', c', rfl, rfl, Lib.hid ⟨?_, ?_, ?_⟩⟩
        · first
            | with_reducible exact BxQ.new w6 ⟨1, 2, 2, ⟨9, 0, 17⟩, A', 2, c', [tx 97, tx 98], 6, ⟨0, 0, 0⟩⟩ 30
            | exact BxQ.setR Z1 ⟨1, 2, 2, ⟨9, 0, 17⟩, A', 2, c', [tx 97, tx 98], 6, ⟨0, 0, 0⟩⟩
            | exact BxQ.setR Z2 ⟨1, 2, 2, ⟨9, 0, 17⟩, A', 2, c', [tx 97, tx 98], 6, ⟨0, 0, 0⟩⟩
            | exact BxQ.setR Z3 ⟨1, 2, 2, ⟨9, 0, 17⟩, A', 2, c', [tx 97, tx 98], 6, ⟨0, 0, 0⟩⟩
            | exact BxQ.setR Z4 ⟨1, 2, 2, ⟨9, 0, 17⟩, A', 2, c', [tx 97, tx 98], 6, ⟨0, 0, 0⟩⟩
        · first
            | with_reducible exact (RdN.alloc HR6.out _).mono (Nat.zero_le _)
            | (have hz := Z1.lt; exact (RdN.setR HR6.out (b := w5.heap.size + 1) (by first | omega | (simp; omega) | (simp; done) | go_size) ⟨1, 2, 2, ⟨9, 0, 17⟩, A', 2, c', [tx 97, tx 98], 6, ⟨0, 0, 0⟩⟩).mono (Nat.zero_le _))
            | (have hz := Z2.lt; exact (RdN.setR HR6.out (b := w5.heap.size) (by first | omega | (simp; omega) | (simp; done) | go_size) ⟨1, 2, 2, ⟨9, 0, 17⟩, A', 2, c', [tx 97, tx 98], 6, ⟨0, 0, 0⟩⟩).mono (Nat.zero_le _))
            | (have hz := Z3.lt; exact (RdN.setR HR6.out (b := W0.heap.size + 1) (by first | omega | (simp; omega) | (simp; done) | go_size) ⟨1, 2, 2, ⟨9, 0, 17⟩, A', 2, c', [tx 97, tx 98], 6, ⟨0, 0, 0⟩⟩).mono (Nat.zero_le _))
            | (have hz := Z4.lt; exact (RdN.setR HR6.out (b := W0.heap.size) (by first | omega | (simp; omega) | (simp; done) | go_size) ⟨1, 2, 2, ⟨9, 0, 17⟩, A', 2, c', [tx 97, tx 98], 6, ⟨0, 0, 0⟩⟩).mono (Nat.zero_le _))
        · have hb := K6.out
          have hbs := hb.size
          go_grown
  case rest =>
    obtain ⟨b7, A', c', rfl, rfl, hh⟩ := hcut
    obtain ⟨hX, hR, hB⟩ := hh.out
    have HBf : Hid (Below w.heap.size w wc) := Lib.hid (HB5.out.trans (hB.mono HB5.out.size))
    have hX2 := X5.out.next hB
    have hR2 := R5.out.next hB
    have HS := Lib.hid (same_yes ⟨1, 2, 2, ⟨9, 0, 17⟩, A', 2, c', [tx 97, tx 98], 6, ⟨0, 0, 0⟩⟩ A c rfl (by show (2 : Nat) ≤ 9223372036854775807; omega) wc.heap.size wc hR.rd hR2.rd (Nat.le_refl _))
    obtain ⟨p0, p1, p2, p3, p4, p5, p6, p7, p8, p9, p10, p11, p12⟩ := hX
    obtain ⟨q0, q1, q2, q3, q4, q5, q6, q7, q8, q9, q10, q11, q12⟩ := hX2
    dsimp only at p2 p3 p4 p5 p6 p7 p8 p9 p10 p11 p12 q2 q3 q4 q5 q6 q7 q8 q9 q10 q11 q12
    clear hh hR hR2 hB X5 R5 HB5 F5 hw1
    go_wp2_with fail
    refine HS.out.mono ?_
    rintro e w9 ⟨rfl, hb⟩
    have HB9 : Hid (Below w.heap.size w w9) := Lib.hid (HBf.out.trans (hb.mono HBf.out.size))
    clear hb
    go_wp2_with fail
    go_ret
    exact ⟨rfl, HB9.out⟩
end Go.Proofs.Ythigmjcepbgljaa
