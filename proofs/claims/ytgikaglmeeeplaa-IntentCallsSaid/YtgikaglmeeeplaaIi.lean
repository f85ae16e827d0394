/- Walks: the chapter's cells, stamps and intents; what was seen, compared. -/
import Derived.Test.YtgikaglmeeeplaaIh
import Derived.Test.YtgikaglmeeeplaaQTail
namespace Go.Proofs.Ytgikaglmeeeplaa
open Go.RowKit Go.St
set_option linter.unusedVariables false
set_option linter.unusedSimpArgs false
set_option maxRecDepth 100000

theorem st24_any (a b c : Int) (w : World) : Calls Try.prog 15 #[.int .i64 a, .int .i32 b, .int .i32 c] w fun e w' => e = .returned (.agg #[.int .i64 a, .int .i32 b, .int .i32 c]) ∧ Below w.heap.size w w' := by
  go_enter Try.func15, Try.ntmps15
  go_wp2_with fail
  refine bodyPost_ret (v := .agg #[.int .i64 a, .int .i32 b, .int .i32 c]) (by simp [results, Try.results15, go_sem]) rfl ⟨rfl, ?_⟩
  exact (Below.refl _ _).alloc (Nat.le_refl _) _
def laidI (k : ByteArray) (s : Stp) : Itt := ⟨k, 1, 2, zeroS, k, s, zE, false⟩
theorem laid_any (k : ByteArray) (s : Stp) (w : World) : Calls Try.prog 14 #[.string k, .agg #[.int .i64 s.wall, .int .i32 s.logic, .int .i32 s.tag]] w fun e w' => e = .returned (laidI k s).v ∧ Below w.heap.size w w' := by
  go_enter Try.func14, Try.ntmps14
  go_wp2_with fail
  refine bodyPost_ret (v := .agg #[.string k, .int .i32 1, .int .i32 2, .int .i64 0, .int .i32 0, .int .i32 0, .string k, .int .i64 s.wall, .int .i32 s.logic, .int .i32 s.tag, .string ⟨#[]⟩, .bool false]) (by simp [results, Try.results14, go_sem]) rfl ⟨rfl, ?_⟩
  exact ((Below.refl _ _).alloc (Nat.le_refl _) _).alloc (by simp) _
def exL : List Cel := [⟨⟨#[97]⟩, ⟨5, 0, 8⟩, ⟨#[120]⟩, false⟩, ⟨⟨#[97]⟩, ⟨2, 0, 8⟩, ⟨#[121]⟩, false⟩, ⟨⟨#[98]⟩, ⟨3, 0, 8⟩, zE, true⟩]
theorem example24_any (w : World) : Calls Try.prog 13 #[] w fun e w' => ∃ b, e = .returned (.slice (some ⟨b, 0, none⟩) 3 3) ∧ w.heap.size ≤ b ∧ Rd w' w'.heap.size (some ⟨b, 0, none⟩) (cev exL) ∧ Below w.heap.size w w' := by
  go_enter Try.func13, Try.ntmps13
  go_wp2_with fail
  refine (st24_any 5 0 8 _).mono ?_
  rintro e w1 ⟨rfl, hb1⟩
  have B1 := Lib.hid hb1
  clear hb1
  go_wp2_with fail
  refine (st24_any 2 0 8 _).mono ?_
  rintro e w2 ⟨rfl, hb2⟩
  have B2 := Lib.hid (B1.out.trans (hb2.mono B1.out.size))
  clear hb2 B1
  go_wp2_with fail
  refine (st24_any 3 0 8 _).mono ?_
  rintro e w3 ⟨rfl, hb3⟩
  have B3 := Lib.hid (B2.out.trans (hb3.mono B2.out.size))
  clear hb3 B2
  go_wp2_with fail
  go_ret
  refine ⟨_, rfl, B3.out.size, ?_, B3.out.alloc B3.out.size _⟩
  have h := rd_frC w3 (cev exL).toArray 45 (0, 0)
  simpa [cev, exL, Cel.c, zE] using h

set_option maxHeartbeats 1600000 in
theorem rowsq_yes (A : Option Addr) (n c : Nat) (A' : Option Addr) (c' : Nat) (l : List (ByteArray × ByteArray)) (hl : l.length = n) (hn : n ≤ 1000000) (B : Nat) (w : World) (hr : Rd w B A (kvv l)) (hr' : Rd w B A' (kvv l)) (hB : B ≤ w.heap.size) :
    Calls Try.prog 41 #[.slice A n c, .slice A' n c'] w fun e w' => e = .returned (.bool true) ∧ Below w.heap.size w w' := by
  have HL := Lib.hid hl
  have HR := Lib.hid hr
  have HR' := Lib.hid hr'
  clear hl hr hr'
  go_enter Try.func41, Try.ntmps41
  go_wp2_with fail
  go_loopw [5] (fun s5 wr => ∃ i : Nat, s5 = .int .i64 (i : Int) ∧ i ≤ n ∧ Hid (Below w.heap.size w wr)) (fun s5 _ => n - (intOf s5).toNat)
  case atStart => exact ⟨0, rfl, Nat.zero_le _, Lib.hid (Below.refl _ _)⟩
  case round =>
    obtain ⟨i, rfl, hi, hB1⟩ := hrel
    obtain ⟨w2, rfl⟩ : ∃ x, x = wr := ⟨_, rfl⟩
    by_cases hlt : i < n
    · obtain ⟨x, hx⟩ : ∃ x, l[i]? = some x := ⟨_, List.getElem?_eq_getElem (by rw [HL.out]; exact hlt)⟩
      obtain ⟨b, off, rfl, hb, hc⟩ := HR.out (by
        intro e
        have := (kvv_get hx).1
        rw [e] at this
        cases this)
      obtain ⟨b', off', rfl, hb', hc'⟩ := HR'.out (by
        intro e
        have := (kvv_get hx).1
        rw [e] at this
        cases this)
      have d0 := (hB1.out.cell (p := ⟨b, off + i * 2, none⟩) (Nat.lt_of_lt_of_le hb hB)).trans (hc _ _ (kvv_get hx).1)
      have e1 := hc _ _ (kvv_get hx).2
      rw [← Nat.add_assoc] at e1
      have d1 := (hB1.out.cell (p := ⟨b, off + i * 2 + 1, none⟩) (Nat.lt_of_lt_of_le hb hB)).trans e1
      have f0 := (hB1.out.cell (p := ⟨b', off' + i * 2, none⟩) (Nat.lt_of_lt_of_le hb' hB)).trans (hc' _ _ (kvv_get hx).1)
      have e2 := hc' _ _ (kvv_get hx).2
      rw [← Nat.add_assoc] at e2
      have f1 := (hB1.out.cell (p := ⟨b', off' + i * 2 + 1, none⟩) (Nat.lt_of_lt_of_le hb' hB)).trans e2
      have i1 : (i : Int) < (n : Int) := by omega
      have i0 : (0 : Int) ≤ (i : Int) := by omega
      have z1 : b < w2.heap.size := by have := hB1.out.size; omega
      have z2 : b' < w2.heap.size := by have := hB1.out.size; omega
      clear hc hc' hx e1 e2
      go_wp2_with fail
      refine wp_qall (by kernel_rfl) (by kernel_rfl) ?_
      intro hcg
      repeat (first | go_big_quiet_step (fail) | quiet_step (fail))
      refine wpQuiet_nil ?_
      intro wq hbwq hcwq hfwq
      clear hcg
      have B9 := Lib.hid (hB1.out.trans (hbwq.mono hB1.out.size))
      clear hbwq hcwq hfwq
      go_wp2_with fail
      go_roundw
      case rel => exact ⟨i + 1, by go_num, by omega, B9⟩
      case measure => simp [intOf]; omega
    · have i1 : ¬ (i : Int) < (n : Int) := by omega
      clear hlt
      go_wp2_with fail
      go_ret
      exact ⟨rfl, hB1.out⟩

set_option maxHeartbeats 3200000 in
theorem seen_yes (k : Int) (u : Stp) (A : Option Addr) (n c : Nat) (A' : Option Addr) (c' : Nat) (l : List (ByteArray × ByteArray)) (hl : l.length = n) (hn : n ≤ 1000000) (I : Option Addr) (m d : Nat) (I' : Option Addr) (d' : Nat) (is : List Itt) (hl2 : is.length = m) (hm : m ≤ 1000000)
    (B : Nat) (w : World) (hr : Rd w B A (kvv l)) (hr' : Rd w B A' (kvv l)) (hi : Rd w B I (itv is)) (hi' : Rd w B I' (itv is)) (hB : B ≤ w.heap.size) :
    Calls Try.prog 23 #[.agg #[.int .i64 k, .slice A n c, .slice I m d, .int .i64 u.wall, .int .i32 u.logic, .int .i32 u.tag], .agg #[.int .i64 k, .slice A' n c', .slice I' m d', .int .i64 u.wall, .int .i32 u.logic, .int .i32 u.tag]] w fun e w' => e = .returned (.bool true) ∧ Below w.heap.size w w' := by
  have HL := Lib.hid hl
  have HR := Lib.hid hr
  have HR' := Lib.hid hr'
  have HL2 := Lib.hid hl2
  have HI := Lib.hid hi
  have HI' := Lib.hid hi'
  clear hl hr hr' hl2 hi hi'
  go_enter Try.func23, Try.ntmps23
  go_wp2_with fail
  have X5 : Hid (BxV ((w.alloc (.cells #[.int .i64 k, .slice A n c, .slice I m d, .int .i64 u.wall, .int .i32 u.logic, .int .i32 u.tag] 53)).alloc (.cells #[.int .i64 k, .slice A' n c', .slice I' m d', .int .i64 u.wall, .int .i32 u.logic, .int .i32 u.tag] 53)) w.heap.size [.int .i64 k, .slice A n c, .slice I m d, .int .i64 u.wall, .int .i32 u.logic, .int .i32 u.tag]) := Lib.hid ((BxV.new w _ _).alloc _)
  have Y5 : Hid (BxV ((w.alloc (.cells #[.int .i64 k, .slice A n c, .slice I m d, .int .i64 u.wall, .int .i32 u.logic, .int .i32 u.tag] 53)).alloc (.cells #[.int .i64 k, .slice A' n c', .slice I' m d', .int .i64 u.wall, .int .i32 u.logic, .int .i32 u.tag] 53)) (w.heap.size + 1) [.int .i64 k, .slice A' n c', .slice I' m d', .int .i64 u.wall, .int .i32 u.logic, .int .i32 u.tag]) := Lib.hid (by
    have h := BxV.new (w.alloc (.cells #[.int .i64 k, .slice A n c, .slice I m d, .int .i64 u.wall, .int .i32 u.logic, .int .i32 u.tag] 53)) #[.int .i64 k, .slice A' n c', .slice I' m d', .int .i64 u.wall, .int .i32 u.logic, .int .i32 u.tag] 53
    simp only [World.size_alloc] at h; exact h)
  have B5 : Hid (Below w.heap.size w ((w.alloc (.cells #[.int .i64 k, .slice A n c, .slice I m d, .int .i64 u.wall, .int .i32 u.logic, .int .i32 u.tag] 53)).alloc (.cells #[.int .i64 k, .slice A' n c', .slice I' m d', .int .i64 u.wall, .int .i32 u.logic, .int .i32 u.tag] 53))) := Lib.hid (((Below.refl _ _).alloc (Nat.le_refl _) _).alloc (by simp) _)
  generalize (w.alloc (.cells #[.int .i64 k, .slice A n c, .slice I m d, .int .i64 u.wall, .int .i32 u.logic, .int .i32 u.tag] 53)).alloc (.cells #[.int .i64 k, .slice A' n c', .slice I' m d', .int .i64 u.wall, .int .i32 u.logic, .int .i32 u.tag] 53) = w5 at *
  refine (rowsq_yes A n c A' c' l HL.out hn B w5 (HR.out.below (B5.out.mono hB)) (HR'.out.below (B5.out.mono hB)) (by have := B5.out.size; omega)).mono ?_
  rintro e w6 ⟨rfl, hb6⟩
  have X6 := Lib.hid (X5.out.next hb6)
  have Y6 := Lib.hid (Y5.out.next hb6)
  have B6 := Lib.hid (B5.out.trans (hb6.mono B5.out.size))
  clear hb6 X5 Y5 B5 HR HR'
  have x2 := X6.out.c 2 _ rfl
  have y2 := Y6.out.c 2 _ rfl
  go_wp2_with fail
  clear x2 y2
  go_loopw [5] (fun s5 wr => ∃ i : Nat, s5 = .int .i64 (i : Int) ∧ i ≤ m ∧ Hid (Below w6.heap.size w6 wr)) (fun s5 _ => m - (intOf s5).toNat)
  case atStart => exact ⟨0, rfl, Nat.zero_le _, Lib.hid (Below.refl _ _)⟩
  case round =>
    obtain ⟨i, rfl, hi, hB1⟩ := hrel
    obtain ⟨w2, rfl⟩ : ∃ x, x = wr := ⟨_, rfl⟩
    have X2 := Lib.hid (X6.out.next hB1.out)
    have Y2 := Lib.hid (Y6.out.next hB1.out)
    have x2 := X2.out.c 2 _ rfl
    have y2 := Y2.out.c 2 _ rfl
    have xl := X2.out.lt
    have yl := Y2.out.lt
    have B2 := Lib.hid (B6.out.trans (hB1.out.mono B6.out.size))
    by_cases hlt : i < m
    · obtain ⟨x, hx⟩ : ∃ x, is[i]? = some x := ⟨_, List.getElem?_eq_getElem (by rw [HL2.out]; exact hlt)⟩
      obtain ⟨b, off, rfl, hb, hce⟩ := it_at HI.out hx
      obtain ⟨b', off', rfl, hb', hce'⟩ := it_at HI'.out hx
      obtain ⟨d0, d1, d2, d3, d4, d5, d6, d7, d8, d9, d10, d11⟩ := hce.below (Nat.lt_of_lt_of_le hb hB) B2.out
      obtain ⟨f0, f1, f2, f3, f4, f5, f6, f7, f8, f9, f10, f11⟩ := hce'.below (Nat.lt_of_lt_of_le hb' hB) B2.out
      have i1 : (i : Int) < (m : Int) := by omega
      have i0 : (0 : Int) ≤ (i : Int) := by omega
      have z1 : b < w2.heap.size := by have := B2.out.size; omega
      have z2 : b' < w2.heap.size := by have := B2.out.size; omega
      clear hce hce' hx
      go_wp2_with fail
      refine wp_qall (by kernel_rfl) (by kernel_rfl) ?_
      intro hcg
      repeat (first | go_big_quiet_step (fail) | quiet_step (fail))
      refine wpQuiet_nil ?_
      intro wq hbwq hcwq hfwq
      clear hcg
      have B9 := Lib.hid (hB1.out.trans (hbwq.mono hB1.out.size))
      clear hbwq hcwq hfwq
      go_wp2_with fail
      go_roundw
      case rel => exact ⟨i + 1, by go_num, by omega, B9⟩
      case measure => simp [intOf]; omega
    · have i1 : ¬ (i : Int) < (m : Int) := by omega
      clear hlt
      go_wp2_with fail
      go_ret
      exact ⟨rfl, B2.out⟩
end Go.Proofs.Ytgikaglmeeeplaa
