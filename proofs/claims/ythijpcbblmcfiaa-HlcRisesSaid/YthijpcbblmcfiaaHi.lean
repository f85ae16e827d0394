/- The walk of the law on clocks that nobody made. -/
import Derived.Test.YthijpcbblmcfiaaHf
import Derived.Test.YthijpcbblmcfiaaOs
import Derived.Deep.RegionHeld3
namespace Go.Proofs.Ythijpcbblmcfiaa
open Go.RowKit Go.St
set_option linter.unusedVariables false
set_option linter.unusedSimpArgs false

def NilC (w : World) (p : Value) : Prop := p = .pointer none ∨ ∃ b, p = .pointer (some ⟨b, 0, none⟩) ∧ b < w.heap.size ∧ w.cell? ⟨b, 0, none⟩ = some (.bool false)

theorem hnow_nil (p : Value) (t : Int) (w : World) (h : NilC w p) : Calls Try.prog 24 #[p, .int .i64 t] w fun e w' =>
    e = .returned (.tuple #[.agg #[.int .i64 0, .int .i32 0, .int .i32 0], .int .i64 1]) ∧ Below w.heap.size w w' := by
  rcases h with rfl | ⟨b, rfl, hlt, hc⟩
  · go_enter Try.func24, Try.ntmps24
    go_wp2
    refine bodyPost_ret (v := .tuple #[.agg #[.int .i64 0, .int .i32 0, .int .i32 0], .int .i64 1]) (by simp [results, Try.results24, go_sem]) rfl ⟨rfl, by go_grown⟩
  · have hne : b ≠ w.heap.size := by omega
    go_enter Try.func24, Try.ntmps24
    go_wp2
    refine bodyPost_ret (v := .tuple #[.agg #[.int .i64 0, .int .i32 0, .int .i32 0], .int .i64 1]) (by simp [results, Try.results24, go_sem]) rfl ⟨rfl, by go_grown⟩
theorem hhear_nil (p : Value) (s : Stp) (t : Int) (w : World) (h : NilC w p) : Calls Try.prog 25 #[p, .agg #[.int .i64 s.wall, .int .i32 s.logic, .int .i32 s.tag], .int .i64 t] w fun e w' =>
    e = .returned (.int .i64 1) ∧ Below w.heap.size w w' := by
  rcases h with rfl | ⟨b, rfl, hlt, hc⟩
  · go_enter Try.func25, Try.ntmps25
    go_wp2
    go_ret
    exact ⟨rfl, by go_grown⟩
  · have hne : b ≠ w.heap.size := by omega
    go_enter Try.func25, Try.ntmps25
    go_wp2
    go_ret
    exact ⟨rfl, by go_grown⟩
theorem hlast_nil (p : Value) (w : World) (h : NilC w p) : Calls Try.prog 26 #[p] w fun e w' =>
    e = .returned (.agg #[.int .i64 0, .int .i32 0, .int .i32 0]) ∧ Below w.heap.size w w' := by
  rcases h with rfl | ⟨b, rfl, hlt, hc⟩
  · go_enter Try.func26, Try.ntmps26
    go_wp2
    refine bodyPost_ret (v := .agg #[.int .i64 0, .int .i32 0, .int .i32 0]) (by simp [results, Try.results26, go_sem]) rfl ⟨rfl, by go_grown⟩
  · have hne : b ≠ w.heap.size := by omega
    go_enter Try.func26, Try.ntmps26
    go_wp2
    refine bodyPost_ret (v := .agg #[.int .i64 0, .int .i32 0, .int .i32 0]) (by simp [results, Try.results26, go_sem]) rfl ⟨rfl, by go_grown⟩

/-- What the law has laid ahead of its loop: the act, a clock that nobody made, the list of both. -/
structure NilF (w : World) (n : Nat) (wl : Int) (s : Stp) : Prop where
  a1 : w.cell? ⟨n, 1, none⟩ = some (.int .i64 wl)
  a2 : w.cell? ⟨n, 2, none⟩ = some (.int .i64 s.wall)
  a3 : w.cell? ⟨n, 3, none⟩ = some (.int .i32 s.logic)
  a4 : w.cell? ⟨n, 4, none⟩ = some (.int .i32 s.tag)
  z : w.cell? ⟨n + 1, 0, none⟩ = some (.bool false)
  l0 : w.cell? ⟨n + 1 + 1, 0, none⟩ = some (.pointer none)
  l1 : w.cell? ⟨n + 1 + 1, 1, none⟩ = some (.pointer (some ⟨n + 1, 0, none⟩))
  lt : n + 1 + 1 < w.heap.size
theorem NilF.below {w w' : World} {n : Nat} {wl : Int} {s : Stp} (h : NilF w n wl s) (hb : Below w.heap.size w w') : NilF w' n wl s := by
  obtain ⟨a1, a2, a3, a4, z, l0, l1, lt⟩ := h
  have hs := hb.size
  constructor
  all_goals first | omega | (rw [hb.cell (by simp; omega)]; assumption)

theorem NilC.reg {W : World} {p : Value} (h : NilC W p) (d : Nat) (os : Array Obj) : NilC (Go.Sort.grow (redrawn W d) os) p := by
  have hb := below_regrown W d os
  rcases h with h | ⟨b, h, hlt, hc⟩
  · exact .inl h
  · exact .inr ⟨b, h, Nat.lt_of_lt_of_le hlt hb.size, by rw [hb.cell (p := ⟨b, 0, none⟩) hlt]; exact hc⟩

theorem nil_after {W w1 : World} {n j : Nat} {x y : Value} (hb : Below W.heap.size W w1) (h1 : W.cell? ⟨n, 1, none⟩ = some x) (h2 : W.cell? ⟨n + 1 + 1, j, none⟩ = some y) :
    w1.cell? ⟨n, 1, none⟩ = some x ∧ w1.cell? ⟨n + 1 + 1, j, none⟩ = some y ∧ n < w1.heap.size ∧ n + 1 + 1 < w1.heap.size := by
  have l1 := World.block_lt_of_cell? W _ h1
  have l2 := World.block_lt_of_cell? W _ h2
  have hs := hb.size
  exact ⟨(hb.cell (p := ⟨n, 1, none⟩) l1).trans h1, (hb.cell (p := ⟨n + 1 + 1, j, none⟩) l2).trans h2, Nat.lt_of_lt_of_le l1 hs, Nat.lt_of_lt_of_le l2 hs⟩

set_option maxHeartbeats 1600000 in
set_option maxRecDepth 100000 in
theorem hlcNil_walk (w : World) (kd wl : Int) (s : Stp) :
    Calls Try.prog 7 #[.agg #[.int .i64 kd, .int .i64 wl, .int .i64 s.wall, .int .i32 s.logic, .int .i32 s.tag]] w fun e w' => e = .returned (.bool true) ∧ Below w.heap.size w w' := by
  go_enter Try.func7, Try.ntmps7
  go_wp2
  go_loopw [4] (fun i wr => ∃ k : Nat, k ≤ 2 ∧ i = .int .i64 k ∧ Below w.heap.size w wr ∧ NilF wr w.heap.size wl s) (fun i _ => 2 - (intOf i).toNat)
  case atStart =>
    refine ⟨0, by omega, rfl, by go_grown, ?_⟩
    constructor <;> simp [go_sem]
  case round =>
    obtain ⟨k, hk, rfl, hbw, hF⟩ := hrel
    have HB := Lib.hid hbw
    have HF := Lib.hid hF
    have hws := hbw.size
    obtain ⟨a1, a2, a3, a4, z, l0, l1, lt⟩ := hF
    have lt1 : w.heap.size + 1 < wr.heap.size := by omega
    have lt0 : w.heap.size < wr.heap.size := by omega
    have lt3 : w.heap.size < wr.heap.size + 1 := by omega
    have lt4 : w.heap.size + 1 < wr.heap.size + 1 := by omega
    have lt5 : w.heap.size + 1 + 1 < wr.heap.size + 1 := by omega
    clear hbw
    rcases (by omega : k = 0 ∨ k = 1 ∨ k = 2) with rfl | rfl | rfl
    · go_wp2
      go_region_held3 (fun W => W.cell? ⟨w.heap.size, 1, none⟩ = some (.int .i64 wl) ∧ W.cell? ⟨w.heap.size + 1 + 1, 0, none⟩ = some (.pointer none)) (first | exact ⟨a1, l0⟩ | exact ⟨k1, k2⟩ | (refine ⟨?_, ?_⟩ <;> go_simp)) (first | (go_at_call 24; refine (hnow_nil _ wl _ (.inl rfl)).mono ?_; rintro e w1 ⟨rfl, hb1⟩; obtain ⟨hc1, hf1⟩ := bcell hb1; obtain ⟨k1, k2, k3, k4⟩ := nil_after hb1 (n := w.heap.size) (j := 0) (x := .int .i64 wl) (y := .pointer none) (by go_simp) (by go_simp)))
      all_goals
        have hbr : Below wr.heap.size wr w1 := by first | exact hb1 | exact Below.go (by go_grown) hb1 (by go_size)
        have F1 := HF.out.below hbr
        have HF1 := Lib.hid F1
        have HBR := Lib.hid hbr
        have far0 := far_store (p := wr.heap.size) (q := w.heap.size) (by omega)
        have far1 := far_store (p := wr.heap.size) (q := w.heap.size + 1) (by omega)
        have far2 := far_store (p := wr.heap.size) (q := w.heap.size + 1 + 1) (by omega)
        have hsr := hbr.size
        have hsz : wr.heap.size < w1.heap.size ∨ True := .inr trivial
        have hs2 := hb1.size
        simp at hs2
        try (have hs3 : wr.heap.size < w1.heap.size := by omega)
        try (have xx0 : w1.cell? ⟨wr.heap.size, 0, none⟩ = some (.int .i64 0) := by go_simp)
        try (have xx1 : w1.cell? ⟨wr.heap.size, 1, none⟩ = some (.int .i32 0) := by go_simp)
        try (have xx2 : w1.cell? ⟨wr.heap.size, 2, none⟩ = some (.int .i32 0) := by go_simp)
        clear a1 a2 a3 a4 z l0 l1 lt k1 k2 k3 k4 hbr hb1 hsz hc1 hf1
        obtain ⟨a1, a2, a3, a4, z, l0, l1, lt⟩ := F1
        have x0 : w.heap.size < w1.heap.size := by omega
        have x1 : w.heap.size + 1 < w1.heap.size := by omega
        have y0 : w.heap.size < w1.heap.size + 1 := by omega
        have y1 : w.heap.size + 1 < w1.heap.size + 1 := by omega
        have y2 : w.heap.size + 1 + 1 < w1.heap.size + 1 := by omega
        go_wp2
        refine wp_qall (by kernel_rfl) (by kernel_rfl) ?_
        intro hcg
        repeat (first | go_big_quiet_step ((first | exact Calls.reg (hhear_nil _ s wl _ (.inl rfl)) | exact Calls.reg (hlast_nil _ _ (.inl rfl)))) | quiet_step ((first | exact Calls.reg (hhear_nil _ s wl _ (.inl rfl)) | exact Calls.reg (hlast_nil _ _ (.inl rfl)))))
        refine wpQuiet_nil ?_
        intro w2 hbw2 hcw2 hfw2
        clear hcg
        have hbq : Below wr.heap.size wr w2 := Below.go (by have h := HBR.out; go_grown) hbw2 (by have h := HBR.out.size; go_size)
        have F2 := HF.out.below hbq
        have HB2 : Hid (Below w.heap.size w w2) := Below.go HB.out hbq HB.out.size
        have HF2 := Lib.hid F2
        clear hbq F2 hbw2 hcw2 hfw2
        go_wp2
        exact ⟨⟨1, by omega, rfl, HB2.out, HF2.out⟩, by simp [intOf]⟩
    · go_wp2
      go_region_held3 (fun W => W.cell? ⟨w.heap.size, 1, none⟩ = some (.int .i64 wl) ∧ W.cell? ⟨w.heap.size + 1 + 1, 1, none⟩ = some (.pointer (some ⟨w.heap.size + 1, 0, none⟩))) (first | exact ⟨a1, l1⟩ | exact ⟨k1, k2⟩ | (refine ⟨?_, ?_⟩ <;> go_simp)) (first | (go_at_call 24; refine (hnow_nil _ wl _ (.inr ⟨_, rfl, by go_size, by go_simp⟩)).mono ?_; rintro e w1 ⟨rfl, hb1⟩; obtain ⟨hc1, hf1⟩ := bcell hb1; obtain ⟨k1, k2, k3, k4⟩ := nil_after hb1 (n := w.heap.size) (j := 1) (x := .int .i64 wl) (y := .pointer (some ⟨w.heap.size + 1, 0, none⟩)) (by go_simp) (by go_simp)))
      all_goals
        have hbr : Below wr.heap.size wr w1 := by first | exact hb1 | exact Below.go (by go_grown) hb1 (by go_size)
        have F1 := HF.out.below hbr
        have HF1 := Lib.hid F1
        have HBR := Lib.hid hbr
        have far0 := far_store (p := wr.heap.size) (q := w.heap.size) (by omega)
        have far1 := far_store (p := wr.heap.size) (q := w.heap.size + 1) (by omega)
        have far2 := far_store (p := wr.heap.size) (q := w.heap.size + 1 + 1) (by omega)
        have hsr := hbr.size
        have hsz : wr.heap.size < w1.heap.size ∨ True := .inr trivial
        have hs2 := hb1.size
        simp at hs2
        try (have hs3 : wr.heap.size < w1.heap.size := by omega)
        try (have xx0 : w1.cell? ⟨wr.heap.size, 0, none⟩ = some (.int .i64 0) := by go_simp)
        try (have xx1 : w1.cell? ⟨wr.heap.size, 1, none⟩ = some (.int .i32 0) := by go_simp)
        try (have xx2 : w1.cell? ⟨wr.heap.size, 2, none⟩ = some (.int .i32 0) := by go_simp)
        clear a1 a2 a3 a4 z l0 l1 lt k1 k2 k3 k4 hbr hb1 hsz hc1 hf1
        obtain ⟨a1, a2, a3, a4, z, l0, l1, lt⟩ := F1
        have x0 : w.heap.size < w1.heap.size := by omega
        have x1 : w.heap.size + 1 < w1.heap.size := by omega
        have y0 : w.heap.size < w1.heap.size + 1 := by omega
        have y1 : w.heap.size + 1 < w1.heap.size + 1 := by omega
        have y2 : w.heap.size + 1 + 1 < w1.heap.size + 1 := by omega
        go_wp2
        refine wp_qall (by kernel_rfl) (by kernel_rfl) ?_
        intro hcg
        repeat (first | go_big_quiet_step ((first | exact Calls.reg (hhear_nil _ s wl _ (NilC.reg (.inr ⟨_, rfl, by go_size, by go_simp⟩) _ _)) | exact Calls.reg (hlast_nil _ _ (NilC.reg (.inr ⟨_, rfl, by go_size, by go_simp⟩) _ _)))) | quiet_step ((first | exact Calls.reg (hhear_nil _ s wl _ (NilC.reg (.inr ⟨_, rfl, by go_size, by go_simp⟩) _ _)) | exact Calls.reg (hlast_nil _ _ (NilC.reg (.inr ⟨_, rfl, by go_size, by go_simp⟩) _ _)))))
        refine wpQuiet_nil ?_
        intro w2 hbw2 hcw2 hfw2
        clear hcg
        have hbq : Below wr.heap.size wr w2 := Below.go (by have h := HBR.out; go_grown) hbw2 (by have h := HBR.out.size; go_size)
        have F2 := HF.out.below hbq
        have HB2 : Hid (Below w.heap.size w w2) := Below.go HB.out hbq HB.out.size
        have HF2 := Lib.hid F2
        clear hbq F2 hbw2 hcw2 hfw2
        go_wp2
        exact ⟨⟨2, by omega, rfl, HB2.out, HF2.out⟩, by simp [intOf]⟩
    · go_wp2_with fail
      refine (lives20_any _).mono ?_
      rintro e w9 ⟨rfl, hb⟩
      have HB9 : Hid (Below w.heap.size w w9) := Below.go HB.out hb HB.out.size
      clear hb
      go_wp2
      go_ret
      exact ⟨rfl, HB9.out⟩
end Go.Proofs.Ythijpcbblmcfiaa
