/- The walk: a read cache that is not there, or that nobody made, refuses every call. -/
import Derived.Test.YtnhobjjgpnbnmaaMe
namespace Go.Proofs.Ytnhobjjgpnbnmaa
open Go.RowKit Go.St
set_option linter.unusedVariables false
set_option linter.unusedSimpArgs false
set_option maxRecDepth 100000

/-- A call of a cache. -/
structure ActM where
  k : Int
  m : Mk
def amCells (x : ActM) : List Value := .int .i64 x.k :: mkCells x.m
structure AmB (W : World) (p : Nat) (x : ActM) : Prop where
  lt : p < W.heap.size
  c0 : W.cell? ⟨p, 0, none⟩ = some (.int .i64 x.k)
  c1 : W.cell? ⟨p, 1, none⟩ = some (.string x.m.f)
  c2 : W.cell? ⟨p, 2, none⟩ = some (.string x.m.t)
  c3 : W.cell? ⟨p, 3, none⟩ = some (.int .i64 x.m.a.wall)
  c4 : W.cell? ⟨p, 4, none⟩ = some (.int .i32 x.m.a.logic)
  c5 : W.cell? ⟨p, 5, none⟩ = some (.int .i32 x.m.a.tag)
  c6 : W.cell? ⟨p, 6, none⟩ = some (.int .i32 x.m.nd)
  c7 : W.cell? ⟨p, 7, none⟩ = some (.int .i32 x.m.nu)
theorem AmB.keep {W W' : World} {p : Nat} {x : ActM} (h : AmB W p x) (hs : W.heap.size ≤ W'.heap.size) (hc : ∀ o, W'.cell? ⟨p, o, none⟩ = W.cell? ⟨p, o, none⟩) : AmB W' p x :=
  ⟨Nat.lt_of_lt_of_le h.lt hs, (hc _).trans h.c0, (hc _).trans h.c1, (hc _).trans h.c2, (hc _).trans h.c3, (hc _).trans h.c4, (hc _).trans h.c5, (hc _).trans h.c6, (hc _).trans h.c7⟩
theorem AmB.next {W W' : World} {p : Nat} {x : ActM} (h : AmB W p x) (hb : Below W.heap.size W W') : AmB W' p x := h.keep hb.size (fun o => hb.cell (p := ⟨p, o, none⟩) h.lt)
theorem AmB.fr {W W' : World} {p b : Nat} {row : Option Nat} {x : ActM} (h : AmB W p x) (hf : Fr b row W W') (h1 : p ≠ b) (h2 : row ≠ some p) : AmB W' p x := h.keep hf.size (fun o => hf.cell (p := ⟨p, o, none⟩) h.lt h1 h2)
theorem amb_new (W : World) (x : ActM) (t : TypeId) : AmB (W.alloc (.cells #[.int .i64 x.k, .string x.m.f, .string x.m.t, .int .i64 x.m.a.wall, .int .i32 x.m.a.logic, .int .i32 x.m.a.tag, .int .i32 x.m.nd, .int .i32 x.m.nu] t)) W.heap.size x := by
  constructor <;> simp
theorem clen_nilB (w : World) : Calls Try.prog 17 #[.pointer none] w fun e w' => e = .returned (.int .i64 0) ∧ Below w.heap.size w w' :=
  (clen_nil w).mono (fun e w' h => ⟨h.1, by rw [← h.2]; exact Below.refl _ _⟩)
theorem clen_zeroB (b : Nat) (w : World) (h : w.cell? ⟨b, 0, none⟩ = some (.bool false)) : Calls Try.prog 17 #[.pointer (some ⟨b, 0, none⟩)] w fun e w' => e = .returned (.int .i64 0) ∧ Below w.heap.size w w' :=
  (clen_zero b w h).mono (fun e w' h => ⟨h.1, by rw [← h.2]; exact Below.refl _ _⟩)
set_option maxHeartbeats 3200000 in
theorem cacheNil_walk (w : World) (x : ActM) : Calls Try.prog 6 #[.agg #[.int .i64 x.k, .string x.m.f, .string x.m.t, .int .i64 x.m.a.wall, .int .i32 x.m.a.logic, .int .i32 x.m.a.tag, .int .i32 x.m.nd, .int .i32 x.m.nu]] w fun e w' => e = .returned (.bool true) ∧ Below w.heap.size w w' := by
  go_enter Try.func6, Try.ntmps6
  go_wp2_with fail
  have A0 := ((amb_new w x 37).next ((Below.refl _ _).alloc (Nat.le_refl _) (.cells #[.bool false, .int .i64 0, .int .i32 0, .int .i32 0, .slice none 0 0] 58))).next ((Below.refl _ _).alloc (Nat.le_refl _) (.cells #[.pointer none, .pointer (some ⟨w.heap.size + 1, 0, none⟩)] 27))
  have p1 := fun i => World.cell?_alloc_mark (w.alloc (.cells #[.int .i64 x.k, .string x.m.f, .string x.m.t, .int .i64 x.m.a.wall, .int .i32 x.m.a.logic, .int .i32 x.m.a.tag, .int .i32 x.m.nd, .int .i32 x.m.nu] 37)) #[.bool false, .int .i64 0, .int .i32 0, .int .i32 0, .slice none 0 0] 58 (0, 0) i
  have p2 := fun i => World.cell?_alloc_mark ((w.alloc (.cells #[.int .i64 x.k, .string x.m.f, .string x.m.t, .int .i64 x.m.a.wall, .int .i32 x.m.a.logic, .int .i32 x.m.a.tag, .int .i32 x.m.nd, .int .i32 x.m.nu] 37)).alloc (.cells #[.bool false, .int .i64 0, .int .i32 0, .int .i32 0, .slice none 0 0] 58)) #[.pointer none, .pointer (some ⟨w.heap.size + 1, 0, none⟩)] 27 (0, 0) i
  rw [World.size_alloc] at p1
  rw [World.size_alloc, World.size_alloc] at p2
  have q1 := (World.cell?_alloc_lt ((w.alloc (.cells #[.int .i64 x.k, .string x.m.f, .string x.m.t, .int .i64 x.m.a.wall, .int .i32 x.m.a.logic, .int .i32 x.m.a.tag, .int .i32 x.m.nd, .int .i32 x.m.nu] 37)).alloc (.cells #[.bool false, .int .i64 0, .int .i32 0, .int .i32 0, .slice none 0 0] 58)) (.cells #[.pointer none, .pointer (some ⟨w.heap.size + 1, 0, none⟩)] 27) ⟨w.heap.size + 1, 0, none⟩ (by simp)).trans (p1 0)
  generalize hw3 : ((w.alloc (.cells #[.int .i64 x.k, .string x.m.f, .string x.m.t, .int .i64 x.m.a.wall, .int .i32 x.m.a.logic, .int .i32 x.m.a.tag, .int .i32 x.m.nd, .int .i32 x.m.nu] 37)).alloc (.cells #[.bool false, .int .i64 0, .int .i32 0, .int .i32 0, .slice none 0 0] 58)).alloc (.cells #[.pointer none, .pointer (some ⟨w.heap.size + 1, 0, none⟩)] 27) = w3 at *
  have hz : w3.cell? ⟨w.heap.size + 1, 0, none⟩ = some (.bool false) := q1
  have l0 : w3.cell? ⟨w.heap.size + 1 + 1, 0, none⟩ = some (.pointer none) := p2 0
  have l1 : w3.cell? ⟨w.heap.size + 1 + 1, 1, none⟩ = some (.pointer (some ⟨w.heap.size + 1, 0, none⟩)) := p2 1
  have B3 : Below w.heap.size w w3 := by rw [← hw3]; go_grown
  have hsz : w.heap.size + 1 + 1 < w3.heap.size := by rw [← hw3]; simp
  have A0 := Lib.hid A0; have B3 := Lib.hid B3
  have HZ := Lib.hid hz; have HL0 := Lib.hid l0; have HL1 := Lib.hid l1
  clear hw3 hz l0 l1 p1 p2 q1
  go_loopw [4] (fun i wr => ∃ j : Nat, j ≤ 2 ∧ i = .int .i64 j ∧ Hid (Below w3.heap.size w3 wr)) (fun i _ => 2 - (intOf i).toNat)
  case atStart => exact ⟨0, by omega, rfl, Lib.hid (Below.refl _ _)⟩
  case round =>
    obtain ⟨j, hj, rfl, Q⟩ := hrel
    have A1 := Lib.hid (A0.out.next Q.out)
    have hq := Q.out.size
    have z := (Q.out.cell (p := ⟨w.heap.size + 1, 0, none⟩) (by show w.heap.size + 1 < _; omega)).trans HZ.out
    have l0 := (Q.out.cell (p := ⟨w.heap.size + 1 + 1, 0, none⟩) (by show w.heap.size + 1 + 1 < _; omega)).trans HL0.out
    have l1 := (Q.out.cell (p := ⟨w.heap.size + 1 + 1, 1, none⟩) (by show w.heap.size + 1 + 1 < _; omega)).trans HL1.out
    obtain ⟨a0, a1, a2, a3, a4, a5, a6, a7, a8⟩ := A1.out
    have y1 : w.heap.size + 1 < wr.heap.size := by omega
    have y2 : w.heap.size + 1 + 1 < wr.heap.size := by omega
    rcases (by omega : j = 0 ∨ j = 1 ∨ j = 2) with rfl | rfl | rfl
    · go_wp2_with fail
      refine wp_qall (by kernel_rfl) (by kernel_rfl) ?_
      intro hcg
      repeat (first | go_big_quiet_step ((with_reducible (first | exact Calls.reg (cread_nil x.m.f x.m.t x.m.a x.m.nd x.m.nu _) | exact Calls.reg (craise_nil x.m.a _) | exact Calls.reg (cat_nil _ x.m.nd x.m.nu _) | exact Calls.reg (clow_nil _) | exact Calls.reg (clen_nilB _)))) | quiet_step ((with_reducible (first | exact Calls.reg (cread_nil x.m.f x.m.t x.m.a x.m.nd x.m.nu _) | exact Calls.reg (craise_nil x.m.a _) | exact Calls.reg (cat_nil _ x.m.nd x.m.nu _) | exact Calls.reg (clow_nil _) | exact Calls.reg (clen_nilB _)))))
      refine wpQuiet_nil ?_
      intro wq hbwq hcwq hfwq
      clear hcg
      go_wp2_with fail
      exact ⟨⟨1, by omega, rfl, Lib.hid (Q.out.trans (hbwq.mono hq))⟩, by simp [intOf]⟩
    · go_wp2_with fail
      refine wp_qall (by kernel_rfl) (by kernel_rfl) ?_
      intro hcg
      repeat (first | go_big_quiet_step ((with_reducible (first | exact Calls.reg (cread_zero x.m.f x.m.t x.m.a x.m.nd x.m.nu _ _ ((hcg _ _ _ _ y1).trans z)) | exact Calls.reg (craise_zero x.m.a _ _ ((hcg _ _ _ _ y1).trans z)) | exact Calls.reg (cat_zero _ x.m.nd x.m.nu _ _ ((hcg _ _ _ _ y1).trans z)) | exact Calls.reg (clow_zero _ _ ((hcg _ _ _ _ y1).trans z)) | exact Calls.reg (clen_zeroB _ _ ((hcg _ _ _ _ y1).trans z))))) | quiet_step ((with_reducible (first | exact Calls.reg (cread_zero x.m.f x.m.t x.m.a x.m.nd x.m.nu _ _ ((hcg _ _ _ _ y1).trans z)) | exact Calls.reg (craise_zero x.m.a _ _ ((hcg _ _ _ _ y1).trans z)) | exact Calls.reg (cat_zero _ x.m.nd x.m.nu _ _ ((hcg _ _ _ _ y1).trans z)) | exact Calls.reg (clow_zero _ _ ((hcg _ _ _ _ y1).trans z)) | exact Calls.reg (clen_zeroB _ _ ((hcg _ _ _ _ y1).trans z))))))
      refine wpQuiet_nil ?_
      intro wq hbwq hcwq hfwq
      clear hcg
      go_wp2_with fail
      exact ⟨⟨2, by omega, rfl, Lib.hid (Q.out.trans (hbwq.mono hq))⟩, by simp [intOf]⟩
    · clear a0 a1 a2 a3 a4 a5 a6 a7 a8 z l0 l1
      go_wp2_with fail
      refine (lives26_any _).mono ?_
      rintro e w5 ⟨rfl, hb⟩
      have B5 := Lib.hid (B3.out.trans ((Q.out.trans (hb.mono hq)).mono (by have := B3.out.size; omega)))
      clear hb
      go_wp2_with fail
      go_ret
      exact ⟨rfl, B5.out⟩
end Go.Proofs.Ytnhobjjgpnbnmaa
