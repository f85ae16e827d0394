/- Walks: a read kept in a cache that has room. -/
import Derived.Test.YtnhobjjgpnbnmaaMb
import Derived.Deep.Cut
namespace Go.Proofs.Ytnhobjjgpnbnmaa
open Go.RowKit Go.St
set_option linter.unusedVariables false
set_option linter.unusedSimpArgs false
set_option maxRecDepth 100000

/-- The read's boxes. -/
structure BoxR (W : World) (p : Nat) (m : Mk) : Prop where
  lt : p + 2 < W.heap.size
  s0 : W.cell? ⟨p, 0, none⟩ = some (.string m.f)
  s1 : W.cell? ⟨p, 1, none⟩ = some (.string m.t)
  t0 : W.cell? ⟨p + 1, 0, none⟩ = some (.int .i64 m.a.wall)
  t1 : W.cell? ⟨p + 1, 1, none⟩ = some (.int .i32 m.a.logic)
  t2 : W.cell? ⟨p + 1, 2, none⟩ = some (.int .i32 m.a.tag)
  x0 : W.cell? ⟨p + 1 + 1, 0, none⟩ = some (.int .i32 m.nd)
  x1 : W.cell? ⟨p + 1 + 1, 1, none⟩ = some (.int .i32 m.nu)
theorem BoxR.keep {W W' : World} {p : Nat} {m : Mk} (h : BoxR W p m) (hs : W.heap.size ≤ W'.heap.size) (hc : ∀ q : Addr, p ≤ q.block → q.block ≤ p + 2 → W'.cell? q = W.cell? q) : BoxR W' p m :=
  ⟨Nat.lt_of_lt_of_le h.lt hs, (hc _ (by simp) (by simp)).trans h.s0, (hc _ (by simp) (by simp)).trans h.s1, (hc _ (by simp) (by simp)).trans h.t0, (hc _ (by simp) (by simp)).trans h.t1, (hc _ (by simp) (by simp)).trans h.t2, (hc _ (by simp; omega) (by simp)).trans h.x0, (hc _ (by simp; omega) (by simp)).trans h.x1⟩
theorem BoxR.next {W W' : World} {p : Nat} {m : Mk} (h : BoxR W p m) (hb : Below W.heap.size W W') : BoxR W' p m := h.keep hb.size (fun q _ h2 => hb.cell (by have := h.lt; omega))
theorem boxr_new (W : World) (m : Mk) : BoxR (((W.alloc (.cells #[.string m.f, .string m.t] 33)).alloc (.cells #[.int .i64 m.a.wall, .int .i32 m.a.logic, .int .i32 m.a.tag] 23)).alloc (.cells #[.int .i32 m.nd, .int .i32 m.nu] 35)) W.heap.size m := by
  have h1 : W.heap.size < ((W.alloc (.cells #[.string m.f, .string m.t] 33)).alloc (.cells #[.int .i64 m.a.wall, .int .i32 m.a.logic, .int .i32 m.a.tag] 23)).heap.size := by simp; omega
  have h2 : W.heap.size < (W.alloc (.cells #[.string m.f, .string m.t] 33)).heap.size := by simp
  have e1 : (W.alloc (.cells #[.string m.f, .string m.t] 33)).heap.size = W.heap.size + 1 := by simp
  have e2 : ((W.alloc (.cells #[.string m.f, .string m.t] 33)).alloc (.cells #[.int .i64 m.a.wall, .int .i32 m.a.logic, .int .i32 m.a.tag] 23)).heap.size = W.heap.size + 1 + 1 := by simp
  have p0 := fun i => World.cell?_alloc_mark W #[.string m.f, .string m.t] 33 (0, 0) i
  have p1 := fun i => World.cell?_alloc_mark (W.alloc (.cells #[.string m.f, .string m.t] 33)) #[.int .i64 m.a.wall, .int .i32 m.a.logic, .int .i32 m.a.tag] 23 (0, 0) i
  have p2 := fun i => World.cell?_alloc_mark ((W.alloc (.cells #[.string m.f, .string m.t] 33)).alloc (.cells #[.int .i64 m.a.wall, .int .i32 m.a.logic, .int .i32 m.a.tag] 23)) #[.int .i32 m.nd, .int .i32 m.nu] 35 (0, 0) i
  rw [e1] at p1
  rw [e2] at p2
  have q1 := fun i => (World.cell?_alloc_lt ((W.alloc (.cells #[.string m.f, .string m.t] 33)).alloc (.cells #[.int .i64 m.a.wall, .int .i32 m.a.logic, .int .i32 m.a.tag] 23)) (.cells #[.int .i32 m.nd, .int .i32 m.nu] 35) ⟨W.heap.size + 1, i, none⟩ (by simp)).trans (p1 i)
  have q0 := fun i => (World.cell?_alloc_lt ((W.alloc (.cells #[.string m.f, .string m.t] 33)).alloc (.cells #[.int .i64 m.a.wall, .int .i32 m.a.logic, .int .i32 m.a.tag] 23)) (.cells #[.int .i32 m.nd, .int .i32 m.nu] 35) ⟨W.heap.size, i, none⟩ h1).trans ((World.cell?_alloc_lt (W.alloc (.cells #[.string m.f, .string m.t] 33)) (.cells #[.int .i64 m.a.wall, .int .i32 m.a.logic, .int .i32 m.a.tag] 23) ⟨W.heap.size, i, none⟩ h2).trans (p0 i))
  exact ⟨by simp, q0 0, q0 1, q1 0, q1 1, q1 2, p2 0, p2 1⟩
/-- The marks that are read in the region that appends. -/
structure ApS (W : World) (p b : Nat) (m : Mk) (v : Value) : Prop where
  bx : BoxR W p m
  lb : b < W.heap.size
  c4 : W.cell? ⟨b, 4, none⟩ = some v
theorem ApS.next {W W' : World} {p b : Nat} {m : Mk} {v : Value} (h : ApS W p b m v) (hb : Below W.heap.size W W') : ApS W' p b m v := ⟨h.bx.next hb, Nat.lt_of_lt_of_le h.lb hb.size, (hb.cell (p := ⟨b, 4, none⟩) h.lb).trans h.c4⟩
theorem ApS.grown {W W' : World} {p b : Nat} {m : Mk} {v : Value} {row : Option Nat} (h : ApS W p b m v) (hg : W.grownBy W' row) (h1 : row ≠ some b) (h2 : ∀ g, row = some g → g < p ∨ p + 2 < g) : ApS W' p b m v :=
  ⟨h.bx.keep hg.size (fun q h3 h4 => World.grownBy.cell_far hg q (by have := h.bx.lt; omega) (fun e => by have := h2 _ e.symm; omega)), Nat.lt_of_lt_of_le h.lb hg.size, (World.grownBy.cell_far hg ⟨b, 4, none⟩ h.lb (fun e => h1 e.symm)).trans h.c4⟩
def RdP (E : TypeId) (base b : Nat) (row : Option Nat) (s : Stp) (l : List Mk) (W w' : World) : Prop :=
  Fr b row W w' ∧ ∃ v', CaB E w' base b v' s l ∧ (v'.ownBlock = row ∨ ∀ g, v'.ownBlock = some g → W.heap.size ≤ g)
theorem RdP.same {E : TypeId} {base b : Nat} {v : Value} {s : Stp} {l : List Mk} {W w' : World} (h : CaB E W base b v s l) (hb : Below W.heap.size W w') : RdP E base b v.ownBlock s l W w' := ⟨Fr.of_below hb, v, h.next hb, .inl rfl⟩
/-- A mark put behind the others, in memory. -/
theorem CaB.put {E : TypeId} {W W' : World} {base b : Nat} {v v' : Value} {s : Stp} {l : List Mk} (h : CaB E W base b v s l) {m : Mk} (hg : W.grownBy W' v.ownBlock) (own : W'.ownsRow base E 7 v' (l.length + 1) (mv (l ++ [m]))) (hv : v'.ownBlock = v.ownBlock ∨ v'.ownBlock = some W.heap.size) (hn : l.length < 1025) :
    CaB E (W'.setCell ⟨b, 4, none⟩ v') base b v' s (l ++ [m]) := by
  have hc := fun o => World.grownBy.cell_far hg ⟨b, o, none⟩ h.lt (fun e => h.ne e.symm)
  have hz := fun o => World.grownBy.frozen_far hg ⟨b, o, none⟩ h.lt (fun e => h.ne e.symm)
  have hne : v'.ownBlock ≠ some b := by
    rcases hv with e | e
    · rw [e]; exact h.ne
    · rw [e]; intro e2; have := h.lt; simp at e2; omega
  refine ⟨by simpa [World.setCell] using Nat.lt_of_lt_of_le h.lt hg.size, h.lo, fun o => by simpa using (hz o).trans (h.fz o), ?_, ?_, ?_, ?_, World.cell?_setCell_same _ _ _ ((hc 4).trans h.c4), ?_, hne, by simp; omega⟩
  · rw [World.cell?_setCell_other _ _ _ _ (by simp)]; exact (hc 0).trans h.c0
  · rw [World.cell?_setCell_other _ _ _ _ (by simp)]; exact (hc 1).trans h.c1
  · rw [World.cell?_setCell_other _ _ _ _ (by simp)]; exact (hc 2).trans h.c2
  · rw [World.cell?_setCell_other _ _ _ _ (by simp)]; exact (hc 3).trans h.c3
  · have h2 : (l ++ [m]).length = l.length + 1 := by simp
    rw [h2]
    exact own.kept (row := some b) ⟨rfl, rfl, rfl, by simp [World.setCell], fun k _ hk => Below.heap_setCell _ _ _ _ (fun e => hk (by rw [e]))⟩ (.inr hne)
theorem cread_no {W : World} {base b : Nat} {v : Value} {s : Stp} {l : List Mk} (h : CaB 63 W base b v s l) (m : Mk) (hc : chk m.a ≠ 0) : Calls Try.prog 10 #[.pointer (some ⟨b, 0, none⟩), .agg #[.string m.f, .string m.t], .agg #[.int .i64 m.a.wall, .int .i32 m.a.logic, .int .i32 m.a.tag], .agg #[.int .i32 m.nd, .int .i32 m.nu]] W fun e w' => e = .returned (.int .i64 (chk m.a)) ∧ Below W.heap.size W w' := by
  have HN := Lib.hid (fun X (k : Below W.heap.size W X) => cnone_any (h.next k))
  have HK := Lib.hid (fun X => hcheck_any m.a X)
  generalize chk m.a = E at *
  have e1 : (E == 0) = false := by simpa using hc
  clear h
  go_enter Try.func10, Try.ntmps10
  go_wp2_with fail
  refine (HN.out _ (by go_grown)).mono ?_
  rintro e w' ⟨rfl, rfl⟩
  have BX := boxr_new W m
  have B3 : Below W.heap.size W (((W.alloc (.cells #[.string m.f, .string m.t] 33)).alloc (.cells #[.int .i64 m.a.wall, .int .i32 m.a.logic, .int .i32 m.a.tag] 23)).alloc (.cells #[.int .i32 m.nd, .int .i32 m.nu] 35)) := by go_grown
  generalize hw3 : ((W.alloc (.cells #[.string m.f, .string m.t] 33)).alloc (.cells #[.int .i64 m.a.wall, .int .i32 m.a.logic, .int .i32 m.a.tag] 23)).alloc (.cells #[.int .i32 m.nd, .int .i32 m.nu] 35) = W3 at *
  clear hw3 HN
  have z0 : W.heap.size ≠ W3.heap.size := by have := BX.lt; omega
  have BX := Lib.hid BX; have B3 := Lib.hid B3
  obtain ⟨b0, b1, b2, b3, b4, b5, b6, b7⟩ := BX.out
  go_wp2_with fail
  refine (HK.out W3).mono ?_
  rintro e w1 ⟨rfl, hb⟩
  have BX1 := Lib.hid (BX.out.next hb)
  have B1 : Hid (Below W.heap.size W w1) := Lib.hid (B3.out.trans (hb.mono B3.out.size))
  have y0 : W.heap.size < w1.heap.size := by have := BX1.out.lt; omega
  have y1 : W.heap.size + 1 < w1.heap.size := by have := BX1.out.lt; omega
  have y2 : W.heap.size + 1 + 1 < w1.heap.size := by have := BX1.out.lt; omega
  clear hb BX B3 b0 b1 b2 b3 b4 b5 b6 b7 HK z0
  go_wp2_with fail
  go_ret
  exact ⟨rfl, B1.out⟩
set_option maxHeartbeats 800000 in
theorem cread_emp {W : World} {base b : Nat} {v : Value} {s : Stp} {l : List Mk} (h : CaB 63 W base b v s l) (m : Mk) (hc : chk m.a = 0) (he : sEmp m.f m.t = true) : Calls Try.prog 10 #[.pointer (some ⟨b, 0, none⟩), .agg #[.string m.f, .string m.t], .agg #[.int .i64 m.a.wall, .int .i32 m.a.logic, .int .i32 m.a.tag], .agg #[.int .i32 m.nd, .int .i32 m.nu]] W fun e w' => e = .returned (.int .i64 0) ∧ Below W.heap.size W w' := by
  have HN := Lib.hid (fun X (k : Below W.heap.size W X) => cnone_any (h.next k))
  have HK := Lib.hid (fun X => hcheck_any m.a X)
  have HE := Lib.hid (fun X => empty_any m.f m.t X)
  rw [he] at HE
  rw [hc] at HK
  clear h
  go_enter Try.func10, Try.ntmps10
  go_wp2_with fail
  refine (HN.out _ (by go_grown)).mono ?_
  rintro e w' ⟨rfl, rfl⟩
  have BX := boxr_new W m
  have B3 : Below W.heap.size W (((W.alloc (.cells #[.string m.f, .string m.t] 33)).alloc (.cells #[.int .i64 m.a.wall, .int .i32 m.a.logic, .int .i32 m.a.tag] 23)).alloc (.cells #[.int .i32 m.nd, .int .i32 m.nu] 35)) := by go_grown
  generalize hw3 : ((W.alloc (.cells #[.string m.f, .string m.t] 33)).alloc (.cells #[.int .i64 m.a.wall, .int .i32 m.a.logic, .int .i32 m.a.tag] 23)).alloc (.cells #[.int .i32 m.nd, .int .i32 m.nu] 35) = W3 at *
  clear hw3 HN
  have z0 : W.heap.size ≠ W3.heap.size := by have := BX.lt; omega
  have BX := Lib.hid BX; have B3 := Lib.hid B3
  obtain ⟨b0, b1, b2, b3, b4, b5, b6, b7⟩ := BX.out
  go_wp2_with fail
  refine (HK.out W3).mono ?_
  rintro e w1 ⟨rfl, hb⟩
  have BX1 := Lib.hid (BX.out.next hb)
  have B1 : Hid (Below W.heap.size W w1) := Lib.hid (B3.out.trans (hb.mono B3.out.size))
  have y0 : W.heap.size < w1.heap.size := by have := BX1.out.lt; omega
  have y1 : W.heap.size + 1 < w1.heap.size := by have := BX1.out.lt; omega
  have y2 : W.heap.size + 1 + 1 < w1.heap.size := by have := BX1.out.lt; omega
  clear hb BX B3 b0 b1 b2 b3 b4 b5 b6 b7 HK z0
  obtain ⟨b0, b1, b2, b3, b4, b5, b6, b7⟩ := BX1.out
  go_wp2_with fail
  refine wp_qall (by kernel_rfl) (by kernel_rfl) ?_
  intro hcg
  repeat (first | go_big_quiet_step ((with_reducible (first | exact Calls.reg (HE.out _)))) | quiet_step ((with_reducible (first | exact Calls.reg (HE.out _)))))
  refine wpQuiet_nil ?_
  intro wq hbwq hcwq hfwq
  clear hcg
  go_wp2_with fail
  go_ret
  exact ⟨rfl, B1.out.trans (hbwq.mono B1.out.size)⟩
set_option maxHeartbeats 800000 in
theorem cread_low {W : World} {base b : Nat} {v : Value} {s : Stp} {l : List Mk} (h : CaB 63 W base b v s l) (m : Mk) (hc : chk m.a = 0) (he : sEmp m.f m.t = false) (hl : less s m.a = false) : Calls Try.prog 10 #[.pointer (some ⟨b, 0, none⟩), .agg #[.string m.f, .string m.t], .agg #[.int .i64 m.a.wall, .int .i32 m.a.logic, .int .i32 m.a.tag], .agg #[.int .i32 m.nd, .int .i32 m.nu]] W fun e w' => e = .returned (.int .i64 0) ∧ Below W.heap.size W w' := by
  have HN := Lib.hid (fun X (k : Below W.heap.size W X) => cnone_any (h.next k))
  have HK := Lib.hid (fun X => hcheck_any m.a X)
  have HE := Lib.hid (fun X => empty_any m.f m.t X)
  have HL := Lib.hid (fun X => hcompare_any m.a s X)
  rw [he] at HE
  rw [hc] at HK
  have hle : cmpS m.a s ≤ 0 := by unfold cmpS; split; omega; rw [hl]; simp
  have hle2 : ¬ (0 < cmpS m.a s) := by omega
  generalize cmpS m.a s = K at *
  go_enter Try.func10, Try.ntmps10
  go_wp2_with fail
  refine (HN.out _ (by go_grown)).mono ?_
  rintro e w' ⟨rfl, rfl⟩
  have BX := boxr_new W m
  have B3 : Below W.heap.size W (((W.alloc (.cells #[.string m.f, .string m.t] 33)).alloc (.cells #[.int .i64 m.a.wall, .int .i32 m.a.logic, .int .i32 m.a.tag] 23)).alloc (.cells #[.int .i32 m.nd, .int .i32 m.nu] 35)) := by go_grown
  generalize hw3 : ((W.alloc (.cells #[.string m.f, .string m.t] 33)).alloc (.cells #[.int .i64 m.a.wall, .int .i32 m.a.logic, .int .i32 m.a.tag] 23)).alloc (.cells #[.int .i32 m.nd, .int .i32 m.nu] 35) = W3 at *
  clear hw3 HN
  have z0 : W.heap.size ≠ W3.heap.size := by have := BX.lt; omega
  have BX := Lib.hid BX; have B3 := Lib.hid B3
  obtain ⟨b0, b1, b2, b3, b4, b5, b6, b7⟩ := BX.out
  go_wp2_with fail
  refine (HK.out W3).mono ?_
  rintro e w1 ⟨rfl, hb⟩
  have BX1 := Lib.hid (BX.out.next hb)
  have B1 : Hid (Below W.heap.size W w1) := Lib.hid (B3.out.trans (hb.mono B3.out.size))
  have y0 : W.heap.size < w1.heap.size := by have := BX1.out.lt; omega
  have y1 : W.heap.size + 1 < w1.heap.size := by have := BX1.out.lt; omega
  have y2 : W.heap.size + 1 + 1 < w1.heap.size := by have := BX1.out.lt; omega
  clear hb BX B3 b0 b1 b2 b3 b4 b5 b6 b7 HK z0
  have H1 := h.next B1.out
  obtain ⟨b0, b1, b2, b3, b4, b5, b6, b7⟩ := BX1.out
  obtain ⟨d1, d2, d3⟩ := (⟨H1.c1, H1.c2, H1.c3⟩ : _ ∧ _ ∧ _)
  have dl := H1.lt
  clear h H1
  go_wp2_with fail
  refine wp_qall (by kernel_rfl) (by kernel_rfl) ?_
  intro hcg
  repeat (first | go_big_quiet_step ((with_reducible (first | exact Calls.reg (HE.out _) | exact Calls.reg (HL.out _)))) | quiet_step ((with_reducible (first | exact Calls.reg (HE.out _) | exact Calls.reg (HL.out _)))))
  refine wpQuiet_nil ?_
  intro wq hbwq hcwq hfwq
  clear hcg
  go_wp2_with fail
  go_ret
  exact ⟨rfl, B1.out.trans (hbwq.mono B1.out.size)⟩
set_option maxHeartbeats 1600000 in
theorem cread_put {W : World} {base b : Nat} {v : Value} {s : Stp} {l : List Mk} (h : CaB 63 W base b v s l) (m : Mk) (hc : chk m.a = 0) (he : sEmp m.f m.t = false) (hl : less s m.a = true) (hn : l.length < 1024) : Calls Try.prog 10 #[.pointer (some ⟨b, 0, none⟩), .agg #[.string m.f, .string m.t], .agg #[.int .i64 m.a.wall, .int .i32 m.a.logic, .int .i32 m.a.tag], .agg #[.int .i32 m.nd, .int .i32 m.nu]] W fun e w' => e = .returned (.int .i64 0) ∧ RdP 63 base b v.ownBlock s (l ++ [m]) W w' := by
  have HN := Lib.hid (fun X (k : Below W.heap.size W X) => cnone_any (h.next k))
  have HK := Lib.hid (fun X => hcheck_any m.a X)
  have HE := Lib.hid (fun X => empty_any m.f m.t X)
  have HL := Lib.hid (fun X => hcompare_any m.a s X)
  rw [he] at HE
  rw [hc] at HK
  have hle2 : ¬ cmpS m.a s ≤ 0 := by rw [cmp_gt hl]; decide
  generalize cmpS m.a s = K at *
  go_enter Try.func10, Try.ntmps10
  go_wp2_with fail
  refine (HN.out _ (by go_grown)).mono ?_
  rintro e w' ⟨rfl, rfl⟩
  have BX := boxr_new W m
  have B3 : Below W.heap.size W (((W.alloc (.cells #[.string m.f, .string m.t] 33)).alloc (.cells #[.int .i64 m.a.wall, .int .i32 m.a.logic, .int .i32 m.a.tag] 23)).alloc (.cells #[.int .i32 m.nd, .int .i32 m.nu] 35)) := by go_grown
  generalize hw3 : ((W.alloc (.cells #[.string m.f, .string m.t] 33)).alloc (.cells #[.int .i64 m.a.wall, .int .i32 m.a.logic, .int .i32 m.a.tag] 23)).alloc (.cells #[.int .i32 m.nd, .int .i32 m.nu] 35) = W3 at *
  clear hw3 HN
  have z0 : W.heap.size ≠ W3.heap.size := by have := BX.lt; omega
  have BX := Lib.hid BX; have B3 := Lib.hid B3
  obtain ⟨b0, b1, b2, b3, b4, b5, b6, b7⟩ := BX.out
  go_wp2_with fail
  refine (HK.out W3).mono ?_
  rintro e w1 ⟨rfl, hb⟩
  have BX1 := Lib.hid (BX.out.next hb)
  have B1 : Hid (Below W.heap.size W w1) := Lib.hid (B3.out.trans (hb.mono B3.out.size))
  have y0 : W.heap.size < w1.heap.size := by have := BX1.out.lt; omega
  have y1 : W.heap.size + 1 < w1.heap.size := by have := BX1.out.lt; omega
  have y2 : W.heap.size + 1 + 1 < w1.heap.size := by have := BX1.out.lt; omega
  clear hb BX B3 b0 b1 b2 b3 b4 b5 b6 b7 HK z0
  have H1 := h.next B1.out
  obtain ⟨b0, b1, b2, b3, b4, b5, b6, b7⟩ := BX1.out
  obtain ⟨d1, d2, d3⟩ := (⟨H1.c1, H1.c2, H1.c3⟩ : _ ∧ _ ∧ _)
  have dl := H1.lt
  have H1 := Lib.hid H1
  go_wp2_with fail
  refine wp_qall (by kernel_rfl) (by kernel_rfl) ?_
  intro hcg
  repeat (first | go_big_quiet_step ((with_reducible (first | exact Calls.reg (HE.out _) | exact Calls.reg (HL.out _)))) | quiet_step ((with_reducible (first | exact Calls.reg (HE.out _) | exact Calls.reg (HL.out _)))))
  refine wpQuiet_nil ?_
  intro wq hbwq hcwq hfwq
  clear hcg
  clear b0 b1 b2 b3 b4 b5 b6 b7 d1 d2 d3 dl HE HL
  have H2 := Lib.hid (H1.out.next hbwq)
  have BX2 := Lib.hid (BX1.out.next hbwq)
  have B2 : Hid (Below W.heap.size W wq) := Lib.hid (B1.out.trans (hbwq.mono B1.out.size))
  clear hbwq hcwq hfwq H1 BX1 B1 y0 y1 y2
  go_upto_region 8 with (fail)
  have hgp : ∀ g, v.ownBlock = some g → g < W.heap.size := fun g e => (h.own.lt g e).2
  have bW := h.lt
  refine wp_heldcut (S := fun X => ApS X W.heap.size b m v) 11 (by kernel_rfl) (by kernel_rfl) (ApS.next ⟨BX2.out, H2.out.lt, H2.out.c4⟩ (Below.drew (Below.refl _ _))) (fun hHeld => ?_)
  simp only [List.take_succ_cons, List.take_zero]
  refine takeL (i := 0) (v := ?_) rfl (by kernel_rfl) (by kernel_rfl) (by kernel_rfl) (fun _ _ _ h => h) ⟨by rfl, ?_⟩ (by assumption) ?_
  rotate_left
  · intro W9 hSw
    (try dsimp only at hSw)
    go_simp
    try with_reducible rfl
  (try simp only [Act.put, List.setIfInBounds_toArray, List.set_cons_zero, List.set_cons_succ])
  refine takeL (i := 1) (v := ?_) rfl (by kernel_rfl) (by kernel_rfl) (by kernel_rfl) (fun _ _ _ h => h) ⟨by rfl, ?_⟩ (by assumption) ?_
  rotate_left
  · intro W9 hSw
    (try dsimp only at hSw)
    go_simp
    try with_reducible rfl
  (try simp only [Act.put, List.setIfInBounds_toArray, List.set_cons_zero, List.set_cons_succ])
  refine takeL (i := 2) (v := ?_) rfl (by kernel_rfl) (by kernel_rfl) (by kernel_rfl) (fun _ _ _ h => h) ⟨by rfl, ?_⟩ (by assumption) ?_
  rotate_left
  · intro W9 hSw
    (try dsimp only at hSw)
    go_simp
    try with_reducible rfl
  (try simp only [Act.put, List.setIfInBounds_toArray, List.set_cons_zero, List.set_cons_succ])
  refine takeL (i := 3) (v := ?_) rfl (by kernel_rfl) (by kernel_rfl) (by kernel_rfl) (fun _ _ _ h => h) ⟨by rfl, ?_⟩ (by assumption) ?_
  rotate_left
  · intro W9 hSw
    (try dsimp only at hSw)
    go_simp
    try with_reducible rfl
  (try simp only [Act.put, List.setIfInBounds_toArray, List.set_cons_zero, List.set_cons_succ])
  refine takeL (i := 4) (v := ?_) rfl (by kernel_rfl) (by kernel_rfl) (by kernel_rfl) (fun _ _ _ h => h) ⟨by rfl, ?_⟩ (by assumption) ?_
  rotate_left
  · intro W9 hSw
    (try dsimp only at hSw)
    obtain ⟨⟨z0, z1, z2, z3, z4, z5, z6, z7⟩, y1, y2⟩ := hSw
    go_simp
    try with_reducible rfl
  (try simp only [Act.put, List.setIfInBounds_toArray, List.set_cons_zero, List.set_cons_succ])
  refine takeL (i := 5) (v := ?_) rfl (by kernel_rfl) (by kernel_rfl) (by kernel_rfl) (fun _ _ _ h => h) ⟨by rfl, ?_⟩ (by assumption) ?_
  rotate_left
  · intro W9 hSw
    (try dsimp only at hSw)
    obtain ⟨⟨z0, z1, z2, z3, z4, z5, z6, z7⟩, y1, y2⟩ := hSw
    go_simp
    try with_reducible rfl
  (try simp only [Act.put, List.setIfInBounds_toArray, List.set_cons_zero, List.set_cons_succ])
  refine takeL (i := 6) (v := ?_) rfl (by kernel_rfl) (by kernel_rfl) (by kernel_rfl) (fun _ _ _ h => h) ⟨by rfl, ?_⟩ (by assumption) ?_
  rotate_left
  · intro W9 hSw
    (try dsimp only at hSw)
    obtain ⟨⟨z0, z1, z2, z3, z4, z5, z6, z7⟩, y1, y2⟩ := hSw
    go_simp
    try with_reducible rfl
  (try simp only [Act.put, List.setIfInBounds_toArray, List.set_cons_zero, List.set_cons_succ])
  refine takeL (i := 7) (v := ?_) rfl (by kernel_rfl) (by kernel_rfl) (by kernel_rfl) (fun _ _ _ h => h) ⟨by rfl, ?_⟩ (by assumption) ?_
  rotate_left
  · intro W9 hSw
    (try dsimp only at hSw)
    obtain ⟨⟨z0, z1, z2, z3, z4, z5, z6, z7⟩, y1, y2⟩ := hSw
    go_simp
    try with_reducible rfl
  (try simp only [Act.put, List.setIfInBounds_toArray, List.set_cons_zero, List.set_cons_succ])
  refine takeL (i := 8) (v := ?_) rfl (by kernel_rfl) (by kernel_rfl) (by kernel_rfl) (fun _ _ _ h => h) ⟨by rfl, ?_⟩ (by assumption) ?_
  rotate_left
  · intro W9 hSw
    (try dsimp only at hSw)
    go_simp
    try with_reducible rfl
  (try simp only [Act.put, List.setIfInBounds_toArray, List.set_cons_zero, List.set_cons_succ])
  have kX : Below wq.heap.size wq wq.drew := Below.drew (Below.refl _ _)
  have hX := hHeld
  clear hHeld
  generalize wq.drew = X at *
  refine wpAnyH_ready (rs := [9]) (by kernel_rfl) (by simp) ?_
  refine consL rfl (by rfl) (fun K hK => ?_) ?_
  · go_simp
    have kx2 : Below X.heap.size X (X.alloc (.cells #[.string m.f, .string m.t, .int .i64 m.a.wall, .int .i32 m.a.logic, .int .i32 m.a.tag, .int .i32 m.nd, .int .i32 m.nu] 63)) := (Below.refl _ _).alloc (Nat.le_refl _) _
    refine hK.out _ _ (hX.next kx2) (fun hX' => ?_)
    clear hK K
    have HM : Hid (Rd (X.alloc (.cells #[.string m.f, .string m.t, .int .i64 m.a.wall, .int .i32 m.a.logic, .int .i32 m.a.tag, .int .i32 m.nd, .int .i32 m.nu] 63)) (X.heap.size + 1) (some ⟨X.heap.size, 0, none⟩) (mkCells m)) := Lib.hid (fun _ => ⟨X.heap.size, 0, rfl, by omega, fun i u hu => by rw [World.cell?_alloc_mark]; simpa [mkCells] using hu⟩)
    have k2 : Below wq.heap.size wq (X.alloc (.cells #[.string m.f, .string m.t, .int .i64 m.a.wall, .int .i32 m.a.logic, .int .i32 m.a.tag, .int .i32 m.nd, .int .i32 m.nu] 63)) := kX.trans (kx2.mono kX.size)
    clear kx2 hX kX
    generalize hX9 : X.alloc (.cells #[.string m.f, .string m.t, .int .i64 m.a.wall, .int .i32 m.a.logic, .int .i32 m.a.tag, .int .i32 m.nd, .int .i32 m.nu] 63) = X2 at *
    generalize hX8 : X.heap.size = nb at *
    clear hX9 hX8 X
    obtain ⟨X, rfl⟩ : ∃ x, x = X2 := ⟨_, rfl⟩
    have H3 := Lib.hid (H2.out.next k2)
    refine wpAnyH_ready (rs := [10]) (by kernel_rfl) (by simp) ?_
    refine consL rfl (by rfl) (fun K hK => ?_) ?_
    · refine wp_app styM (.tmp 34) (.tmp 39) rfl base H3.out.own rfl 1 1 HM.out rfl rfl (by intro u hu; simp [mkCells] at hu; rcases hu with rfl | rfl | rfl | rfl | rfl | rfl | rfl <;> rfl) (by unfold maxLen; omega) (by omega) (Nat.le_trans H3.out.lo (Nat.le_of_lt H3.out.lt)) ?_
      intro v2 w2 own2 gr2 nil2 at2
      have hv2 : v2.ownBlock = v.ownBlock ∨ ∀ g, v2.ownBlock = some g → W.heap.size ≤ g := by
        rcases at2 with e | e
        · exact .inl e
        · refine .inr (fun g e2 => ?_)
          rw [e] at e2
          have h1 := B2.out.size
          have h2 := k2.size
          simp at e2
          omega
      have hfr : Hid (Fr b v.ownBlock W w2) := Lib.hid ((Fr.of_below (B2.out.trans (k2.mono B2.out.size))).grown gr2 (.inl rfl))
      refine hK.out _ _ (hX'.grown gr2 H3.out.ne (fun g e => .inl (hgp g e))) (fun hX2 => ?_)
      have HC : Hid (CaB 63 (w2.setCell ⟨b, 4, none⟩ v2) base b v2 s (l ++ [m])) := Lib.hid (H3.out.put gr2 (by rw [mv_append]; exact own_eq own2 rfl (by simp [mv])) at2 (by omega))
      have hfx : w2.frozen? ⟨b, 4, none⟩ = false := (World.grownBy.frozen_far gr2 ⟨b, 4, none⟩ H3.out.lt (fun e => H3.out.ne e.symm)).trans (H3.out.fz 4)
      have hcx := hX2.c4
      have hlx := hX2.lb
      clear hK K gr2 nil2 at2 own2 hX' hX2 HM k2 H3 H2 BX2
      refine wpAnyH_done (by kernel_rfl) ?_ _
      simp only [tailPost, List.drop_succ_cons, List.drop_zero]
      have hfr2 : Hid (Fr b v.ownBlock W (w2.setCell ⟨b, 4, none⟩ v2)) := Lib.hid (hfr.out.setCell (p := ⟨b, 4, none⟩) (.inl rfl) _)
      obtain ⟨A2, c2, rfl, hq1, hq2, -⟩ := HC.out.row
      simp only [List.length_append, List.length_cons, List.length_nil, Nat.zero_add] at *
      have i1 : ¬ ((1024 : Int) < ((l.length + 1 : Nat) : Int)) := by omega
      have i2 : (((l.length + 1 : Nat) : Int)) ≤ 1024 := by omega
      have c4n := HC.out.c4
      go_wp2_with fail
      go_ret
      exact ⟨rfl, hfr2.out, _, HC.out, hv2⟩
    exact AllReadyH.nil
  exact AllReadyH.nil
theorem rread_no {W : World} {base b : Nat} {v : Value} {s : Stp} {l : List Mk} (h : CaB 74 W base b v s l) (m : Mk) (hc : chk m.a ≠ 0) : Calls Try.prog 21 #[.pointer (some ⟨b, 0, none⟩), .agg #[.string m.f, .string m.t], .agg #[.int .i64 m.a.wall, .int .i32 m.a.logic, .int .i32 m.a.tag], .agg #[.int .i32 m.nd, .int .i32 m.nu]] W fun e w' => e = .returned (.int .i64 (chk m.a)) ∧ Below W.heap.size W w' := by
  have HN := Lib.hid (fun X (k : Below W.heap.size W X) => rnone_any (h.next k))
  have HK := Lib.hid (fun X => rcheck_any m.a X)
  generalize chk m.a = E at *
  have e1 : (E == 0) = false := by simpa using hc
  clear h
  go_enter Try.func21, Try.ntmps21
  go_wp2_with fail
  refine (HN.out _ (by go_grown)).mono ?_
  rintro e w' ⟨rfl, rfl⟩
  have BX := boxr_new W m
  have B3 : Below W.heap.size W (((W.alloc (.cells #[.string m.f, .string m.t] 33)).alloc (.cells #[.int .i64 m.a.wall, .int .i32 m.a.logic, .int .i32 m.a.tag] 23)).alloc (.cells #[.int .i32 m.nd, .int .i32 m.nu] 35)) := by go_grown
  generalize hw3 : ((W.alloc (.cells #[.string m.f, .string m.t] 33)).alloc (.cells #[.int .i64 m.a.wall, .int .i32 m.a.logic, .int .i32 m.a.tag] 23)).alloc (.cells #[.int .i32 m.nd, .int .i32 m.nu] 35) = W3 at *
  clear hw3 HN
  have z0 : W.heap.size ≠ W3.heap.size := by have := BX.lt; omega
  have BX := Lib.hid BX; have B3 := Lib.hid B3
  obtain ⟨b0, b1, b2, b3, b4, b5, b6, b7⟩ := BX.out
  go_wp2_with fail
  refine (HK.out W3).mono ?_
  rintro e w1 ⟨rfl, hb⟩
  have BX1 := Lib.hid (BX.out.next hb)
  have B1 : Hid (Below W.heap.size W w1) := Lib.hid (B3.out.trans (hb.mono B3.out.size))
  have y0 : W.heap.size < w1.heap.size := by have := BX1.out.lt; omega
  have y1 : W.heap.size + 1 < w1.heap.size := by have := BX1.out.lt; omega
  have y2 : W.heap.size + 1 + 1 < w1.heap.size := by have := BX1.out.lt; omega
  clear hb BX B3 b0 b1 b2 b3 b4 b5 b6 b7 HK z0
  go_wp2_with fail
  go_ret
  exact ⟨rfl, B1.out⟩
set_option maxHeartbeats 800000 in
theorem rread_emp {W : World} {base b : Nat} {v : Value} {s : Stp} {l : List Mk} (h : CaB 74 W base b v s l) (m : Mk) (hc : chk m.a = 0) (he : sEmp m.f m.t = true) : Calls Try.prog 21 #[.pointer (some ⟨b, 0, none⟩), .agg #[.string m.f, .string m.t], .agg #[.int .i64 m.a.wall, .int .i32 m.a.logic, .int .i32 m.a.tag], .agg #[.int .i32 m.nd, .int .i32 m.nu]] W fun e w' => e = .returned (.int .i64 0) ∧ Below W.heap.size W w' := by
  have HN := Lib.hid (fun X (k : Below W.heap.size W X) => rnone_any (h.next k))
  have HK := Lib.hid (fun X => rcheck_any m.a X)
  have HE := Lib.hid (fun X => rempty_any m.f m.t X)
  rw [he] at HE
  rw [hc] at HK
  clear h
  go_enter Try.func21, Try.ntmps21
  go_wp2_with fail
  refine (HN.out _ (by go_grown)).mono ?_
  rintro e w' ⟨rfl, rfl⟩
  have BX := boxr_new W m
  have B3 : Below W.heap.size W (((W.alloc (.cells #[.string m.f, .string m.t] 33)).alloc (.cells #[.int .i64 m.a.wall, .int .i32 m.a.logic, .int .i32 m.a.tag] 23)).alloc (.cells #[.int .i32 m.nd, .int .i32 m.nu] 35)) := by go_grown
  generalize hw3 : ((W.alloc (.cells #[.string m.f, .string m.t] 33)).alloc (.cells #[.int .i64 m.a.wall, .int .i32 m.a.logic, .int .i32 m.a.tag] 23)).alloc (.cells #[.int .i32 m.nd, .int .i32 m.nu] 35) = W3 at *
  clear hw3 HN
  have z0 : W.heap.size ≠ W3.heap.size := by have := BX.lt; omega
  have BX := Lib.hid BX; have B3 := Lib.hid B3
  obtain ⟨b0, b1, b2, b3, b4, b5, b6, b7⟩ := BX.out
  go_wp2_with fail
  refine (HK.out W3).mono ?_
  rintro e w1 ⟨rfl, hb⟩
  have BX1 := Lib.hid (BX.out.next hb)
  have B1 : Hid (Below W.heap.size W w1) := Lib.hid (B3.out.trans (hb.mono B3.out.size))
  have y0 : W.heap.size < w1.heap.size := by have := BX1.out.lt; omega
  have y1 : W.heap.size + 1 < w1.heap.size := by have := BX1.out.lt; omega
  have y2 : W.heap.size + 1 + 1 < w1.heap.size := by have := BX1.out.lt; omega
  clear hb BX B3 b0 b1 b2 b3 b4 b5 b6 b7 HK z0
  obtain ⟨b0, b1, b2, b3, b4, b5, b6, b7⟩ := BX1.out
  go_wp2_with fail
  refine wp_qall (by kernel_rfl) (by kernel_rfl) ?_
  intro hcg
  repeat (first | go_big_quiet_step ((with_reducible (first | exact Calls.reg (HE.out _)))) | quiet_step ((with_reducible (first | exact Calls.reg (HE.out _)))))
  refine wpQuiet_nil ?_
  intro wq hbwq hcwq hfwq
  clear hcg
  go_wp2_with fail
  go_ret
  exact ⟨rfl, B1.out.trans (hbwq.mono B1.out.size)⟩
set_option maxHeartbeats 800000 in
theorem rread_low {W : World} {base b : Nat} {v : Value} {s : Stp} {l : List Mk} (h : CaB 74 W base b v s l) (m : Mk) (hc : chk m.a = 0) (he : sEmp m.f m.t = false) (hl : less s m.a = false) : Calls Try.prog 21 #[.pointer (some ⟨b, 0, none⟩), .agg #[.string m.f, .string m.t], .agg #[.int .i64 m.a.wall, .int .i32 m.a.logic, .int .i32 m.a.tag], .agg #[.int .i32 m.nd, .int .i32 m.nu]] W fun e w' => e = .returned (.int .i64 0) ∧ Below W.heap.size W w' := by
  have HN := Lib.hid (fun X (k : Below W.heap.size W X) => rnone_any (h.next k))
  have HK := Lib.hid (fun X => rcheck_any m.a X)
  have HE := Lib.hid (fun X => rempty_any m.f m.t X)
  have HL := Lib.hid (fun X => rless_any s m.a X)
  rw [he] at HE
  rw [hc] at HK
  rw [hl] at HL
  go_enter Try.func21, Try.ntmps21
  go_wp2_with fail
  refine (HN.out _ (by go_grown)).mono ?_
  rintro e w' ⟨rfl, rfl⟩
  have BX := boxr_new W m
  have B3 : Below W.heap.size W (((W.alloc (.cells #[.string m.f, .string m.t] 33)).alloc (.cells #[.int .i64 m.a.wall, .int .i32 m.a.logic, .int .i32 m.a.tag] 23)).alloc (.cells #[.int .i32 m.nd, .int .i32 m.nu] 35)) := by go_grown
  generalize hw3 : ((W.alloc (.cells #[.string m.f, .string m.t] 33)).alloc (.cells #[.int .i64 m.a.wall, .int .i32 m.a.logic, .int .i32 m.a.tag] 23)).alloc (.cells #[.int .i32 m.nd, .int .i32 m.nu] 35) = W3 at *
  clear hw3 HN
  have z0 : W.heap.size ≠ W3.heap.size := by have := BX.lt; omega
  have BX := Lib.hid BX; have B3 := Lib.hid B3
  obtain ⟨b0, b1, b2, b3, b4, b5, b6, b7⟩ := BX.out
  go_wp2_with fail
  refine (HK.out W3).mono ?_
  rintro e w1 ⟨rfl, hb⟩
  have BX1 := Lib.hid (BX.out.next hb)
  have B1 : Hid (Below W.heap.size W w1) := Lib.hid (B3.out.trans (hb.mono B3.out.size))
  have y0 : W.heap.size < w1.heap.size := by have := BX1.out.lt; omega
  have y1 : W.heap.size + 1 < w1.heap.size := by have := BX1.out.lt; omega
  have y2 : W.heap.size + 1 + 1 < w1.heap.size := by have := BX1.out.lt; omega
  clear hb BX B3 b0 b1 b2 b3 b4 b5 b6 b7 HK z0
  have H1 := h.next B1.out
  obtain ⟨b0, b1, b2, b3, b4, b5, b6, b7⟩ := BX1.out
  obtain ⟨d1, d2, d3⟩ := (⟨H1.c1, H1.c2, H1.c3⟩ : _ ∧ _ ∧ _)
  have dl := H1.lt
  clear h H1
  go_wp2_with fail
  refine wp_qall (by kernel_rfl) (by kernel_rfl) ?_
  intro hcg
  repeat (first | go_big_quiet_step ((with_reducible (first | exact Calls.reg (HE.out _) | exact Calls.reg (HL.out _)))) | quiet_step ((with_reducible (first | exact Calls.reg (HE.out _) | exact Calls.reg (HL.out _)))))
  refine wpQuiet_nil ?_
  intro wq hbwq hcwq hfwq
  clear hcg
  go_wp2_with fail
  go_ret
  exact ⟨rfl, B1.out.trans (hbwq.mono B1.out.size)⟩
set_option maxHeartbeats 1600000 in
theorem rread_put {W : World} {base b : Nat} {v : Value} {s : Stp} {l : List Mk} (h : CaB 74 W base b v s l) (m : Mk) (hc : chk m.a = 0) (he : sEmp m.f m.t = false) (hl : less s m.a = true) (hn : l.length < 1024) : Calls Try.prog 21 #[.pointer (some ⟨b, 0, none⟩), .agg #[.string m.f, .string m.t], .agg #[.int .i64 m.a.wall, .int .i32 m.a.logic, .int .i32 m.a.tag], .agg #[.int .i32 m.nd, .int .i32 m.nu]] W fun e w' => e = .returned (.int .i64 0) ∧ RdP 74 base b v.ownBlock s (l ++ [m]) W w' := by
  have HN := Lib.hid (fun X (k : Below W.heap.size W X) => rnone_any (h.next k))
  have HK := Lib.hid (fun X => rcheck_any m.a X)
  have HE := Lib.hid (fun X => rempty_any m.f m.t X)
  have HL := Lib.hid (fun X => rless_any s m.a X)
  rw [he] at HE
  rw [hc] at HK
  rw [hl] at HL
  go_enter Try.func21, Try.ntmps21
  go_wp2_with fail
  refine (HN.out _ (by go_grown)).mono ?_
  rintro e w' ⟨rfl, rfl⟩
  have BX := boxr_new W m
  have B3 : Below W.heap.size W (((W.alloc (.cells #[.string m.f, .string m.t] 33)).alloc (.cells #[.int .i64 m.a.wall, .int .i32 m.a.logic, .int .i32 m.a.tag] 23)).alloc (.cells #[.int .i32 m.nd, .int .i32 m.nu] 35)) := by go_grown
  generalize hw3 : ((W.alloc (.cells #[.string m.f, .string m.t] 33)).alloc (.cells #[.int .i64 m.a.wall, .int .i32 m.a.logic, .int .i32 m.a.tag] 23)).alloc (.cells #[.int .i32 m.nd, .int .i32 m.nu] 35) = W3 at *
  clear hw3 HN
  have z0 : W.heap.size ≠ W3.heap.size := by have := BX.lt; omega
  have BX := Lib.hid BX; have B3 := Lib.hid B3
  obtain ⟨b0, b1, b2, b3, b4, b5, b6, b7⟩ := BX.out
  go_wp2_with fail
  refine (HK.out W3).mono ?_
  rintro e w1 ⟨rfl, hb⟩
  have BX1 := Lib.hid (BX.out.next hb)
  have B1 : Hid (Below W.heap.size W w1) := Lib.hid (B3.out.trans (hb.mono B3.out.size))
  have y0 : W.heap.size < w1.heap.size := by have := BX1.out.lt; omega
  have y1 : W.heap.size + 1 < w1.heap.size := by have := BX1.out.lt; omega
  have y2 : W.heap.size + 1 + 1 < w1.heap.size := by have := BX1.out.lt; omega
  clear hb BX B3 b0 b1 b2 b3 b4 b5 b6 b7 HK z0
  have H1 := h.next B1.out
  obtain ⟨b0, b1, b2, b3, b4, b5, b6, b7⟩ := BX1.out
  obtain ⟨d1, d2, d3⟩ := (⟨H1.c1, H1.c2, H1.c3⟩ : _ ∧ _ ∧ _)
  have dl := H1.lt
  have H1 := Lib.hid H1
  go_wp2_with fail
  refine wp_qall (by kernel_rfl) (by kernel_rfl) ?_
  intro hcg
  repeat (first | go_big_quiet_step ((with_reducible (first | exact Calls.reg (HE.out _) | exact Calls.reg (HL.out _)))) | quiet_step ((with_reducible (first | exact Calls.reg (HE.out _) | exact Calls.reg (HL.out _)))))
  refine wpQuiet_nil ?_
  intro wq hbwq hcwq hfwq
  clear hcg
  clear b0 b1 b2 b3 b4 b5 b6 b7 d1 d2 d3 dl HE HL
  have H2 := Lib.hid (H1.out.next hbwq)
  have BX2 := Lib.hid (BX1.out.next hbwq)
  have B2 : Hid (Below W.heap.size W wq) := Lib.hid (B1.out.trans (hbwq.mono B1.out.size))
  clear hbwq hcwq hfwq H1 BX1 B1 y0 y1 y2
  go_upto_region 8 with (fail)
  have hgp : ∀ g, v.ownBlock = some g → g < W.heap.size := fun g e => (h.own.lt g e).2
  have bW := h.lt
  refine wp_heldcut (S := fun X => ApS X W.heap.size b m v) 11 (by kernel_rfl) (by kernel_rfl) (ApS.next ⟨BX2.out, H2.out.lt, H2.out.c4⟩ (Below.drew (Below.refl _ _))) (fun hHeld => ?_)
  simp only [List.take_succ_cons, List.take_zero]
  refine takeL (i := 0) (v := ?_) rfl (by kernel_rfl) (by kernel_rfl) (by kernel_rfl) (fun _ _ _ h => h) ⟨by rfl, ?_⟩ (by assumption) ?_
  rotate_left
  · intro W9 hSw
    (try dsimp only at hSw)
    go_simp
    try with_reducible rfl
  (try simp only [Act.put, List.setIfInBounds_toArray, List.set_cons_zero, List.set_cons_succ])
  refine takeL (i := 1) (v := ?_) rfl (by kernel_rfl) (by kernel_rfl) (by kernel_rfl) (fun _ _ _ h => h) ⟨by rfl, ?_⟩ (by assumption) ?_
  rotate_left
  · intro W9 hSw
    (try dsimp only at hSw)
    go_simp
    try with_reducible rfl
  (try simp only [Act.put, List.setIfInBounds_toArray, List.set_cons_zero, List.set_cons_succ])
  refine takeL (i := 2) (v := ?_) rfl (by kernel_rfl) (by kernel_rfl) (by kernel_rfl) (fun _ _ _ h => h) ⟨by rfl, ?_⟩ (by assumption) ?_
  rotate_left
  · intro W9 hSw
    (try dsimp only at hSw)
    go_simp
    try with_reducible rfl
  (try simp only [Act.put, List.setIfInBounds_toArray, List.set_cons_zero, List.set_cons_succ])
  refine takeL (i := 3) (v := ?_) rfl (by kernel_rfl) (by kernel_rfl) (by kernel_rfl) (fun _ _ _ h => h) ⟨by rfl, ?_⟩ (by assumption) ?_
  rotate_left
  · intro W9 hSw
    (try dsimp only at hSw)
    go_simp
    try with_reducible rfl
  (try simp only [Act.put, List.setIfInBounds_toArray, List.set_cons_zero, List.set_cons_succ])
  refine takeL (i := 4) (v := ?_) rfl (by kernel_rfl) (by kernel_rfl) (by kernel_rfl) (fun _ _ _ h => h) ⟨by rfl, ?_⟩ (by assumption) ?_
  rotate_left
  · intro W9 hSw
    (try dsimp only at hSw)
    obtain ⟨⟨z0, z1, z2, z3, z4, z5, z6, z7⟩, y1, y2⟩ := hSw
    go_simp
    try with_reducible rfl
  (try simp only [Act.put, List.setIfInBounds_toArray, List.set_cons_zero, List.set_cons_succ])
  refine takeL (i := 5) (v := ?_) rfl (by kernel_rfl) (by kernel_rfl) (by kernel_rfl) (fun _ _ _ h => h) ⟨by rfl, ?_⟩ (by assumption) ?_
  rotate_left
  · intro W9 hSw
    (try dsimp only at hSw)
    obtain ⟨⟨z0, z1, z2, z3, z4, z5, z6, z7⟩, y1, y2⟩ := hSw
    go_simp
    try with_reducible rfl
  (try simp only [Act.put, List.setIfInBounds_toArray, List.set_cons_zero, List.set_cons_succ])
  refine takeL (i := 6) (v := ?_) rfl (by kernel_rfl) (by kernel_rfl) (by kernel_rfl) (fun _ _ _ h => h) ⟨by rfl, ?_⟩ (by assumption) ?_
  rotate_left
  · intro W9 hSw
    (try dsimp only at hSw)
    obtain ⟨⟨z0, z1, z2, z3, z4, z5, z6, z7⟩, y1, y2⟩ := hSw
    go_simp
    try with_reducible rfl
  (try simp only [Act.put, List.setIfInBounds_toArray, List.set_cons_zero, List.set_cons_succ])
  refine takeL (i := 7) (v := ?_) rfl (by kernel_rfl) (by kernel_rfl) (by kernel_rfl) (fun _ _ _ h => h) ⟨by rfl, ?_⟩ (by assumption) ?_
  rotate_left
  · intro W9 hSw
    (try dsimp only at hSw)
    obtain ⟨⟨z0, z1, z2, z3, z4, z5, z6, z7⟩, y1, y2⟩ := hSw
    go_simp
    try with_reducible rfl
  (try simp only [Act.put, List.setIfInBounds_toArray, List.set_cons_zero, List.set_cons_succ])
  refine takeL (i := 8) (v := ?_) rfl (by kernel_rfl) (by kernel_rfl) (by kernel_rfl) (fun _ _ _ h => h) ⟨by rfl, ?_⟩ (by assumption) ?_
  rotate_left
  · intro W9 hSw
    (try dsimp only at hSw)
    go_simp
    try with_reducible rfl
  (try simp only [Act.put, List.setIfInBounds_toArray, List.set_cons_zero, List.set_cons_succ])
  have kX : Below wq.heap.size wq wq.drew := Below.drew (Below.refl _ _)
  have hX := hHeld
  clear hHeld
  generalize wq.drew = X at *
  refine wpAnyH_ready (rs := [9]) (by kernel_rfl) (by simp) ?_
  refine consL rfl (by rfl) (fun K hK => ?_) ?_
  · go_simp
    have kx2 : Below X.heap.size X (X.alloc (.cells #[.string m.f, .string m.t, .int .i64 m.a.wall, .int .i32 m.a.logic, .int .i32 m.a.tag, .int .i32 m.nd, .int .i32 m.nu] 74)) := (Below.refl _ _).alloc (Nat.le_refl _) _
    refine hK.out _ _ (hX.next kx2) (fun hX' => ?_)
    clear hK K
    have HM : Hid (Rd (X.alloc (.cells #[.string m.f, .string m.t, .int .i64 m.a.wall, .int .i32 m.a.logic, .int .i32 m.a.tag, .int .i32 m.nd, .int .i32 m.nu] 74)) (X.heap.size + 1) (some ⟨X.heap.size, 0, none⟩) (mkCells m)) := Lib.hid (fun _ => ⟨X.heap.size, 0, rfl, by omega, fun i u hu => by rw [World.cell?_alloc_mark]; simpa [mkCells] using hu⟩)
    have k2 : Below wq.heap.size wq (X.alloc (.cells #[.string m.f, .string m.t, .int .i64 m.a.wall, .int .i32 m.a.logic, .int .i32 m.a.tag, .int .i32 m.nd, .int .i32 m.nu] 74)) := kX.trans (kx2.mono kX.size)
    clear kx2 hX kX
    generalize hX9 : X.alloc (.cells #[.string m.f, .string m.t, .int .i64 m.a.wall, .int .i32 m.a.logic, .int .i32 m.a.tag, .int .i32 m.nd, .int .i32 m.nu] 74) = X2 at *
    generalize hX8 : X.heap.size = nb at *
    clear hX9 hX8 X
    obtain ⟨X, rfl⟩ : ∃ x, x = X2 := ⟨_, rfl⟩
    have H3 := Lib.hid (H2.out.next k2)
    refine wpAnyH_ready (rs := [10]) (by kernel_rfl) (by simp) ?_
    refine consL rfl (by rfl) (fun K hK => ?_) ?_
    · refine wp_app styR (.tmp 35) (.tmp 40) rfl base H3.out.own rfl 1 1 HM.out rfl rfl (by intro u hu; simp [mkCells] at hu; rcases hu with rfl | rfl | rfl | rfl | rfl | rfl | rfl <;> rfl) (by unfold maxLen; omega) (by omega) (Nat.le_trans H3.out.lo (Nat.le_of_lt H3.out.lt)) ?_
      intro v2 w2 own2 gr2 nil2 at2
      have hv2 : v2.ownBlock = v.ownBlock ∨ ∀ g, v2.ownBlock = some g → W.heap.size ≤ g := by
        rcases at2 with e | e
        · exact .inl e
        · refine .inr (fun g e2 => ?_)
          rw [e] at e2
          have h1 := B2.out.size
          have h2 := k2.size
          simp at e2
          omega
      have hfr : Hid (Fr b v.ownBlock W w2) := Lib.hid ((Fr.of_below (B2.out.trans (k2.mono B2.out.size))).grown gr2 (.inl rfl))
      refine hK.out _ _ (hX'.grown gr2 H3.out.ne (fun g e => .inl (hgp g e))) (fun hX2 => ?_)
      have HC : Hid (CaB 74 (w2.setCell ⟨b, 4, none⟩ v2) base b v2 s (l ++ [m])) := Lib.hid (H3.out.put gr2 (by rw [mv_append]; exact own_eq own2 rfl (by simp [mv])) at2 (by omega))
      have hfx : w2.frozen? ⟨b, 4, none⟩ = false := (World.grownBy.frozen_far gr2 ⟨b, 4, none⟩ H3.out.lt (fun e => H3.out.ne e.symm)).trans (H3.out.fz 4)
      have hcx := hX2.c4
      have hlx := hX2.lb
      clear hK K gr2 nil2 at2 own2 hX' hX2 HM k2 H3 H2 BX2
      refine wpAnyH_done (by kernel_rfl) ?_ _
      simp only [tailPost, List.drop_succ_cons, List.drop_zero]
      have hfr2 : Hid (Fr b v.ownBlock W (w2.setCell ⟨b, 4, none⟩ v2)) := Lib.hid (hfr.out.setCell (p := ⟨b, 4, none⟩) (.inl rfl) _)
      obtain ⟨A2, c2, rfl, hq1, hq2, -⟩ := HC.out.row
      simp only [List.length_append, List.length_cons, List.length_nil, Nat.zero_add] at *
      have i1 : ¬ ((1024 : Int) < ((l.length + 1 : Nat) : Int)) := by omega
      have i2 : (((l.length + 1 : Nat) : Int)) ≤ 1024 := by omega
      have c4n := HC.out.c4
      go_wp2_with fail
      go_ret
      exact ⟨rfl, hfr2.out, _, HC.out, hv2⟩
    exact AllReadyH.nil
  exact AllReadyH.nil
end Go.Proofs.Ytnhobjjgpnbnmaa
