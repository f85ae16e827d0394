/- The walk: a net that is not there, or that nobody made, refuses every call. -/
import Derived.Test.YtlpdihcgdgkkbaaSx
import Derived.Test.YtlpdihcgdgkkbaaCut2
import Derived.Deep.CutRange
namespace Go.Proofs.Ytlpdihcgdgkkbaa
open Go.RowKit Go.St Go.Shelf
set_option linter.unusedVariables false
set_option linter.unusedSimpArgs false
set_option maxRecDepth 100000

theorem underF : Try.prog.underlying 89 = some (.func #[109] #[] false) := by kernel_rfl
theorem equalIn_func (d : Nat) (f : Fn) (a b : Array Value) (w : World) : (Op.equalIn (d + 1) 89 (.func f a b) .nilFunc).run Try.prog w = .ok false w := by
  simp [Op.equalIn, run_underlying underF]
theorem func_nil (f : Fn) (a b : Array Value) (w : World) : (binOp .eql 89 (.func f a b) .nilFunc).run Try.prog w = .ok (.bool false) w := by
  have := equalIn_func 9999 f a b w
  have h : (Op.equal 89 (.func f a b) .nilFunc).run Try.prog w = .ok false w := this
  simp [go_sem, binOp, h]
theorem sall_no (p : Option Addr) (w : World) (h : NoNet w p) : Calls Try.prog 56 #[.pointer p] w fun e w' => ∃ Bx, e = .returned (.func (.func 87) #[] #[.pointer (some ⟨Bx, 0, none⟩)]) ∧ w'.cell? ⟨Bx, 0, none⟩ = some (.slice none 0 0) ∧ Bx < w'.heap.size ∧ Below w.heap.size w w' := by
  have H := Lib.hid (sflight_no p w h); clear h
  go_enter Try.func56, Try.ntmps56
  go_wp2_with fail
  refine H.out.mono ?_
  rintro e w' ⟨rfl, rfl⟩
  go_wp2
  go_ret
  exact ⟨_, rfl, by simp, by simp, by go_grown⟩
/-- What the statement has laid ahead of its loop. -/
structure NilS (W : World) (q : Nat) (M N : Int) (A : Option Addr) (n c : Nat) : Prop where
  lt : q + 1 + 1 + 1 < W.heap.size
  a1 : W.cell? ⟨q, 1, none⟩ = some (.int .i64 M)
  a2 : W.cell? ⟨q, 2, none⟩ = some (.int .i64 N)
  a3 : W.cell? ⟨q, 3, none⟩ = some (.slice A n c)
  r0 : W.cell? ⟨q + 1, 0, none⟩ = some (.bool false)
  rf : W.frozen? ⟨q + 1, 0, none⟩ = false
  n0 : W.cell? ⟨q + 1 + 1, 0, none⟩ = some (.int .i64 0)
  l0 : W.cell? ⟨q + 1 + 1 + 1, 0, none⟩ = some (.pointer none)
  l1 : W.cell? ⟨q + 1 + 1 + 1, 1, none⟩ = some (.pointer (some ⟨q + 1 + 1, 0, none⟩))
theorem NilS.next {W W' : World} {q : Nat} {M N : Int} {A : Option Addr} {n c : Nat} (h : NilS W q M N A n c) (hb : Below W.heap.size W W') : NilS W' q M N A n c := by
  obtain ⟨lt, a1, a2, a3, r0, rf, n0, l0, l1⟩ := h
  have hc := fun k (hk : k < W.heap.size) o => hb.cell (p := ⟨k, o, none⟩) hk
  have hf := fun k (hk : k < W.heap.size) o => hb.frozen (p := ⟨k, o, none⟩) hk
  exact ⟨Nat.lt_of_lt_of_le lt hb.size, (hc _ (by omega) _).trans a1, (hc _ (by omega) _).trans a2, (hc _ (by omega) _).trans a3, (hc _ (by omega) _).trans r0, (hf _ (by omega) _).trans rf, (hc _ (by omega) _).trans n0, (hc _ (by omega) _).trans l0, (hc _ (by omega) _).trans l1⟩
/-- A letter's box: nothing in it. -/
structure XNil (W : World) (k : Nat) : Prop where
  lt : k < W.heap.size
  c0 : W.cell? ⟨k, 0, none⟩ = some (.int .i64 0)
  c3 : W.cell? ⟨k, 3, none⟩ = some (.slice none 0 0)
def set4 (W : World) (k : Nat) : World := (((W.setCell ⟨k, 0, none⟩ (.int .i64 0)).setCell ⟨k, 1, none⟩ (.int .i64 0)).setCell ⟨k, 2, none⟩ (.int .i64 0)).setCell ⟨k, 3, none⟩ (.slice none 0 0)
theorem XNil.next {W W' : World} {k : Nat} (h : XNil W k) (hb : Below W.heap.size W W') : XNil W' k := ⟨Nat.lt_of_lt_of_le h.lt hb.size, (hb.cell (p := ⟨k, 0, none⟩) h.lt).trans h.c0, (hb.cell (p := ⟨k, 3, none⟩) h.lt).trans h.c3⟩
theorem xnil_set4 {W : World} {k : Nat} (hk : k < W.heap.size) {u v : Value} (h0 : W.cell? ⟨k, 0, none⟩ = some u) (h3 : W.cell? ⟨k, 3, none⟩ = some v) : XNil (set4 W k) k := by
  unfold set4
  refine ⟨by simpa [World.setCell] using hk, ?_, ?_⟩
  · rw [World.cell?_setCell_other _ _ _ _ (by simp), World.cell?_setCell_other _ _ _ _ (by simp), World.cell?_setCell_other _ _ _ _ (by simp)]
    exact World.cell?_setCell_same _ _ _ h0
  · refine World.cell?_setCell_same _ _ _ (?_ : _ = some v)
    rw [World.cell?_setCell_other _ _ _ _ (by simp), World.cell?_setCell_other _ _ _ _ (by simp), World.cell?_setCell_other _ _ _ _ (by simp)]
    exact h3
theorem bel_set4 {B k : Nat} {w W : World} (h : Below B w W) (hk : B ≤ k) : Below B w (set4 W k) := by
  unfold set4
  exact (((h.setCell hk _).setCell hk _).setCell hk _).setCell hk _
/-- Only the way on. -/
def onlyN (K : Act → World → Prop) : Exit → Act → World → Prop
  | .normal, a, w => K a w
  | _, _, _ => False
theorem wp_onlyN {c : Code} {K : Act → World → Prop} {Q : Exit → Act → World → Prop} {a : Act} {w : World} (h : c.wp Try.prog (onlyN K) a w) : c.wp Try.prog (Exit.then K Q) a w :=
  wp_mono h (fun e a w hq => by cases e <;> first | exact hq | exact hq.elim)
theorem putObj_belowB {B : Nat} {W : World} {l : Nat} (o : Obj) (h : B ≤ l) : Below B W (W.putObj l o) :=
  ⟨rfl, rfl, rfl, by simp [World.putObj], fun k hk => World.putObj_heap_other (by omega)⟩
theorem leave12 {n : Nat} {W : World} {tmps : Array Value} {R : Ending → World → Prop} {r0 : Nat} (h4 : tmps.getD 2 undef = .pointer (some ⟨r0, 0, none⟩)) (hc : W.cell? ⟨r0, 0, none⟩ = some (.bool true)) (hR : R (.returned (.bool true)) W) :
    LeavesInM Fence.wide n Try.prog Try.f12 tmps R [] .returning W := by
  refine ⟨.bool true, ?_, hR⟩
  unfold results
  rw [show Try.f12.results = #[.cell 2 4] from rfl]
  have h5 : tmps[2]?.getD undef = .pointer (some ⟨r0, 0, none⟩) := by simpa using h4
  simp [go_sem, h5, hc]
set_option maxHeartbeats 4000000 in
theorem simnetNil_walk (w : World) (K M N : Int) (A : Option Addr) (n c : Nat) : Calls Try.prog 12 #[.agg #[.int .i64 K, .int .i64 M, .int .i64 N, .slice A n c]] w fun e w' => e = .returned (.bool true) ∧ Below w.heap.size w w' := by
  refine (callsIn_wide (n := 8)).1 ?_
  refine callsIn_of_wp_marks Try.func12 rfl trivial ?_ rfl
  simp only [Try.ntmps12, List.size_toArray, List.length_cons, List.length_nil, Nat.reduceAdd, Nat.reduceSub, Array.replicate_succ, Array.replicate_zero, List.push_toArray, List.append_toArray, List.nil_append, List.cons_append]
  refine wpIn_wide.2 ?_
  go_wp2_with fail
  have SA : Hid (NilS ((((w.alloc (.cells #[.int .i64 K, .int .i64 M, .int .i64 N, .slice A n c] 61)).alloc (.cells #[.bool false] 4)).alloc (.cells #[.int .i64 0, .int .i64 0, .slice none 0 0] 86)).alloc (.cells #[.pointer none, .pointer (some ⟨w.heap.size + 1 + 1, 0, none⟩)] 44)) w.heap.size M N A n c) := by
    have e1 : (w.alloc (.cells #[.int .i64 K, .int .i64 M, .int .i64 N, .slice A n c] 61)).heap.size = w.heap.size + 1 := by simp
    have e2 : ((w.alloc (.cells #[.int .i64 K, .int .i64 M, .int .i64 N, .slice A n c] 61)).alloc (.cells #[.bool false] 4)).heap.size = w.heap.size + 1 + 1 := by simp
    have e3 : (((w.alloc (.cells #[.int .i64 K, .int .i64 M, .int .i64 N, .slice A n c] 61)).alloc (.cells #[.bool false] 4)).alloc (.cells #[.int .i64 0, .int .i64 0, .slice none 0 0] 86)).heap.size = w.heap.size + 1 + 1 + 1 := by simp
    have m0 := fun o => World.cell?_alloc_mark w #[.int .i64 K, .int .i64 M, .int .i64 N, .slice A n c] 61 (0, 0) o
    have m1 := fun o => World.cell?_alloc_mark (w.alloc (.cells #[.int .i64 K, .int .i64 M, .int .i64 N, .slice A n c] 61)) #[.bool false] 4 (0, 0) o
    have m2 := fun o => World.cell?_alloc_mark ((w.alloc (.cells #[.int .i64 K, .int .i64 M, .int .i64 N, .slice A n c] 61)).alloc (.cells #[.bool false] 4)) #[.int .i64 0, .int .i64 0, .slice none 0 0] 86 (0, 0) o
    have m3 := fun o => World.cell?_alloc_mark (((w.alloc (.cells #[.int .i64 K, .int .i64 M, .int .i64 N, .slice A n c] 61)).alloc (.cells #[.bool false] 4)).alloc (.cells #[.int .i64 0, .int .i64 0, .slice none 0 0] 86)) #[.pointer none, .pointer (some ⟨w.heap.size + 1 + 1, 0, none⟩)] 44 (0, 0) o
    have f1 := fun o => World.frozen?_alloc_at (w := (w.alloc (.cells #[.int .i64 K, .int .i64 M, .int .i64 N, .slice A n c] 61))) #[.bool false] 4 (w.heap.size + 1) o e1.symm
    rw [e1] at m1
    rw [e2] at m2
    rw [e3] at m3
    have b1 : Below (w.alloc (.cells #[.int .i64 K, .int .i64 M, .int .i64 N, .slice A n c] 61)).heap.size (w.alloc (.cells #[.int .i64 K, .int .i64 M, .int .i64 N, .slice A n c] 61)) ((((w.alloc (.cells #[.int .i64 K, .int .i64 M, .int .i64 N, .slice A n c] 61)).alloc (.cells #[.bool false] 4)).alloc (.cells #[.int .i64 0, .int .i64 0, .slice none 0 0] 86)).alloc (.cells #[.pointer none, .pointer (some ⟨w.heap.size + 1 + 1, 0, none⟩)] 44)) := (((Below.refl _ _).alloc (Nat.le_refl _) _).alloc (by simp) _).alloc (by simp) _
    have b2 : Below ((w.alloc (.cells #[.int .i64 K, .int .i64 M, .int .i64 N, .slice A n c] 61)).alloc (.cells #[.bool false] 4)).heap.size ((w.alloc (.cells #[.int .i64 K, .int .i64 M, .int .i64 N, .slice A n c] 61)).alloc (.cells #[.bool false] 4)) ((((w.alloc (.cells #[.int .i64 K, .int .i64 M, .int .i64 N, .slice A n c] 61)).alloc (.cells #[.bool false] 4)).alloc (.cells #[.int .i64 0, .int .i64 0, .slice none 0 0] 86)).alloc (.cells #[.pointer none, .pointer (some ⟨w.heap.size + 1 + 1, 0, none⟩)] 44)) := ((Below.refl _ _).alloc (Nat.le_refl _) _).alloc (by simp) _
    have b3 : Below (((w.alloc (.cells #[.int .i64 K, .int .i64 M, .int .i64 N, .slice A n c] 61)).alloc (.cells #[.bool false] 4)).alloc (.cells #[.int .i64 0, .int .i64 0, .slice none 0 0] 86)).heap.size (((w.alloc (.cells #[.int .i64 K, .int .i64 M, .int .i64 N, .slice A n c] 61)).alloc (.cells #[.bool false] 4)).alloc (.cells #[.int .i64 0, .int .i64 0, .slice none 0 0] 86)) ((((w.alloc (.cells #[.int .i64 K, .int .i64 M, .int .i64 N, .slice A n c] 61)).alloc (.cells #[.bool false] 4)).alloc (.cells #[.int .i64 0, .int .i64 0, .slice none 0 0] 86)).alloc (.cells #[.pointer none, .pointer (some ⟨w.heap.size + 1 + 1, 0, none⟩)] 44)) := (Below.refl _ _).alloc (Nat.le_refl _) _
    exact Lib.hid ⟨by simp, (b1.cell (p := ⟨w.heap.size, 1, none⟩) (by simp)).trans (m0 1), (b1.cell (p := ⟨w.heap.size, 2, none⟩) (by simp)).trans (m0 2), (b1.cell (p := ⟨w.heap.size, 3, none⟩) (by simp)).trans (m0 3),
      (b2.cell (p := ⟨w.heap.size + 1, 0, none⟩) (by simp)).trans (m1 0), (b2.frozen (p := ⟨w.heap.size + 1, 0, none⟩) (by simp)).trans (f1 0), (b3.cell (p := ⟨w.heap.size + 1 + 1, 0, none⟩) (by simp)).trans (m2 0), m3 0, m3 1⟩
  have BA : Hid (Below w.heap.size w ((((w.alloc (.cells #[.int .i64 K, .int .i64 M, .int .i64 N, .slice A n c] 61)).alloc (.cells #[.bool false] 4)).alloc (.cells #[.int .i64 0, .int .i64 0, .slice none 0 0] 86)).alloc (.cells #[.pointer none, .pointer (some ⟨w.heap.size + 1 + 1, 0, none⟩)] 44))) := Lib.hid ((((((Below.refl _ _).alloc (Nat.le_refl _) _).alloc (by simp) _).alloc (by simp; omega) _)).alloc (by simp; omega) _)
  generalize ((((w.alloc (.cells #[.int .i64 K, .int .i64 M, .int .i64 N, .slice A n c] 61)).alloc (.cells #[.bool false] 4)).alloc (.cells #[.int .i64 0, .int .i64 0, .slice none 0 0] 86)).alloc (.cells #[.pointer none, .pointer (some ⟨w.heap.size + 1 + 1, 0, none⟩)] 44)) = wa at *
  generalize hq : w.heap.size = q at *
  have SN0 := SA
  refine wp_loop_rounds 3 ?_
  rw [rounds_succ]
  obtain ⟨lt, a1, a2, a3, r0, rf, n0, l0, l1⟩ := SN0.out
  have NP : NoNet wa none := .inl rfl
  have HSD := Lib.hid (fun W' (k : Below wa.heap.size wa W') => (ssend_no none M N (.slice A n c) W' (NP.next k)).mono (fun e w' h => (⟨h.1, by rw [← h.2]; exact Below.refl _ _⟩ : e = .returned (.tuple #[.int .i64 0, .int .i64 1]) ∧ Below W'.heap.size W' w')))
  have HDL := Lib.hid (fun W' (k : Below wa.heap.size wa W') => sdeliver_no none N W' (NP.next k))
  have HTW := Lib.hid (fun W' (k : Below wa.heap.size wa W') => stwice_no none N W' (NP.next k))
  have HDR := Lib.hid (fun W' (k : Below wa.heap.size wa W') => sdrop_no none N W' (NP.next k))
  have HFL := Lib.hid (fun W' (k : Below wa.heap.size wa W') => (sflight_no none W' (NP.next k)).mono (fun e w' h => (⟨h.1, by rw [← h.2]; exact Below.refl _ _⟩ : e = .returned (.slice none 0 0) ∧ Below W'.heap.size W' w')))
  have HAL := Lib.hid (fun W' (k : Below wa.heap.size wa W') => sall_no none W' (NP.next k))
  clear NP
  have t0 : q < wa.heap.size := by omega
  have t1 : q + 1 < wa.heap.size := by omega
  have t2 : q + 1 + 1 < wa.heap.size := by omega
  go_wp2_with fail
  refine wp_qall (by kernel_rfl) (by kernel_rfl) ?_
  intro hcg
  repeat (first | go_big_quiet_step ((with_reducible exact Calls.reg (HSD.out _ (below_regrown _ _ _)))) | quiet_step ((with_reducible exact Calls.reg (HSD.out _ (below_regrown _ _ _)))))
  refine wpQuiet_nil ?_
  intro wb0 hbwb0 hcwb0 hfwb0
  clear hcg
  have SB0 := Lib.hid (SN0.out.next hbwb0)
  have BB0 := Lib.hid hbwb0
  clear a1 a2 a3 r0 rf n0 l0 l1 lt hbwb0 hcwb0 hfwb0 HSD t0 t1 t2
  obtain ⟨lt, a1, a2, a3, r0, rf, n0, l0, l1⟩ := SB0.out
  go_upto_region 6 with (fail)
  go_cut [7, 8] from 35 to 44 (fun s7 s8 wc => ∃ kx, s7 = .pointer (some ⟨kx, 0, none⟩) ∧ s8 = .int .i64 1 ∧ Hid (Below wb0.heap.size wb0 wc) ∧ Hid (XNil wc kx))
  case first =>
    refine wp_onlyN ?_
    refine wp_heldall (S := fun X => Below wb0.heap.size wb0 X) 13 (by kernel_rfl) rfl (Below.drew (Below.refl _ _)) (fun hHeld => ?_)
    refine takeL (i := 0) (v := ?_) rfl (by kernel_rfl) (by kernel_rfl) (by kernel_rfl) (fun _ _ _ h => h) ⟨by rfl, ?_⟩ (by first | assumption | trivial) ?_
    rotate_left
    · intro W9 hSw
      (try dsimp only at hSw)
      obtain ⟨lt, a1, a2, a3, r0, rf, n0, l0, l1⟩ := SB0.out.next hSw
      go_simp
      try with_reducible rfl
    (try simp only [Act.put, List.setIfInBounds_toArray, List.set_cons_zero, List.set_cons_succ])
    refine takeL (i := 1) (v := ?_) rfl (by kernel_rfl) (by kernel_rfl) (by kernel_rfl) (fun _ _ _ h => h) ⟨by rfl, ?_⟩ (by first | assumption | trivial) ?_
    rotate_left
    · intro W9 hSw
      (try dsimp only at hSw)
      obtain ⟨lt, a1, a2, a3, r0, rf, n0, l0, l1⟩ := SB0.out.next hSw
      go_simp
      try with_reducible rfl
    (try simp only [Act.put, List.setIfInBounds_toArray, List.set_cons_zero, List.set_cons_succ])
    refine takeL (i := 2) (v := ?_) rfl (by kernel_rfl) (by kernel_rfl) (by kernel_rfl) (fun _ _ _ h => h) ⟨by rfl, ?_⟩ (by first | assumption | trivial) ?_
    rotate_left
    · intro W9 hSw
      (try dsimp only at hSw)
      obtain ⟨lt, a1, a2, a3, r0, rf, n0, l0, l1⟩ := SB0.out.next hSw
      go_simp
      try with_reducible rfl
    (try simp only [Act.put, List.setIfInBounds_toArray, List.set_cons_zero, List.set_cons_succ])
    refine takeL (i := 3) (v := ?_) rfl (by kernel_rfl) (by kernel_rfl) (by kernel_rfl) (fun _ _ _ h => h) ⟨by rfl, ?_⟩ (by first | assumption | trivial) ?_
    rotate_left
    · intro W9 hSw
      (try dsimp only at hSw)
      obtain ⟨lt, a1, a2, a3, r0, rf, n0, l0, l1⟩ := SB0.out.next hSw
      go_simp
      try with_reducible rfl
    (try simp only [Act.put, List.setIfInBounds_toArray, List.set_cons_zero, List.set_cons_succ])
    refine takeL (i := 4) (v := ?_) rfl (by kernel_rfl) (by kernel_rfl) (by kernel_rfl) (fun _ _ _ h => h) ⟨by rfl, ?_⟩ (by first | assumption | trivial) ?_
    rotate_left
    · intro W9 hSw
      (try dsimp only at hSw)
      obtain ⟨lt, a1, a2, a3, r0, rf, n0, l0, l1⟩ := SB0.out.next hSw
      go_simp
      try with_reducible rfl
    (try simp only [Act.put, List.setIfInBounds_toArray, List.set_cons_zero, List.set_cons_succ])
    refine takeL (i := 5) (v := ?_) rfl (by kernel_rfl) (by kernel_rfl) (by kernel_rfl) (fun _ _ _ h => h) ⟨by rfl, ?_⟩ (by first | assumption | trivial) ?_
    rotate_left
    · intro W9 hSw
      (try dsimp only at hSw)
      obtain ⟨lt, a1, a2, a3, r0, rf, n0, l0, l1⟩ := SB0.out.next hSw
      go_simp
      try with_reducible rfl
    (try simp only [Act.put, List.setIfInBounds_toArray, List.set_cons_zero, List.set_cons_succ])
    generalize wb0.drew = X at *
    refine wpAnyH_ready (rs := [6, 10]) (by kernel_rfl) (by simp) ?_
    refine consL rfl (by rfl) (fun K hK => ?_) ?_
    · go_simp
      go_at_call 37
      refine (HDL.out _ (BB0.out.trans (hHeld.mono BB0.out.size))).mono ?_
      rintro e w5 ⟨rfl, hb5⟩
      have h5 : Below wb0.heap.size wb0 w5 := hHeld.trans (hb5.mono hHeld.size)
      refine hK.out _ _ h5 (fun hS => ?_)
      clear hK K
      (try simp only [Act.put, List.setIfInBounds_toArray, List.set_cons_zero, List.set_cons_succ])
      refine takeL (i := 7) (v := ?_) rfl (by kernel_rfl) (by kernel_rfl) (by kernel_rfl) (fun _ _ _ h => h) ⟨by rfl, ?_⟩ (by first | assumption | trivial) ?_
      rotate_left
      · intro W9 hSw
        (try dsimp only at hSw)
        go_simp
        try with_reducible rfl
      (try simp only [Act.put, List.setIfInBounds_toArray, List.set_cons_zero, List.set_cons_succ])
      refine takeL (i := 8) (v := ?_) rfl (by kernel_rfl) (by kernel_rfl) (by kernel_rfl) (fun _ _ _ h => h) ⟨by rfl, ?_⟩ (by first | assumption | trivial) ?_
      rotate_left
      · intro W9 hSw
        (try dsimp only at hSw)
        go_simp
        try with_reducible rfl
      (try simp only [Act.put, List.setIfInBounds_toArray, List.set_cons_zero, List.set_cons_succ])
      refine takeL (i := 9) (v := ?_) rfl (by kernel_rfl) (by kernel_rfl) (by kernel_rfl) (fun _ _ _ h => h) ⟨by rfl, ?_⟩ (by first | assumption | trivial) ?_
      rotate_left
      · intro W9 hSw
        (try dsimp only at hSw)
        go_simp
        try with_reducible rfl
      (try simp only [Act.put, List.setIfInBounds_toArray, List.set_cons_zero, List.set_cons_succ])
      refine wpAnyH_ready (rs := [10]) (by kernel_rfl) (by simp) ?_
      refine consL rfl (by rfl) (fun K hK => ?_) ?_
      · go_simp
        have h6 : Below wb0.heap.size wb0 (w5.alloc (.cells #[.int .i64 0, .int .i64 0, .int .i64 0, .slice none 0 0] 51)) := h5.alloc h5.size _
        refine hK.out _ _ h6 (fun hS => ?_)
        clear hK K
        have hx0 := World.cell?_alloc_mark w5 #[.int .i64 0, .int .i64 0, .int .i64 0, .slice none 0 0] 51 (0, 0) 0
        have hx1 := World.cell?_alloc_mark w5 #[.int .i64 0, .int .i64 0, .int .i64 0, .slice none 0 0] 51 (0, 0) 1
        have hx2 := World.cell?_alloc_mark w5 #[.int .i64 0, .int .i64 0, .int .i64 0, .slice none 0 0] 51 (0, 0) 2
        have hx3 := World.cell?_alloc_mark w5 #[.int .i64 0, .int .i64 0, .int .i64 0, .slice none 0 0] 51 (0, 0) 3
        have hfx := fun o => World.frozen?_alloc_at (w := w5) #[.int .i64 0, .int .i64 0, .int .i64 0, .slice none 0 0] 51 w5.heap.size o rfl
        have hlx : w5.heap.size < (w5.alloc (.cells #[.int .i64 0, .int .i64 0, .int .i64 0, .slice none 0 0] 51)).heap.size := by simp
        have hkx : wb0.heap.size ≤ w5.heap.size := h5.size
        generalize w5.alloc (.cells #[.int .i64 0, .int .i64 0, .int .i64 0, .slice none 0 0] 51) = w6 at *
        generalize w5.heap.size = kx at *
        simp only [List.getElem?_toArray, List.getElem?_cons_zero, List.getElem?_cons_succ] at hx0 hx1 hx2 hx3
        (try simp only [Act.put, List.setIfInBounds_toArray, List.set_cons_zero, List.set_cons_succ])
        refine wpAnyH_ready (rs := [11]) (by kernel_rfl) (by simp) ?_
        refine consL rfl (by rfl) (fun K hK => ?_) ?_
        · go_simp
          have hS2 : Below wb0.heap.size wb0 (set4 w6 kx) := bel_set4 h6 hkx
          refine hK.out _ _ hS2 (fun _ => ?_)
          have X2 : Hid (XNil (set4 w6 kx) kx) := Lib.hid (xnil_set4 hlx hx0 hx3)
          have B2 := Lib.hid hS2
          clear hK K hS2 hx0 hx3
          change wpAnyH _ _ _ _ _ _ _ _ (set4 w6 kx)
          generalize set4 w6 kx = w9 at *
          (try simp only [Act.put, List.setIfInBounds_toArray, List.set_cons_zero, List.set_cons_succ])
          refine takeL (i := 12) (v := ?_) rfl (by kernel_rfl) (by kernel_rfl) (by kernel_rfl) (fun _ _ _ h => h) ⟨by rfl, ?_⟩ (by first | assumption | trivial) ?_
          rotate_left
          · intro W9 hSw
            (try dsimp only at hSw)
            go_simp
            try with_reducible rfl
          (try simp only [Act.put, List.setIfInBounds_toArray, List.set_cons_zero, List.set_cons_succ])
          refine wpAnyH_done (by kernel_rfl) ?_ _
          simp only [onlyN]
          apply_assumption
          go_meet
          case rel => exact ⟨_, rfl, rfl, B2, X2⟩
        exact AllReadyH.nil
      exact AllReadyH.nil
    refine consL rfl (by rfl) (fun K hK => ?_) ?_
    · go_simp
      have h4 : Below wb0.heap.size wb0 (X.alloc (.cells #[.int .i64 0, .int .i64 0, .int .i64 0, .slice none 0 0] 51)) := hHeld.alloc hHeld.size _
      refine hK.out _ _ h4 (fun hS => ?_)
      clear hK K
      have hx0 := World.cell?_alloc_mark X #[.int .i64 0, .int .i64 0, .int .i64 0, .slice none 0 0] 51 (0, 0) 0
      have hx1 := World.cell?_alloc_mark X #[.int .i64 0, .int .i64 0, .int .i64 0, .slice none 0 0] 51 (0, 0) 1
      have hx2 := World.cell?_alloc_mark X #[.int .i64 0, .int .i64 0, .int .i64 0, .slice none 0 0] 51 (0, 0) 2
      have hx3 := World.cell?_alloc_mark X #[.int .i64 0, .int .i64 0, .int .i64 0, .slice none 0 0] 51 (0, 0) 3
      have hfx := fun o => World.frozen?_alloc_at (w := X) #[.int .i64 0, .int .i64 0, .int .i64 0, .slice none 0 0] 51 X.heap.size o rfl
      have hlx : X.heap.size < (X.alloc (.cells #[.int .i64 0, .int .i64 0, .int .i64 0, .slice none 0 0] 51)).heap.size := by simp
      have hkx : wb0.heap.size ≤ X.heap.size := hHeld.size
      generalize X.alloc (.cells #[.int .i64 0, .int .i64 0, .int .i64 0, .slice none 0 0] 51) = w4 at *
      generalize X.heap.size = kx at *
      simp only [List.getElem?_toArray, List.getElem?_cons_zero, List.getElem?_cons_succ] at hx0 hx1 hx2 hx3
      (try simp only [Act.put, List.setIfInBounds_toArray, List.set_cons_zero, List.set_cons_succ])
      refine wpAnyH_ready (rs := [6]) (by kernel_rfl) (by simp) ?_
      refine consL rfl (by rfl) (fun K hK => ?_) ?_
      · go_simp
        go_at_call 37
        refine (HDL.out _ (BB0.out.trans (h4.mono BB0.out.size))).mono ?_
        rintro e w5 ⟨rfl, hb5⟩
        have h5 : Below wb0.heap.size wb0 w5 := h4.trans (hb5.mono h4.size)
        refine hK.out _ _ h5 (fun hS => ?_)
        clear hK K
        replace hx0 := (hb5.cell (p := ⟨kx, 0, none⟩) hlx).trans hx0
        replace hx1 := (hb5.cell (p := ⟨kx, 1, none⟩) hlx).trans hx1
        replace hx2 := (hb5.cell (p := ⟨kx, 2, none⟩) hlx).trans hx2
        replace hx3 := (hb5.cell (p := ⟨kx, 3, none⟩) hlx).trans hx3
        replace hfx := fun o => (hb5.frozen (p := ⟨kx, o, none⟩) hlx).trans (hfx o)
        replace hlx : kx < w5.heap.size := Nat.lt_of_lt_of_le hlx hb5.size
        clear hb5 h4
        (try simp only [Act.put, List.setIfInBounds_toArray, List.set_cons_zero, List.set_cons_succ])
        refine takeL (i := 7) (v := ?_) rfl (by kernel_rfl) (by kernel_rfl) (by kernel_rfl) (fun _ _ _ h => h) ⟨by rfl, ?_⟩ (by first | assumption | trivial) ?_
        rotate_left
        · intro W9 hSw
          (try dsimp only at hSw)
          go_simp
          try with_reducible rfl
        (try simp only [Act.put, List.setIfInBounds_toArray, List.set_cons_zero, List.set_cons_succ])
        refine takeL (i := 8) (v := ?_) rfl (by kernel_rfl) (by kernel_rfl) (by kernel_rfl) (fun _ _ _ h => h) ⟨by rfl, ?_⟩ (by first | assumption | trivial) ?_
        rotate_left
        · intro W9 hSw
          (try dsimp only at hSw)
          go_simp
          try with_reducible rfl
        (try simp only [Act.put, List.setIfInBounds_toArray, List.set_cons_zero, List.set_cons_succ])
        refine takeL (i := 9) (v := ?_) rfl (by kernel_rfl) (by kernel_rfl) (by kernel_rfl) (fun _ _ _ h => h) ⟨by rfl, ?_⟩ (by first | assumption | trivial) ?_
        rotate_left
        · intro W9 hSw
          (try dsimp only at hSw)
          go_simp
          try with_reducible rfl
        (try simp only [Act.put, List.setIfInBounds_toArray, List.set_cons_zero, List.set_cons_succ])
        refine wpAnyH_ready (rs := [11]) (by kernel_rfl) (by simp) ?_
        refine consL rfl (by rfl) (fun K hK => ?_) ?_
        · go_simp
          have hS2 : Below wb0.heap.size wb0 (set4 w5 kx) := bel_set4 h5 hkx
          refine hK.out _ _ hS2 (fun _ => ?_)
          have X2 : Hid (XNil (set4 w5 kx) kx) := Lib.hid (xnil_set4 hlx hx0 hx3)
          have B2 := Lib.hid hS2
          clear hK K hS2 hx0 hx3
          change wpAnyH _ _ _ _ _ _ _ _ (set4 w5 kx)
          generalize set4 w5 kx = w9 at *
          (try simp only [Act.put, List.setIfInBounds_toArray, List.set_cons_zero, List.set_cons_succ])
          refine takeL (i := 12) (v := ?_) rfl (by kernel_rfl) (by kernel_rfl) (by kernel_rfl) (fun _ _ _ h => h) ⟨by rfl, ?_⟩ (by first | assumption | trivial) ?_
          rotate_left
          · intro W9 hSw
            (try dsimp only at hSw)
            go_simp
            try with_reducible rfl
          (try simp only [Act.put, List.setIfInBounds_toArray, List.set_cons_zero, List.set_cons_succ])
          refine wpAnyH_done (by kernel_rfl) ?_ _
          simp only [onlyN]
          apply_assumption
          go_meet
          case rel => exact ⟨_, rfl, rfl, B2, X2⟩
        exact AllReadyH.nil
      exact AllReadyH.nil
    exact AllReadyH.nil
  case rest =>
    obtain ⟨kx, rfl, rfl, hbc, hxc⟩ := hcut
    have BC0 : Hid (Below wa.heap.size wa wc) := Lib.hid (BB0.out.trans (hbc.out.mono BB0.out.size))
    have SC0 := Lib.hid (SB0.out.next hbc.out)
    clear a1 a2 a3 r0 rf n0 l0 l1 lt hbc SB0 BB0
    obtain ⟨lt, a1, a2, a3, r0, rf, n0, l0, l1⟩ := SC0.out
    have t0 : q < wc.heap.size := by omega
    have t1 : q + 1 < wc.heap.size := by omega
    have t2 : q + 1 + 1 < wc.heap.size := by omega
    go_wp2_with fail
    refine wp_qall (by kernel_rfl) (by kernel_rfl) ?_
    intro hcg
    repeat (first | go_big_quiet_step ((with_reducible exact Calls.reg (HTW.out _ (BC0.out.trans ((below_regrown _ _ _).mono BC0.out.size))))) | quiet_step ((with_reducible exact Calls.reg (HTW.out _ (BC0.out.trans ((below_regrown _ _ _).mono BC0.out.size))))))
    refine wpQuiet_nil ?_
    intro wd hbwd hcwd hfwd
    clear hcg
    have BD0 : Hid (Below wa.heap.size wa wd) := Lib.hid (BC0.out.trans (hbwd.mono BC0.out.size))
    have SD0 := Lib.hid (SC0.out.next hbwd)
    have XD0 := Lib.hid (hxc.out.next hbwd)
    clear a1 a2 a3 r0 rf n0 l0 l1 lt hbwd hcwd hfwd SC0 BC0 hxc HTW t0 t1 t2 HDL
    obtain ⟨lt, a1, a2, a3, r0, rf, n0, l0, l1⟩ := SD0.out
    obtain ⟨x1, x2, x3⟩ := XD0.out
    have t0 : q < wd.heap.size := by omega
    have t1 : q + 1 < wd.heap.size := by omega
    have t2 : q + 1 + 1 < wd.heap.size := by omega
    go_wp2_with fail
    refine wp_qall (by kernel_rfl) (by kernel_rfl) ?_
    intro hcg
    repeat (first | go_big_quiet_step ((with_reducible (first | exact Calls.reg (HDR.out _ (BD0.out.trans ((below_regrown _ _ _).mono BD0.out.size))) | exact Calls.reg (HFL.out _ (BD0.out.trans ((below_regrown _ _ _).mono BD0.out.size)))))) | quiet_step ((with_reducible (first | exact Calls.reg (HDR.out _ (BD0.out.trans ((below_regrown _ _ _).mono BD0.out.size))) | exact Calls.reg (HFL.out _ (BD0.out.trans ((below_regrown _ _ _).mono BD0.out.size)))))))
    refine wpQuiet_nil ?_
    intro we hbwe hcwe hfwe
    clear hcg
    have BE0 : Hid (Below wa.heap.size wa we) := Lib.hid (BD0.out.trans (hbwe.mono BD0.out.size))
    have SE0 := Lib.hid (SD0.out.next hbwe)
    clear a1 a2 a3 r0 rf n0 l0 l1 lt hbwe hcwe hfwe SD0 BD0 XD0 HDR HFL t0 t1 t2 x1 x2 x3
    obtain ⟨lt, a1, a2, a3, r0, rf, n0, l0, l1⟩ := SE0.out
    go_wp2_with fail
    refine (HAL.out _ BE0.out).mono ?_
    rintro e wf ⟨Bx, rfl, hBx, hBl, hb⟩
    have BF0 : Hid (Below wa.heap.size wa wf) := Lib.hid (BE0.out.trans (hb.mono BE0.out.size))
    have SF0 := Lib.hid (SE0.out.next hb)
    have hfn := func_nil
    clear a1 a2 a3 r0 rf n0 l0 l1 lt hb HAL SE0 BE0
    go_wp2_with fail
    refine range_none (.tmp 110) Bx rfl (by simp) hBx hBl ?_
    intro wg hbg hdg
    have BG0 : Hid (Below wa.heap.size wa wg) := Lib.hid (BF0.out.trans (hbg.mono BF0.out.size))
    have SN1 := Lib.hid (SF0.out.next hbg)
    have HD1 : Hid (wg.heap[wf.heap.size]? = some (.deferred (some []))) := Lib.hid hdg
    have hD1 : wa.heap.size ≤ wf.heap.size := BF0.out.size
    clear hBx hBl hbg hdg hfn SF0 BF0
    generalize wf.heap.size = f1 at *
    go_wp2_with fail
    rw [rounds_succ]
    obtain ⟨lt, a1, a2, a3, r0, rf, n0, l0, l1⟩ := SN1.out
    have NP : NoNet wg (some ⟨q + 1 + 1, 0, none⟩) := .inr ⟨_, rfl, by omega, n0⟩
    have HSD := Lib.hid (fun W' (k : Below wg.heap.size wg W') => (ssend_no (some ⟨q + 1 + 1, 0, none⟩) M N (.slice A n c) W' (NP.next k)).mono (fun e w' h => (⟨h.1, by rw [← h.2]; exact Below.refl _ _⟩ : e = .returned (.tuple #[.int .i64 0, .int .i64 1]) ∧ Below W'.heap.size W' w')))
    have HDL := Lib.hid (fun W' (k : Below wg.heap.size wg W') => sdeliver_no (some ⟨q + 1 + 1, 0, none⟩) N W' (NP.next k))
    have HTW := Lib.hid (fun W' (k : Below wg.heap.size wg W') => stwice_no (some ⟨q + 1 + 1, 0, none⟩) N W' (NP.next k))
    have HDR := Lib.hid (fun W' (k : Below wg.heap.size wg W') => sdrop_no (some ⟨q + 1 + 1, 0, none⟩) N W' (NP.next k))
    have HFL := Lib.hid (fun W' (k : Below wg.heap.size wg W') => (sflight_no (some ⟨q + 1 + 1, 0, none⟩) W' (NP.next k)).mono (fun e w' h => (⟨h.1, by rw [← h.2]; exact Below.refl _ _⟩ : e = .returned (.slice none 0 0) ∧ Below W'.heap.size W' w')))
    have HAL := Lib.hid (fun W' (k : Below wg.heap.size wg W') => sall_no (some ⟨q + 1 + 1, 0, none⟩) W' (NP.next k))
    clear NP
    have t0 : q < wg.heap.size := by omega
    have t1 : q + 1 < wg.heap.size := by omega
    have t2 : q + 1 + 1 < wg.heap.size := by omega
    go_wp2_with fail
    refine wp_qall (by kernel_rfl) (by kernel_rfl) ?_
    intro hcg
    repeat (first | go_big_quiet_step ((with_reducible exact Calls.reg (HSD.out _ (below_regrown _ _ _)))) | quiet_step ((with_reducible exact Calls.reg (HSD.out _ (below_regrown _ _ _)))))
    refine wpQuiet_nil ?_
    intro wb1 hbwb1 hcwb1 hfwb1
    clear hcg
    have SB1 := Lib.hid (SN1.out.next hbwb1)
    have BB1 := Lib.hid hbwb1
    clear a1 a2 a3 r0 rf n0 l0 l1 lt hbwb1 hcwb1 hfwb1 HSD t0 t1 t2
    obtain ⟨lt, a1, a2, a3, r0, rf, n0, l0, l1⟩ := SB1.out
    go_upto_region 6 with (fail)
    go_cut [7, 8] from 35 to 44 (fun s7 s8 wc => ∃ kx, s7 = .pointer (some ⟨kx, 0, none⟩) ∧ s8 = .int .i64 1 ∧ Hid (Below wb1.heap.size wb1 wc) ∧ Hid (XNil wc kx))
    case first =>
      refine wp_onlyN ?_
      refine wp_heldall (S := fun X => Below wb1.heap.size wb1 X) 13 (by kernel_rfl) rfl (Below.drew (Below.refl _ _)) (fun hHeld => ?_)
      refine takeL (i := 0) (v := ?_) rfl (by kernel_rfl) (by kernel_rfl) (by kernel_rfl) (fun _ _ _ h => h) ⟨by rfl, ?_⟩ (by first | assumption | trivial) ?_
      rotate_left
      · intro W9 hSw
        (try dsimp only at hSw)
        obtain ⟨lt, a1, a2, a3, r0, rf, n0, l0, l1⟩ := SB1.out.next hSw
        go_simp
        try with_reducible rfl
      (try simp only [Act.put, List.setIfInBounds_toArray, List.set_cons_zero, List.set_cons_succ])
      refine takeL (i := 1) (v := ?_) rfl (by kernel_rfl) (by kernel_rfl) (by kernel_rfl) (fun _ _ _ h => h) ⟨by rfl, ?_⟩ (by first | assumption | trivial) ?_
      rotate_left
      · intro W9 hSw
        (try dsimp only at hSw)
        obtain ⟨lt, a1, a2, a3, r0, rf, n0, l0, l1⟩ := SB1.out.next hSw
        go_simp
        try with_reducible rfl
      (try simp only [Act.put, List.setIfInBounds_toArray, List.set_cons_zero, List.set_cons_succ])
      refine takeL (i := 2) (v := ?_) rfl (by kernel_rfl) (by kernel_rfl) (by kernel_rfl) (fun _ _ _ h => h) ⟨by rfl, ?_⟩ (by first | assumption | trivial) ?_
      rotate_left
      · intro W9 hSw
        (try dsimp only at hSw)
        obtain ⟨lt, a1, a2, a3, r0, rf, n0, l0, l1⟩ := SB1.out.next hSw
        go_simp
        try with_reducible rfl
      (try simp only [Act.put, List.setIfInBounds_toArray, List.set_cons_zero, List.set_cons_succ])
      refine takeL (i := 3) (v := ?_) rfl (by kernel_rfl) (by kernel_rfl) (by kernel_rfl) (fun _ _ _ h => h) ⟨by rfl, ?_⟩ (by first | assumption | trivial) ?_
      rotate_left
      · intro W9 hSw
        (try dsimp only at hSw)
        obtain ⟨lt, a1, a2, a3, r0, rf, n0, l0, l1⟩ := SB1.out.next hSw
        go_simp
        try with_reducible rfl
      (try simp only [Act.put, List.setIfInBounds_toArray, List.set_cons_zero, List.set_cons_succ])
      refine takeL (i := 4) (v := ?_) rfl (by kernel_rfl) (by kernel_rfl) (by kernel_rfl) (fun _ _ _ h => h) ⟨by rfl, ?_⟩ (by first | assumption | trivial) ?_
      rotate_left
      · intro W9 hSw
        (try dsimp only at hSw)
        obtain ⟨lt, a1, a2, a3, r0, rf, n0, l0, l1⟩ := SB1.out.next hSw
        go_simp
        try with_reducible rfl
      (try simp only [Act.put, List.setIfInBounds_toArray, List.set_cons_zero, List.set_cons_succ])
      refine takeL (i := 5) (v := ?_) rfl (by kernel_rfl) (by kernel_rfl) (by kernel_rfl) (fun _ _ _ h => h) ⟨by rfl, ?_⟩ (by first | assumption | trivial) ?_
      rotate_left
      · intro W9 hSw
        (try dsimp only at hSw)
        obtain ⟨lt, a1, a2, a3, r0, rf, n0, l0, l1⟩ := SB1.out.next hSw
        go_simp
        try with_reducible rfl
      (try simp only [Act.put, List.setIfInBounds_toArray, List.set_cons_zero, List.set_cons_succ])
      generalize wb1.drew = X at *
      refine wpAnyH_ready (rs := [6, 10]) (by kernel_rfl) (by simp) ?_
      refine consL rfl (by rfl) (fun K hK => ?_) ?_
      · go_simp
        go_at_call 37
        refine (HDL.out _ (BB1.out.trans (hHeld.mono BB1.out.size))).mono ?_
        rintro e w5 ⟨rfl, hb5⟩
        have h5 : Below wb1.heap.size wb1 w5 := hHeld.trans (hb5.mono hHeld.size)
        refine hK.out _ _ h5 (fun hS => ?_)
        clear hK K
        (try simp only [Act.put, List.setIfInBounds_toArray, List.set_cons_zero, List.set_cons_succ])
        refine takeL (i := 7) (v := ?_) rfl (by kernel_rfl) (by kernel_rfl) (by kernel_rfl) (fun _ _ _ h => h) ⟨by rfl, ?_⟩ (by first | assumption | trivial) ?_
        rotate_left
        · intro W9 hSw
          (try dsimp only at hSw)
          go_simp
          try with_reducible rfl
        (try simp only [Act.put, List.setIfInBounds_toArray, List.set_cons_zero, List.set_cons_succ])
        refine takeL (i := 8) (v := ?_) rfl (by kernel_rfl) (by kernel_rfl) (by kernel_rfl) (fun _ _ _ h => h) ⟨by rfl, ?_⟩ (by first | assumption | trivial) ?_
        rotate_left
        · intro W9 hSw
          (try dsimp only at hSw)
          go_simp
          try with_reducible rfl
        (try simp only [Act.put, List.setIfInBounds_toArray, List.set_cons_zero, List.set_cons_succ])
        refine takeL (i := 9) (v := ?_) rfl (by kernel_rfl) (by kernel_rfl) (by kernel_rfl) (fun _ _ _ h => h) ⟨by rfl, ?_⟩ (by first | assumption | trivial) ?_
        rotate_left
        · intro W9 hSw
          (try dsimp only at hSw)
          go_simp
          try with_reducible rfl
        (try simp only [Act.put, List.setIfInBounds_toArray, List.set_cons_zero, List.set_cons_succ])
        refine wpAnyH_ready (rs := [10]) (by kernel_rfl) (by simp) ?_
        refine consL rfl (by rfl) (fun K hK => ?_) ?_
        · go_simp
          have h6 : Below wb1.heap.size wb1 (w5.alloc (.cells #[.int .i64 0, .int .i64 0, .int .i64 0, .slice none 0 0] 51)) := h5.alloc h5.size _
          refine hK.out _ _ h6 (fun hS => ?_)
          clear hK K
          have hx0 := World.cell?_alloc_mark w5 #[.int .i64 0, .int .i64 0, .int .i64 0, .slice none 0 0] 51 (0, 0) 0
          have hx1 := World.cell?_alloc_mark w5 #[.int .i64 0, .int .i64 0, .int .i64 0, .slice none 0 0] 51 (0, 0) 1
          have hx2 := World.cell?_alloc_mark w5 #[.int .i64 0, .int .i64 0, .int .i64 0, .slice none 0 0] 51 (0, 0) 2
          have hx3 := World.cell?_alloc_mark w5 #[.int .i64 0, .int .i64 0, .int .i64 0, .slice none 0 0] 51 (0, 0) 3
          have hfx := fun o => World.frozen?_alloc_at (w := w5) #[.int .i64 0, .int .i64 0, .int .i64 0, .slice none 0 0] 51 w5.heap.size o rfl
          have hlx : w5.heap.size < (w5.alloc (.cells #[.int .i64 0, .int .i64 0, .int .i64 0, .slice none 0 0] 51)).heap.size := by simp
          have hkx : wb1.heap.size ≤ w5.heap.size := h5.size
          generalize w5.alloc (.cells #[.int .i64 0, .int .i64 0, .int .i64 0, .slice none 0 0] 51) = w6 at *
          generalize w5.heap.size = kx at *
          simp only [List.getElem?_toArray, List.getElem?_cons_zero, List.getElem?_cons_succ] at hx0 hx1 hx2 hx3
          (try simp only [Act.put, List.setIfInBounds_toArray, List.set_cons_zero, List.set_cons_succ])
          refine wpAnyH_ready (rs := [11]) (by kernel_rfl) (by simp) ?_
          refine consL rfl (by rfl) (fun K hK => ?_) ?_
          · go_simp
            have hS2 : Below wb1.heap.size wb1 (set4 w6 kx) := bel_set4 h6 hkx
            refine hK.out _ _ hS2 (fun _ => ?_)
            have X2 : Hid (XNil (set4 w6 kx) kx) := Lib.hid (xnil_set4 hlx hx0 hx3)
            have B2 := Lib.hid hS2
            clear hK K hS2 hx0 hx3
            change wpAnyH _ _ _ _ _ _ _ _ (set4 w6 kx)
            generalize set4 w6 kx = w9 at *
            (try simp only [Act.put, List.setIfInBounds_toArray, List.set_cons_zero, List.set_cons_succ])
            refine takeL (i := 12) (v := ?_) rfl (by kernel_rfl) (by kernel_rfl) (by kernel_rfl) (fun _ _ _ h => h) ⟨by rfl, ?_⟩ (by first | assumption | trivial) ?_
            rotate_left
            · intro W9 hSw
              (try dsimp only at hSw)
              go_simp
              try with_reducible rfl
            (try simp only [Act.put, List.setIfInBounds_toArray, List.set_cons_zero, List.set_cons_succ])
            refine wpAnyH_done (by kernel_rfl) ?_ _
            simp only [onlyN]
            apply_assumption
            go_meet
            case rel => exact ⟨_, rfl, rfl, B2, X2⟩
          exact AllReadyH.nil
        exact AllReadyH.nil
      refine consL rfl (by rfl) (fun K hK => ?_) ?_
      · go_simp
        have h4 : Below wb1.heap.size wb1 (X.alloc (.cells #[.int .i64 0, .int .i64 0, .int .i64 0, .slice none 0 0] 51)) := hHeld.alloc hHeld.size _
        refine hK.out _ _ h4 (fun hS => ?_)
        clear hK K
        have hx0 := World.cell?_alloc_mark X #[.int .i64 0, .int .i64 0, .int .i64 0, .slice none 0 0] 51 (0, 0) 0
        have hx1 := World.cell?_alloc_mark X #[.int .i64 0, .int .i64 0, .int .i64 0, .slice none 0 0] 51 (0, 0) 1
        have hx2 := World.cell?_alloc_mark X #[.int .i64 0, .int .i64 0, .int .i64 0, .slice none 0 0] 51 (0, 0) 2
        have hx3 := World.cell?_alloc_mark X #[.int .i64 0, .int .i64 0, .int .i64 0, .slice none 0 0] 51 (0, 0) 3
        have hfx := fun o => World.frozen?_alloc_at (w := X) #[.int .i64 0, .int .i64 0, .int .i64 0, .slice none 0 0] 51 X.heap.size o rfl
        have hlx : X.heap.size < (X.alloc (.cells #[.int .i64 0, .int .i64 0, .int .i64 0, .slice none 0 0] 51)).heap.size := by simp
        have hkx : wb1.heap.size ≤ X.heap.size := hHeld.size
        generalize X.alloc (.cells #[.int .i64 0, .int .i64 0, .int .i64 0, .slice none 0 0] 51) = w4 at *
        generalize X.heap.size = kx at *
        simp only [List.getElem?_toArray, List.getElem?_cons_zero, List.getElem?_cons_succ] at hx0 hx1 hx2 hx3
        (try simp only [Act.put, List.setIfInBounds_toArray, List.set_cons_zero, List.set_cons_succ])
        refine wpAnyH_ready (rs := [6]) (by kernel_rfl) (by simp) ?_
        refine consL rfl (by rfl) (fun K hK => ?_) ?_
        · go_simp
          go_at_call 37
          refine (HDL.out _ (BB1.out.trans (h4.mono BB1.out.size))).mono ?_
          rintro e w5 ⟨rfl, hb5⟩
          have h5 : Below wb1.heap.size wb1 w5 := h4.trans (hb5.mono h4.size)
          refine hK.out _ _ h5 (fun hS => ?_)
          clear hK K
          replace hx0 := (hb5.cell (p := ⟨kx, 0, none⟩) hlx).trans hx0
          replace hx1 := (hb5.cell (p := ⟨kx, 1, none⟩) hlx).trans hx1
          replace hx2 := (hb5.cell (p := ⟨kx, 2, none⟩) hlx).trans hx2
          replace hx3 := (hb5.cell (p := ⟨kx, 3, none⟩) hlx).trans hx3
          replace hfx := fun o => (hb5.frozen (p := ⟨kx, o, none⟩) hlx).trans (hfx o)
          replace hlx : kx < w5.heap.size := Nat.lt_of_lt_of_le hlx hb5.size
          clear hb5 h4
          (try simp only [Act.put, List.setIfInBounds_toArray, List.set_cons_zero, List.set_cons_succ])
          refine takeL (i := 7) (v := ?_) rfl (by kernel_rfl) (by kernel_rfl) (by kernel_rfl) (fun _ _ _ h => h) ⟨by rfl, ?_⟩ (by first | assumption | trivial) ?_
          rotate_left
          · intro W9 hSw
            (try dsimp only at hSw)
            go_simp
            try with_reducible rfl
          (try simp only [Act.put, List.setIfInBounds_toArray, List.set_cons_zero, List.set_cons_succ])
          refine takeL (i := 8) (v := ?_) rfl (by kernel_rfl) (by kernel_rfl) (by kernel_rfl) (fun _ _ _ h => h) ⟨by rfl, ?_⟩ (by first | assumption | trivial) ?_
          rotate_left
          · intro W9 hSw
            (try dsimp only at hSw)
            go_simp
            try with_reducible rfl
          (try simp only [Act.put, List.setIfInBounds_toArray, List.set_cons_zero, List.set_cons_succ])
          refine takeL (i := 9) (v := ?_) rfl (by kernel_rfl) (by kernel_rfl) (by kernel_rfl) (fun _ _ _ h => h) ⟨by rfl, ?_⟩ (by first | assumption | trivial) ?_
          rotate_left
          · intro W9 hSw
            (try dsimp only at hSw)
            go_simp
            try with_reducible rfl
          (try simp only [Act.put, List.setIfInBounds_toArray, List.set_cons_zero, List.set_cons_succ])
          refine wpAnyH_ready (rs := [11]) (by kernel_rfl) (by simp) ?_
          refine consL rfl (by rfl) (fun K hK => ?_) ?_
          · go_simp
            have hS2 : Below wb1.heap.size wb1 (set4 w5 kx) := bel_set4 h5 hkx
            refine hK.out _ _ hS2 (fun _ => ?_)
            have X2 : Hid (XNil (set4 w5 kx) kx) := Lib.hid (xnil_set4 hlx hx0 hx3)
            have B2 := Lib.hid hS2
            clear hK K hS2 hx0 hx3
            change wpAnyH _ _ _ _ _ _ _ _ (set4 w5 kx)
            generalize set4 w5 kx = w9 at *
            (try simp only [Act.put, List.setIfInBounds_toArray, List.set_cons_zero, List.set_cons_succ])
            refine takeL (i := 12) (v := ?_) rfl (by kernel_rfl) (by kernel_rfl) (by kernel_rfl) (fun _ _ _ h => h) ⟨by rfl, ?_⟩ (by first | assumption | trivial) ?_
            rotate_left
            · intro W9 hSw
              (try dsimp only at hSw)
              go_simp
              try with_reducible rfl
            (try simp only [Act.put, List.setIfInBounds_toArray, List.set_cons_zero, List.set_cons_succ])
            refine wpAnyH_done (by kernel_rfl) ?_ _
            simp only [onlyN]
            apply_assumption
            go_meet
            case rel => exact ⟨_, rfl, rfl, B2, X2⟩
          exact AllReadyH.nil
        exact AllReadyH.nil
      exact AllReadyH.nil
    case rest =>
      obtain ⟨kx, rfl, rfl, hbc, hxc⟩ := hcut
      have BC1 : Hid (Below wg.heap.size wg wc) := Lib.hid (BB1.out.trans (hbc.out.mono BB1.out.size))
      have SC1 := Lib.hid (SB1.out.next hbc.out)
      clear a1 a2 a3 r0 rf n0 l0 l1 lt hbc SB1 BB1
      obtain ⟨lt, a1, a2, a3, r0, rf, n0, l0, l1⟩ := SC1.out
      have t0 : q < wc.heap.size := by omega
      have t1 : q + 1 < wc.heap.size := by omega
      have t2 : q + 1 + 1 < wc.heap.size := by omega
      go_wp2_with fail
      refine wp_qall (by kernel_rfl) (by kernel_rfl) ?_
      intro hcg
      repeat (first | go_big_quiet_step ((with_reducible exact Calls.reg (HTW.out _ (BC1.out.trans ((below_regrown _ _ _).mono BC1.out.size))))) | quiet_step ((with_reducible exact Calls.reg (HTW.out _ (BC1.out.trans ((below_regrown _ _ _).mono BC1.out.size))))))
      refine wpQuiet_nil ?_
      intro wd hbwd hcwd hfwd
      clear hcg
      have BD1 : Hid (Below wg.heap.size wg wd) := Lib.hid (BC1.out.trans (hbwd.mono BC1.out.size))
      have SD1 := Lib.hid (SC1.out.next hbwd)
      have XD1 := Lib.hid (hxc.out.next hbwd)
      clear a1 a2 a3 r0 rf n0 l0 l1 lt hbwd hcwd hfwd SC1 BC1 hxc HTW t0 t1 t2 HDL
      obtain ⟨lt, a1, a2, a3, r0, rf, n0, l0, l1⟩ := SD1.out
      obtain ⟨x1, x2, x3⟩ := XD1.out
      have t0 : q < wd.heap.size := by omega
      have t1 : q + 1 < wd.heap.size := by omega
      have t2 : q + 1 + 1 < wd.heap.size := by omega
      go_wp2_with fail
      refine wp_qall (by kernel_rfl) (by kernel_rfl) ?_
      intro hcg
      repeat (first | go_big_quiet_step ((with_reducible (first | exact Calls.reg (HDR.out _ (BD1.out.trans ((below_regrown _ _ _).mono BD1.out.size))) | exact Calls.reg (HFL.out _ (BD1.out.trans ((below_regrown _ _ _).mono BD1.out.size)))))) | quiet_step ((with_reducible (first | exact Calls.reg (HDR.out _ (BD1.out.trans ((below_regrown _ _ _).mono BD1.out.size))) | exact Calls.reg (HFL.out _ (BD1.out.trans ((below_regrown _ _ _).mono BD1.out.size)))))))
      refine wpQuiet_nil ?_
      intro we hbwe hcwe hfwe
      clear hcg
      have BE1 : Hid (Below wg.heap.size wg we) := Lib.hid (BD1.out.trans (hbwe.mono BD1.out.size))
      have SE1 := Lib.hid (SD1.out.next hbwe)
      clear a1 a2 a3 r0 rf n0 l0 l1 lt hbwe hcwe hfwe SD1 BD1 XD1 HDR HFL t0 t1 t2 x1 x2 x3
      obtain ⟨lt, a1, a2, a3, r0, rf, n0, l0, l1⟩ := SE1.out
      go_wp2_with fail
      refine (HAL.out _ BE1.out).mono ?_
      rintro e wf ⟨Bx, rfl, hBx, hBl, hb⟩
      have BF1 : Hid (Below wg.heap.size wg wf) := Lib.hid (BE1.out.trans (hb.mono BE1.out.size))
      have SF1 := Lib.hid (SE1.out.next hb)
      have hfn := func_nil
      clear a1 a2 a3 r0 rf n0 l0 l1 lt hb HAL SE1 BE1
      go_wp2_with fail
      refine range_none (.tmp 110) Bx rfl (by simp) hBx hBl ?_
      intro wh hbg hdg
      have BG1 : Hid (Below wg.heap.size wg wh) := Lib.hid (BF1.out.trans (hbg.mono BF1.out.size))
      have SN2 := Lib.hid (SF1.out.next hbg)
      have HD2 : Hid (wh.heap[wf.heap.size]? = some (.deferred (some []))) := Lib.hid hdg
      have hD2 : wg.heap.size ≤ wf.heap.size := BF1.out.size
      clear hBx hBl hbg hdg hfn SF1 BF1
      generalize wf.heap.size = f2 at *
      go_wp2_with fail

      rw [rounds_succ]
      go_wp2_with fail
      refine (lives25_any _).mono ?_
      rintro e wk ⟨rfl, hb⟩
      have SK := Lib.hid (SN2.out.next hb)
      have l1 : f1 < wg.heap.size := (Array.getElem?_eq_some_iff.1 HD1.out).1
      have l2 : f2 < wh.heap.size := (Array.getElem?_eq_some_iff.1 HD2.out).1
      have E2 : wk.heap[f2]? = some (.deferred (some [])) := (hb.block f2 l2).trans HD2.out
      have E1 : wk.heap[f1]? = some (.deferred (some [])) := ((hb.block f1 (Nat.lt_of_lt_of_le l1 BG1.out.size)).trans (BG1.out.block f1 l1)).trans HD1.out
      have hBK : Below q w wk := ((BA.out.trans (BG0.out.mono (by have := BA.out.size; omega))).trans (BG1.out.mono (by have := BG0.out.size; have := BA.out.size; omega))).trans (hb.mono (by have := BG1.out.size; have := BG0.out.size; have := BA.out.size; omega))
      have BK := Lib.hid hBK
      have HE1 := Lib.hid E1
      have HE2 := Lib.hid E2
      have hqa : q + 1 < wa.heap.size := by have := SN0.out.lt; omega
      have hgs : wa.heap.size ≤ wg.heap.size := BG0.out.size
      have d1 : f1 ≠ q + 1 := by omega
      have d2 : f2 ≠ q + 1 := by omega
      clear hb E1 E2 hBK
      have k1 := SK.out.lt
      have k2 := SK.out.r0
      have k3 := SK.out.rf
      go_wp2_with fail
      have m2 : (wk.setCell ⟨q + 1, 0, none⟩ (.bool true)).heap[f2]? = some (.deferred (some [])) := (Below.heap_setCell _ _ _ _ (by simpa using d2)).trans HE2.out
      have m1 : (wk.setCell ⟨q + 1, 0, none⟩ (.bool true)).heap[f1]? = some (.deferred (some [])) := (Below.heap_setCell _ _ _ _ (by simpa using d1)).trans HE1.out
      have d12 : f1 ≠ f2 := by omega
      refine ⟨by simp, .inl ⟨_, _, rfl, run_takeDeferred m2, ?_⟩⟩
      refine ⟨by simp, .inl ⟨_, _, rfl, run_takeDeferred ((World.putObj_heap_other d12).trans m1), ?_⟩⟩
      refine leave12 rfl ?_ ⟨rfl, ?_⟩
      · exact (World.cell?_of_block (a := ⟨q + 1, 0, none⟩) ((World.putObj_heap_other (by show q + 1 ≠ _; omega)).trans (World.putObj_heap_other (by show q + 1 ≠ _; omega)))).trans (World.cell?_setCell_same _ _ _ k2)
      · rw [hq]
        exact ((BK.out.setCell (p := ⟨q + 1, 0, none⟩) (by simp) _).trans (putObj_belowB (l := f2) _ (by omega))).trans (putObj_belowB (l := f1) _ (by omega))
end Go.Proofs.Ytlpdihcgdgkkbaa
