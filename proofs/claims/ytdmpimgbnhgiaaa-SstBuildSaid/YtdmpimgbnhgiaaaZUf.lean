/- Walk: a table is built. -/
import Derived.Test.YtdmpimgbnhgiaaaZEa
import Derived.Test.YtdmpimgbnhgiaaaZEn
import Derived.Test.YtdmpimgbnhgiaaaZUc

namespace Go.Proofs.Ytdmpimgbnhgiaaa
open Go.RowKit Go.St Go.Shelf Go.Maps
set_option linter.unusedVariables false
set_option linter.unusedSimpArgs false
set_option maxRecDepth 100000
attribute [local go_sem] Oper.semAt_some

theorem encode_no (A : Option Addr) (n c : Nat) (l : List Ent) (hl : l.length = n) (hn : n ≤ 1000000) (hk : ∀ x ∈ l, x.key.size ≤ maxLen) (h0 : chkL l ≠ 0) (B : Nat) (w : World) (hr : Rd w B A (env l)) (hB : B ≤ w.heap.size) :
    Calls Try.prog 34 #[.slice A n c] w fun e w' => e = .returned (.tuple #[.slice none 0 0, .int .i64 (chkL l)]) ∧ Below w.heap.size w w' := by
  have HCK := Lib.hid (fun W h k => check7_any A n c l hl hn hk B W h k)
  have HR := Lib.hid hr
  have e1 : (chkL l != 0) = true := by simpa using h0
  clear hr hk h0
  go_enter Try.func34, Try.ntmps34
  go_wp2_with fail
  refine (HCK.out w HR.out hB).mono ?_
  rintro e w1 ⟨rfl, hb⟩
  have B1 := Lib.hid hb
  clear hb HR HCK
  go_wp2_with fail
  go_ret2
  exact ⟨rfl, B1.out⟩
theorem encL_pos {l : List Ent} (h : chkL l = 0) : 0 < (encL l).length := by
  unfold encL encB
  rw [if_pos h, List.length_append]
  have := uv_pos l.length
  omega
theorem leave_build {n : Nat} {W : World} {tmps : Array Value} {R : Ending → World → Prop} {q : Nat} {A : Option Addr} {k c : Nat} {e : Int} (h6 : tmps.getD 6 undef = .pointer (some ⟨q, 0, none⟩)) (h7 : tmps.getD 7 undef = .pointer (some ⟨q + 1, 0, none⟩))
    (c6 : W.cell? ⟨q, 0, none⟩ = some (.slice A k c)) (c7 : W.cell? ⟨q + 1, 0, none⟩ = some (.int .i64 e)) (hR : R (.returned (.tuple #[.slice A k c, .int .i64 e])) W) :
    LeavesInM Fence.wide n Try.prog Try.f11 tmps R [] .returning W := by
  refine ⟨.tuple #[.slice A k c, .int .i64 e], ?_, hR⟩
  have g6 : tmps[6]?.getD undef = .pointer (some ⟨q, 0, none⟩) := by simpa using h6
  have g7 : tmps[7]?.getD undef = .pointer (some ⟨q + 1, 0, none⟩) := by simpa using h7
  simp [results, Try.results11, go_sem, g6, g7, c6, c7]
set_option maxHeartbeats 3200000 in
theorem build_arg (A : Option Addr) (n c : Nat) (per bits : Int) (h : per < 1 ∨ 64 < per ∨ bits < 1 ∨ 16 < bits ∨ n = 0) (w : World) :
    Calls Try.prog 11 #[.slice A n c, .int .i64 per, .int .i64 bits] w fun e w' => e = .returned (.tuple #[.slice none 0 0, .int .i64 2]) ∧ Below w.heap.size w w' := by
  by_cases h1 : per < 1
  · have e1 : decide (per < 1) = true := decide_eq_true h1
    clear h
    refine (callsIn_wide (n := 8)).1 ?_
    refine callsIn_of_wp_marks Try.func11 rfl trivial ?_ rfl
    simp only [Try.ntmps11, List.size_toArray, List.length_cons, List.length_nil, Nat.reduceAdd, Nat.reduceSub, Array.replicate_succ, Array.replicate_zero, List.push_toArray, List.append_toArray, List.nil_append, List.cons_append]
    refine wpIn_wide.2 ?_
    go_wp2_with fail
    have X1 := (BxV.new w #[.slice none 0 0] 26).alloc (.cells #[.int .i64 2] 27)
    have X2 := BxV.new (w.alloc (.cells #[.slice none 0 0] 26)) #[.int .i64 2] 27
    rw [World.size_alloc] at X2
    exact leave_build rfl rfl (X1.c 0 _ rfl) (X2.c 0 _ rfl) ⟨rfl, ((Below.refl _ _).alloc (Nat.le_refl _) _).alloc (by simp) _⟩
  have e1 : decide (per < 1) = false := decide_eq_false h1
  by_cases h2 : 64 < per
  · have e2 : decide (64 < per) = true := decide_eq_true h2
    clear h
    refine (callsIn_wide (n := 8)).1 ?_
    refine callsIn_of_wp_marks Try.func11 rfl trivial ?_ rfl
    simp only [Try.ntmps11, List.size_toArray, List.length_cons, List.length_nil, Nat.reduceAdd, Nat.reduceSub, Array.replicate_succ, Array.replicate_zero, List.push_toArray, List.append_toArray, List.nil_append, List.cons_append]
    refine wpIn_wide.2 ?_
    go_wp2_with fail
    have X1 := (BxV.new w #[.slice none 0 0] 26).alloc (.cells #[.int .i64 2] 27)
    have X2 := BxV.new (w.alloc (.cells #[.slice none 0 0] 26)) #[.int .i64 2] 27
    rw [World.size_alloc] at X2
    exact leave_build rfl rfl (X1.c 0 _ rfl) (X2.c 0 _ rfl) ⟨rfl, ((Below.refl _ _).alloc (Nat.le_refl _) _).alloc (by simp) _⟩
  have e2 : decide (64 < per) = false := decide_eq_false h2
  by_cases h3 : bits < 1
  · have e3 : decide (bits < 1) = true := decide_eq_true h3
    clear h
    refine (callsIn_wide (n := 8)).1 ?_
    refine callsIn_of_wp_marks Try.func11 rfl trivial ?_ rfl
    simp only [Try.ntmps11, List.size_toArray, List.length_cons, List.length_nil, Nat.reduceAdd, Nat.reduceSub, Array.replicate_succ, Array.replicate_zero, List.push_toArray, List.append_toArray, List.nil_append, List.cons_append]
    refine wpIn_wide.2 ?_
    go_wp2_with fail
    have X1 := (BxV.new w #[.slice none 0 0] 26).alloc (.cells #[.int .i64 2] 27)
    have X2 := BxV.new (w.alloc (.cells #[.slice none 0 0] 26)) #[.int .i64 2] 27
    rw [World.size_alloc] at X2
    exact leave_build rfl rfl (X1.c 0 _ rfl) (X2.c 0 _ rfl) ⟨rfl, ((Below.refl _ _).alloc (Nat.le_refl _) _).alloc (by simp) _⟩
  have e3 : decide (bits < 1) = false := decide_eq_false h3
  by_cases h4 : 16 < bits
  · have e4 : decide (16 < bits) = true := decide_eq_true h4
    clear h
    refine (callsIn_wide (n := 8)).1 ?_
    refine callsIn_of_wp_marks Try.func11 rfl trivial ?_ rfl
    simp only [Try.ntmps11, List.size_toArray, List.length_cons, List.length_nil, Nat.reduceAdd, Nat.reduceSub, Array.replicate_succ, Array.replicate_zero, List.push_toArray, List.append_toArray, List.nil_append, List.cons_append]
    refine wpIn_wide.2 ?_
    go_wp2_with fail
    have X1 := (BxV.new w #[.slice none 0 0] 26).alloc (.cells #[.int .i64 2] 27)
    have X2 := BxV.new (w.alloc (.cells #[.slice none 0 0] 26)) #[.int .i64 2] 27
    rw [World.size_alloc] at X2
    exact leave_build rfl rfl (X1.c 0 _ rfl) (X2.c 0 _ rfl) ⟨rfl, ((Below.refl _ _).alloc (Nat.le_refl _) _).alloc (by simp) _⟩
  have e4 : decide (16 < bits) = false := decide_eq_false h4
  obtain rfl : n = 0 := by omega
  clear h
  refine (callsIn_wide (n := 8)).1 ?_
  refine callsIn_of_wp_marks Try.func11 rfl trivial ?_ rfl
  simp only [Try.ntmps11, List.size_toArray, List.length_cons, List.length_nil, Nat.reduceAdd, Nat.reduceSub, Array.replicate_succ, Array.replicate_zero, List.push_toArray, List.append_toArray, List.nil_append, List.cons_append]
  refine wpIn_wide.2 ?_
  go_wp2_with fail
  have X1 := (BxV.new w #[.slice none 0 0] 26).alloc (.cells #[.int .i64 2] 27)
  have X2 := BxV.new (w.alloc (.cells #[.slice none 0 0] 26)) #[.int .i64 2] 27
  rw [World.size_alloc] at X2
  exact leave_build rfl rfl (X1.c 0 _ rfl) (X2.c 0 _ rfl) ⟨rfl, ((Below.refl _ _).alloc (Nat.le_refl _) _).alloc (by simp) _⟩
end Go.Proofs.Ytdmpimgbnhgiaaa
