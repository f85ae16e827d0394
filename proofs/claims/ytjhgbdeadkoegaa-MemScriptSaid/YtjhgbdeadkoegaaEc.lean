/- Walks: whether an entry is ahead of another one; whether entries are in order; whether they are a block. -/
import Derived.Test.YtjhgbdeadkoegaaEb
namespace Go.Proofs.Ytjhgbdeadkoegaa
open Go.RowKit Go.St Go.Maps
set_option linter.unusedVariables false
set_option linter.unusedSimpArgs false
set_option maxRecDepth 100000

def cmpK (a b : ByteArray) : Int := if klt a b then -1 else if klt b a then 1 else 0
def cmpZ (a b : Int) : Int := if a < b then -1 else if b < a then 1 else 0
theorem cnan_any (x : ByteArray) (w : World) : Calls Try.prog 52 #[.string x] w fun e w' => e = .returned (.bool false) ∧ w = w' := by
  go_enter Try.func52, Try.ntmps52
  go_wp2
  go_ret
  exact ⟨by simp, rfl⟩
theorem cnani_any (x : Int) (w : World) : Calls Try.prog 53 #[.int .i64 x] w fun e w' => e = .returned (.bool false) ∧ w = w' := by
  go_enter Try.func53, Try.ntmps53
  go_wp2
  go_ret
  exact ⟨by simp, rfl⟩
set_option maxHeartbeats 800000 in
theorem cmpK_any (x y : ByteArray) (w : World) : Calls Try.prog 39 #[.string x, .string y] w fun e w' => e = .returned (.int .i64 (cmpK x y)) ∧ w = w' := by
  unfold cmpK klt
  cases h1 : Op.bytesLess x.toList y.toList
  · cases h2 : Op.bytesLess y.toList x.toList
    · obtain rfl : x = y := klt_tri h1 h2
      have e3 : (x.toList == x.toList) = true := by simp
      clear h2
      go_enter Try.func39, Try.ntmps39
      go_wp2_with (go_at_call 52; refine (cnan_any _ _).mono ?_; rintro e w' ⟨rfl, rfl⟩)
      go_ret
      exact ⟨rfl, rfl⟩
    · have e3 : (x.toList == y.toList) = false := by
        rw [str_eqB]
        exact decide_eq_false (fun e => by rw [e] at h2; rw [e, h2] at h1; cases h1)
      go_enter Try.func39, Try.ntmps39
      go_wp2_with (go_at_call 52; refine (cnan_any _ _).mono ?_; rintro e w' ⟨rfl, rfl⟩)
      go_ret
      exact ⟨rfl, rfl⟩
  · go_enter Try.func39, Try.ntmps39
    go_wp2_with (go_at_call 52; refine (cnan_any _ _).mono ?_; rintro e w' ⟨rfl, rfl⟩)
    go_ret
    exact ⟨rfl, rfl⟩
set_option maxHeartbeats 800000 in
theorem cmpZ_any (x y : Int) (w : World) : Calls Try.prog 40 #[.int .i64 x, .int .i64 y] w fun e w' => e = .returned (.int .i64 (cmpZ x y)) ∧ w = w' := by
  unfold cmpZ
  by_cases h1 : x < y
  · rw [if_pos h1]
    go_enter Try.func40, Try.ntmps40
    go_wp2_with (go_at_call 53; refine (cnani_any _ _).mono ?_; rintro e w' ⟨rfl, rfl⟩)
    go_ret
    exact ⟨rfl, rfl⟩
  rw [if_neg h1]
  by_cases h2 : y < x
  · rw [if_pos h2]
    go_enter Try.func40, Try.ntmps40
    go_wp2_with (go_at_call 53; refine (cnani_any _ _).mono ?_; rintro e w' ⟨rfl, rfl⟩)
    go_ret
    exact ⟨rfl, rfl⟩
  · rw [if_neg h2]
    go_enter Try.func40, Try.ntmps40
    go_wp2_with (go_at_call 53; refine (cnani_any _ _).mono ?_; rintro e w' ⟨rfl, rfl⟩)
    go_ret
    exact ⟨rfl, rfl⟩
set_option maxHeartbeats 800000 in
theorem or2_any (b c : Nat) (x y r : Int) (hr : r = if x = 0 then y else x) (w : World) (hb : b < w.heap.size) (h0 : w.cell? ⟨b, 0, none⟩ = some (.int .i64 x)) (h1 : w.cell? ⟨b, 1, none⟩ = some (.int .i64 y)) :
    Calls Try.prog 38 #[.slice (some ⟨b, 0, none⟩) 2 c] w fun e w' => e = .returned (.int .i64 r) ∧ w = w' := by
  subst hr
  by_cases hx : x = 0
  · rw [if_pos hx]
    subst hx
    by_cases hy : y = 0
    · subst hy
      go_enter Try.func38, Try.ntmps38
      go_wp2
      refine wp_loop_rounds 3 ?_
      rw [rounds_succ]
      go_wp2
      rw [rounds_succ]
      go_wp2
      rw [rounds_succ]
      go_wp2
      go_ret
      exact ⟨rfl, rfl⟩
    · have e1 : (y != 0) = true := by simpa using hy
      clear hy
      go_enter Try.func38, Try.ntmps38
      go_wp2
      refine wp_loop_rounds 2 ?_
      rw [rounds_succ]
      go_wp2
      rw [rounds_succ]
      go_wp2
      go_ret
      exact ⟨rfl, rfl⟩
  · have e1 : (x != 0) = true := by simpa using hx
    rw [if_neg hx]
    clear hx
    go_enter Try.func38, Try.ntmps38
    go_wp2
    refine wp_loop_rounds 1 ?_
    rw [rounds_succ]
    go_wp2
    go_ret
    exact ⟨rfl, rfl⟩
theorem ahead_val (a b : Ent) : decide ((if cmpK a.key b.key = 0 then cmpZ b.seq a.seq else cmpK a.key b.key) < 0) = ltE a b := by
  unfold ltE cmpK cmpZ
  cases h1 : klt a.key b.key
  · cases h2 : klt b.key a.key
    · have e := klt_tri h1 h2
      by_cases h3 : b.seq < a.seq
      · simp [e, h3]
      · by_cases h4 : a.seq < b.seq <;> simp [e, h3, h4]
    · have e : ¬ a.key = b.key := fun e => by rw [e, klt_irr] at h2; cases h2
      simp [e]
  · simp
set_option maxHeartbeats 1600000 in
theorem ahead_any (x y : Ent) (w : World) : Calls Try.prog 16 #[.agg #[.string x.key, .string x.val, .int .i64 x.seq, .bool x.del], .agg #[.string y.key, .string y.val, .int .i64 y.seq, .bool y.del]] w fun e w' => e = .returned (.bool (ltE x y)) ∧ Below w.heap.size w w' := by
  have HV := Lib.hid (ahead_val x y)
  go_enter Try.func16, Try.ntmps16
  go_wp2_with fail
  have B2 : Hid (Below w.heap.size w ((w.alloc (.cells #[.string x.key, .string x.val, .int .i64 x.seq, .bool x.del] 32)).alloc (.cells #[.string y.key, .string y.val, .int .i64 y.seq, .bool y.del] 32))) := Lib.hid (((Below.refl _ _).alloc (Nat.le_refl _) _).alloc (by simp) _)
  have X1 : BxV ((w.alloc (.cells #[.string x.key, .string x.val, .int .i64 x.seq, .bool x.del] 32)).alloc (.cells #[.string y.key, .string y.val, .int .i64 y.seq, .bool y.del] 32)) w.heap.size [.string x.key, .string x.val, .int .i64 x.seq, .bool x.del] := (BxV.new w _ _).alloc _
  have X2 : BxV ((w.alloc (.cells #[.string x.key, .string x.val, .int .i64 x.seq, .bool x.del] 32)).alloc (.cells #[.string y.key, .string y.val, .int .i64 y.seq, .bool y.del] 32)) (w.heap.size + 1) [.string y.key, .string y.val, .int .i64 y.seq, .bool y.del] := by
    have h := BxV.new (w.alloc (.cells #[.string x.key, .string x.val, .int .i64 x.seq, .bool x.del] 32)) #[.string y.key, .string y.val, .int .i64 y.seq, .bool y.del] 32
    rwa [World.size_alloc] at h
  have x0 := X1.c 0 _ rfl
  have x2 := X1.c 2 _ rfl
  have xl := X1.lt
  have y0 := X2.c 0 _ rfl
  have y2 := X2.c 2 _ rfl
  have yl := X2.lt
  clear X1 X2
  generalize (w.alloc (.cells #[.string x.key, .string x.val, .int .i64 x.seq, .bool x.del] 32)).alloc (.cells #[.string y.key, .string y.val, .int .i64 y.seq, .bool y.del] 32) = w2 at *
  refine wp_qtail 10 (by kernel_rfl) (by kernel_rfl) ?_
  intro hcg
  simp only [List.take_succ_cons, List.take_zero, List.drop_succ_cons, List.drop_zero]
  repeat (first | go_big_quiet_step ((with_reducible (first | exact Calls.regs ((cmpK_any _ _ _).mono fun _ _ ⟨h1, h2⟩ => ⟨h1, h2.symm⟩) | exact Calls.regs ((cmpZ_any _ _ _).mono fun _ _ ⟨h1, h2⟩ => ⟨h1, h2.symm⟩)))) | quiet_step ((with_reducible (first | exact Calls.regs ((cmpK_any _ _ _).mono fun _ _ ⟨h1, h2⟩ => ⟨h1, h2.symm⟩) | exact Calls.regs ((cmpZ_any _ _ _).mono fun _ _ ⟨h1, h2⟩ => ⟨h1, h2.symm⟩)))))
  refine wpQuiet_nil ?_
  intro wq hbwq hcwq hfwq
  clear hcg
  have B3 := Lib.hid (B2.out.trans (hbwq.mono B2.out.size))
  clear hbwq hcwq hfwq B2 x0 x2 xl y0 y2 yl
  generalize cmpK x.key y.key = p at *
  generalize cmpZ y.seq x.seq = q at *
  obtain ⟨r, hr⟩ : ∃ r, r = (if p = 0 then q else p) := ⟨_, rfl⟩
  rw [← hr] at HV
  have HR := Lib.hid hr
  clear hr
  go_wp2_with fail
  refine (or2_any wq.heap.size 2 p q r HR.out _ (by simp) (by simp) (by simp)).mono ?_
  rintro e w4 ⟨rfl, rfl⟩
  have B4 := Lib.hid (B3.out.alloc B3.out.size (.cells #[.int .i64 p, .int .i64 q] 3))
  go_wp2_with fail
  go_ret
  exact ⟨ret_bool HV.out, B4.out⟩
end Go.Proofs.Ytjhgbdeadkoegaa
