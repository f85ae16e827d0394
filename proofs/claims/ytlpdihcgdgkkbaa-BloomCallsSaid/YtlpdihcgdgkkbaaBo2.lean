/- Walks: two filters together: the error answers; the reference's. (Printed by wip/tools/gen_both.py.) -/
import Derived.Test.YtlpdihcgdgkkbaaBi
import Derived.Test.YtlpdihcgdgkkbaaBk
namespace Go.Proofs.Ytlpdihcgdgkkbaa
open Go.RowKit Go.St
set_option linter.unusedVariables false
set_option linter.unusedSimpArgs false
set_option maxRecDepth 100000

set_option maxHeartbeats 800000 in
theorem both_bad (A A' : Option Addr) (n n' c c' B B' : Nat) (fa fb : List UInt8) (hl : fa.length = n) (hl' : fb.length = n') (h : bchk fa = 5 ∨ bchk fa = 0 ∧ bchk fb = 5) (w : World) (hr : Rd w B A (bv fa)) (hr' : Rd w B' A' (bv fb)) :
    Calls Try.prog 25 #[.slice A n c, .slice A' n' c'] w fun e w' => e = .returned (.tuple #[.slice none 0 0, .int .i64 5]) ∧ w = w' := by
  have k1 := bcheck_any A n c B fa hl w hr
  have k2 := bcheck_any A' n' c' B' fb hl' w hr'
  rcases h with h | ⟨h, h'⟩
  · rw [h] at k1
    have K1 := Lib.hid k1
    clear k1 k2 hr hr' hl hl' h
    go_enter Try.func25, Try.ntmps25
    go_wp2_with fail
    refine K1.out.mono ?_
    rintro e w' ⟨rfl, rfl⟩
    go_wp2
    go_ret2
    exact ⟨rfl, rfl⟩
  · rw [h] at k1
    rw [h'] at k2
    have K1 := Lib.hid k1; have K2 := Lib.hid k2
    clear k1 k2 hr hr' hl hl' h h'
    go_enter Try.func25, Try.ntmps25
    go_wp2_with fail
    refine K1.out.mono ?_
    rintro e w' ⟨rfl, rfl⟩
    go_wp2_with fail
    refine K2.out.mono ?_
    rintro e w' ⟨rfl, rfl⟩
    go_wp2
    go_ret2
    exact ⟨rfl, rfl⟩

set_option maxHeartbeats 800000 in
theorem both_arg (A A' : Option Addr) (n n' c c' B B' : Nat) (fa fb : List UInt8) (hl : fa.length = n) (hl' : fb.length = n') (hca : bchk fa = 0) (hcb : bchk fb = 0) (h : n ≠ n' ∨ n = n' ∧ fb.getD 0 0 ≠ fa.getD 0 0)
    (w : World) (hr : Rd w B A (bv fa)) (hr' : Rd w B' A' (bv fb)) (hB : B ≤ w.heap.size) (hB' : B' ≤ w.heap.size) :
    Calls Try.prog 25 #[.slice A n c, .slice A' n' c'] w fun e w' => e = .returned (.tuple #[.slice none 0 0, .int .i64 2]) ∧ Below w.heap.size w w' := by
  obtain ⟨h2, h3, h4⟩ := bchk_ok hca
  obtain ⟨h2', h3', h4'⟩ := bchk_ok hcb
  obtain ⟨b, off, rfl, hb, hx⟩ := hr.at_ (bv_getD fa 0 (by omega))
  obtain ⟨b', off', rfl, hb', hx'⟩ := hr'.at_ (bv_getD fb 0 (by omega))
  rw [Nat.add_zero] at hx hx'
  have k1 := bcheck_any (some ⟨b, off, none⟩) n c B fa hl w hr
  have k2 := bcheck_any (some ⟨b', off', none⟩) n' c' B' fb hl' w hr'
  rw [hca] at k1
  rw [hcb] at k2
  have i0 : (0 : Int) < (n : Int) := by omega
  have i0' : (0 : Int) < (n' : Int) := by omega
  have hbw : b < w.heap.size := by omega
  have hbw' : b' < w.heap.size := by omega
  have K1 := Lib.hid k1; have K2 := Lib.hid k2
  rcases h with h | ⟨h, hd⟩
  · have q1 : ((n : Int) != (n' : Int)) = true := by simp; omega
    generalize (fa.getD 0 0).toNat = x at *
    generalize (fb.getD 0 0).toNat = y at *
    clear k1 k2 hl hl' hr hr' hca hcb h h2 h3 h4 h2' h3' h4'
    go_enter Try.func25, Try.ntmps25
    go_wp2_with fail
    refine K1.out.mono ?_
    rintro e w' ⟨rfl, rfl⟩
    go_wp2_with fail
    refine K2.out.mono ?_
    rintro e w' ⟨rfl, rfl⟩
    go_wp2_with fail
    refine wp_qall (by kernel_rfl) (by kernel_rfl) ?_
    intro hcg
    repeat (first | go_big_quiet_step (fail) | quiet_step (fail))
    refine wpQuiet_nil ?_
    intro wq hbwq hcwq hfwq
    clear hcg
    have HBq := Lib.hid hbwq
    clear hbwq
    go_wp2
    go_ret2
    exact ⟨rfl, HBq.out⟩
  · subst h
    have hxy : (fa.getD 0 0).toNat ≠ (fb.getD 0 0).toNat := fun h => hd (UInt8.toNat_inj.1 h.symm)
    generalize (fa.getD 0 0).toNat = x at *
    generalize (fb.getD 0 0).toNat = y at *
    have q1 : ((n : Int) != (n : Int)) = false := by simp
    have q2 : ((x : Int) != (y : Int)) = true := by simp; omega
    clear k1 k2 hl hl' hr hr' hca hcb hd hxy h2 h3 h4 h2' h3' h4'
    go_enter Try.func25, Try.ntmps25
    go_wp2_with fail
    refine K1.out.mono ?_
    rintro e w' ⟨rfl, rfl⟩
    go_wp2_with fail
    refine K2.out.mono ?_
    rintro e w' ⟨rfl, rfl⟩
    go_wp2_with fail
    refine wp_qall (by kernel_rfl) (by kernel_rfl) ?_
    intro hcg
    repeat (first | go_big_quiet_step (fail) | quiet_step (fail))
    refine wpQuiet_nil ?_
    intro wq hbwq hcwq hfwq
    clear hcg
    have HBq := Lib.hid hbwq
    clear hbwq
    go_wp2
    go_ret2
    exact ⟨rfl, HBq.out⟩

set_option maxHeartbeats 800000 in
theorem rboth_bad (A A' : Option Addr) (n n' c c' B B' : Nat) (fa fb : List UInt8) (hl : fa.length = n) (hl' : fb.length = n') (h : bchk fa = 5 ∨ bchk fa = 0 ∧ bchk fb = 5) (w : World) (hr : Rd w B A (bv fa)) (hr' : Rd w B' A' (bv fb)) :
    Calls Try.prog 26 #[.slice A n c, .slice A' n' c'] w fun e w' => e = .returned (.tuple #[.slice none 0 0, .int .i64 5]) ∧ w = w' := by
  have k1 := rcheck08_any A n c B fa hl w hr
  have k2 := rcheck08_any A' n' c' B' fb hl' w hr'
  rcases h with h | ⟨h, h'⟩
  · rw [h] at k1
    have K1 := Lib.hid k1
    clear k1 k2 hr hr' hl hl' h
    go_enter Try.func26, Try.ntmps26
    go_wp2_with fail
    refine K1.out.mono ?_
    rintro e w' ⟨rfl, rfl⟩
    go_wp2
    go_ret2
    exact ⟨rfl, rfl⟩
  · rw [h] at k1
    rw [h'] at k2
    have K1 := Lib.hid k1; have K2 := Lib.hid k2
    clear k1 k2 hr hr' hl hl' h h'
    go_enter Try.func26, Try.ntmps26
    go_wp2_with fail
    refine K1.out.mono ?_
    rintro e w' ⟨rfl, rfl⟩
    go_wp2_with fail
    refine K2.out.mono ?_
    rintro e w' ⟨rfl, rfl⟩
    go_wp2
    go_ret2
    exact ⟨rfl, rfl⟩

set_option maxHeartbeats 800000 in
theorem rboth_arg (A A' : Option Addr) (n n' c c' B B' : Nat) (fa fb : List UInt8) (hl : fa.length = n) (hl' : fb.length = n') (hca : bchk fa = 0) (hcb : bchk fb = 0) (h : n ≠ n' ∨ n = n' ∧ fb.getD 0 0 ≠ fa.getD 0 0)
    (w : World) (hr : Rd w B A (bv fa)) (hr' : Rd w B' A' (bv fb)) (hB : B ≤ w.heap.size) (hB' : B' ≤ w.heap.size) :
    Calls Try.prog 26 #[.slice A n c, .slice A' n' c'] w fun e w' => e = .returned (.tuple #[.slice none 0 0, .int .i64 2]) ∧ Below w.heap.size w w' := by
  obtain ⟨h2, h3, h4⟩ := bchk_ok hca
  obtain ⟨h2', h3', h4'⟩ := bchk_ok hcb
  obtain ⟨b, off, rfl, hb, hx⟩ := hr.at_ (bv_getD fa 0 (by omega))
  obtain ⟨b', off', rfl, hb', hx'⟩ := hr'.at_ (bv_getD fb 0 (by omega))
  rw [Nat.add_zero] at hx hx'
  have k1 := rcheck08_any (some ⟨b, off, none⟩) n c B fa hl w hr
  have k2 := rcheck08_any (some ⟨b', off', none⟩) n' c' B' fb hl' w hr'
  rw [hca] at k1
  rw [hcb] at k2
  have i0 : (0 : Int) < (n : Int) := by omega
  have i0' : (0 : Int) < (n' : Int) := by omega
  have hbw : b < w.heap.size := by omega
  have hbw' : b' < w.heap.size := by omega
  have K1 := Lib.hid k1; have K2 := Lib.hid k2
  rcases h with h | ⟨h, hd⟩
  · have q1 : ((n : Int) != (n' : Int)) = true := by simp; omega
    generalize (fa.getD 0 0).toNat = x at *
    generalize (fb.getD 0 0).toNat = y at *
    clear k1 k2 hl hl' hr hr' hca hcb h h2 h3 h4 h2' h3' h4'
    go_enter Try.func26, Try.ntmps26
    go_wp2_with fail
    refine K1.out.mono ?_
    rintro e w' ⟨rfl, rfl⟩
    go_wp2_with fail
    refine K2.out.mono ?_
    rintro e w' ⟨rfl, rfl⟩
    go_wp2_with fail
    refine wp_qall (by kernel_rfl) (by kernel_rfl) ?_
    intro hcg
    repeat (first | go_big_quiet_step (fail) | quiet_step (fail))
    refine wpQuiet_nil ?_
    intro wq hbwq hcwq hfwq
    clear hcg
    have HBq := Lib.hid hbwq
    clear hbwq
    go_wp2
    go_ret2
    exact ⟨rfl, HBq.out⟩
  · subst h
    have hxy : (fa.getD 0 0).toNat ≠ (fb.getD 0 0).toNat := fun h => hd (UInt8.toNat_inj.1 h.symm)
    generalize (fa.getD 0 0).toNat = x at *
    generalize (fb.getD 0 0).toNat = y at *
    have q1 : ((n : Int) != (n : Int)) = false := by simp
    have q2 : ((x : Int) != (y : Int)) = true := by simp; omega
    clear k1 k2 hl hl' hr hr' hca hcb hd hxy h2 h3 h4 h2' h3' h4'
    go_enter Try.func26, Try.ntmps26
    go_wp2_with fail
    refine K1.out.mono ?_
    rintro e w' ⟨rfl, rfl⟩
    go_wp2_with fail
    refine K2.out.mono ?_
    rintro e w' ⟨rfl, rfl⟩
    go_wp2_with fail
    refine wp_qall (by kernel_rfl) (by kernel_rfl) ?_
    intro hcg
    repeat (first | go_big_quiet_step (fail) | quiet_step (fail))
    refine wpQuiet_nil ?_
    intro wq hbwq hcwq hfwq
    clear hcg
    have HBq := Lib.hid hbwq
    clear hbwq
    go_wp2
    go_ret2
    exact ⟨rfl, HBq.out⟩

set_option maxHeartbeats 1600000 in
theorem rboth_any (A A' : Option Addr) (n c c' B B' : Nat) (fa fb : List UInt8) (hl : fa.length = n) (hl' : fb.length = n) (hca : bchk fa = 0) (hcb : bchk fb = 0) (hh : fb.getD 0 0 = fa.getD 0 0) (hn : n ≤ 140737488355328)
    (w : World) (hr : Rd w B A (bv fa)) (hr' : Rd w B' A' (bv fb)) (hB : B ≤ w.heap.size) (hB' : B' ≤ w.heap.size) :
    Calls Try.prog 26 #[.slice A n c, .slice A' n c'] w fun e w' => ∃ v, e = .returned (.tuple #[v, .int .i64 0]) ∧ w'.ownsRow w.heap.size 5 1 v n (bv (orF fa fb)) ∧ Below w.heap.size w w' := by
  obtain ⟨h2, h3, h4⟩ := bchk_ok hca
  obtain ⟨b, off, rfl, hb, hx⟩ := hr.at_ (bv_getD fa 0 (by omega))
  obtain ⟨b', off', rfl, hb', hx'⟩ := hr'.at_ (bv_getD fb 0 (by omega))
  rw [hh] at hx'
  rw [Nat.add_zero] at hx hx'
  have k1 := rcheck08_any (some ⟨b, off, none⟩) n c B fa hl w hr
  have k2 := rcheck08_any (some ⟨b', off', none⟩) n c' B' fb hl' w hr'
  rw [hca] at k1
  rw [hcb] at k2
  have n2 : 2 ≤ n := by omega
  generalize (fa.getD 0 0).toNat = x at *
  have K1 := Lib.hid k1; have K2 := Lib.hid k2; have HL := Lib.hid hl; have HL' := Lib.hid hl'; have HR := Lib.hid hr; have HR' := Lib.hid hr'
  have q1 : ((n : Int) != (n : Int)) = false := by simp
  have q2 : ((x : Int) != (x : Int)) = false := by simp
  have i0 : (0 : Int) < (n : Int) := by omega
  have hbw : b < w.heap.size := by omega
  have hbw' : b' < w.heap.size := by omega
  clear k1 k2 hl hl' hr hr' hca hcb hh h2 h3 h4
  go_enter Try.func26, Try.ntmps26
  go_wp2_with fail
  refine K1.out.mono ?_
  rintro e w' ⟨rfl, rfl⟩
  go_wp2_with fail
  refine K2.out.mono ?_
  rintro e w' ⟨rfl, rfl⟩
  go_wp2_with fail
  refine wp_qall (by kernel_rfl) (by kernel_rfl) ?_
  intro hcg
  repeat (first | go_big_quiet_step (fail) | quiet_step (fail))
  refine wpQuiet_nil ?_
  intro wq hbwq hcwq hfwq
  clear hcg
  have HBq : Hid (Below w.heap.size w wq) := hbwq
  have RQ := Lib.hid (HR.out.below (hbwq.mono hB))
  have RQ' := Lib.hid (HR'.out.below (hbwq.mono hB'))
  have hsq := hbwq.size
  clear hbwq hcwq hfwq hx hx' q2
  go_wp2_with (at_builtin; refine wpList_app sty8 (.tmp 30) (.tmp 31) rfl rfl w.heap.size (World.ownsRow_lit wq #[] 0 hsq (by decide) rfl) rfl n c (Rd.alloc RQ.out (by omega) _) rfl (by rw [bv_length, HL.out]; omega) (bv_one _) (by unfold maxLen; omega) (by omega) (by simp; omega) ?_; intro v1 w1 own1 gr1 nil1 at1)
  have o1 : w1.ownsRow w.heap.size 5 1 v1 n (bv (orTo fa fb 0)) := own_eq own1 (by omega) (by rw [orTo_zero]; rfl)
  have B1 : Hid (Below w.heap.size w w1) := (HBq.out.alloc HBq.out.size _).grown gr1 (by simp; omega) (by simp [Value.ownBlock]; omega)
  obtain ⟨g, cap, rfl, hnc, hcap, hg1, hg2⟩ := own_blk o1 (by omega)
  have O1 := Lib.hid o1
  clear o1 own1 gr1 nil1 at1 RQ RQ' hsq
  go_loopw [7] (fun i wr => ∃ j : Nat, j + 1 ≤ n ∧ i = .int .i64 ((j + 1 : Nat) : Int) ∧ Hid (wr.ownsRow w.heap.size 5 1 (.slice (some ⟨g, 0, none⟩) n cap) n (bv (orTo fa fb j))) ∧ Hid (Below w.heap.size w wr)) (fun i _ => n - (intOf i).toNat)
  case atStart => exact ⟨0, by omega, rfl, O1, B1⟩
  case round =>
    obtain ⟨j, hj, rfl, O2, B2⟩ := hrel
    obtain ⟨q, hq⟩ : ∃ q, q = j + 1 := ⟨_, rfl⟩
    rw [← hq] at hj ⊢
    by_cases hlt : q < n
    · obtain ⟨b2, off2, e, hb2, hx2⟩ := (HR'.out.below (B2.out.mono hB')).at_ (bv_getD fb q (by rw [HL'.out]; exact hlt))
      injection e with e
      injection e with e1 e2
      subst e1 e2
      have hcx := O2.out.cellAt q (by omega)
      rw [bv_getD (orTo fa fb j) q (by rw [orTo_length, HL.out]; exact hlt), orTo_getD _ _ _ _ (by rw [HL.out]; exact hlt), if_neg (by omega)] at hcx
      have hfx := O2.out.frozenAt q
      have hss := orTo_succ fa fb j (by rw [HL.out]; omega)
      rw [show 1 + j = q by omega, ← hq] at hss
      have ho := bt_or2 (fa.getD q 0) (fb.getD q 0)
      have HSS := Lib.hid hss; clear hss
      generalize hx3 : fa.getD q 0 = x2 at *
      generalize hy3 : fb.getD q 0 = y2 at *
      have HX := Lib.hid hx3; have HY := Lib.hid hy3; have HQ := Lib.hid hq
      clear hx3 hy3
      have hgw : g < wr.heap.size := World.block_lt_of_cell? wr _ hcx
      have hbw2 : b' < wr.heap.size := World.block_lt_of_cell? wr _ hx2
      have HO := Lib.hid ho
      clear ho hq
      go_wp2_with fail
      refine wp_qtail 10 (by kernel_rfl) (by kernel_rfl) ?_
      intro hcg
      simp only [List.take_succ_cons, List.take_zero, List.drop_succ_cons, List.drop_zero]
      repeat (first | go_big_quiet_step (fail) | quiet_step (fail))
      refine wpQuiet_nil ?_
      intro w5 hbw5 hcw5 hfw5
      clear hcg
      have O5 := own_keep O2.out hbw5 (Nat.le_refl _)
      have B5 := Lib.hid (Below.go B2.out hbw5 B2.out.size)
      have s5 := (O5.stored q (bt (x2 ||| y2))).1
      rw [bv_set, ← HSS.out] at s5
      unfold bt at s5
      rw [← HO.out] at s5
      have S5 := Lib.hid s5
      clear s5 O5 hbw5
      go_wp2
      exact ⟨⟨q, by omega, by go_num, S5.out, B5.out.setCell hg1 _⟩, by simp [intOf]; omega⟩
    · have hjn : j = n - 1 := by omega
      have ho := O2.out
      rw [hjn] at ho
      have HO : Hid (wr.ownsRow w.heap.size 5 1 (.slice (some ⟨g, 0, none⟩) n cap) n (bv (orF fa fb))) := by
        unfold orF
        rw [HL.out]
        exact ho
      clear ho hjn
      go_wp2
      go_ret2
      exact ⟨_, rfl, HO.out, B2.out⟩
end Go.Proofs.Ytlpdihcgdgkkbaa
