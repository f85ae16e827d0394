/- Walks of the kit's own functions on entries: lent, compared, kept; small; spans. -/
import Derived.Test.YtdmpimgbnhgiaaaZEd
import Derived.Deep.Cut

namespace Go.Proofs.Ytdmpimgbnhgiaaa
open Go.RowKit Go.St Go.Maps
set_option linter.unusedVariables false
set_option linter.unusedSimpArgs false
set_option maxRecDepth 100000

theorem styE : STy Try.prog 22 40 4 48 (.agg #[.string { data := #[] }, .string { data := #[] }, .int .i64 0, .bool false]) := ⟨Try.underlying22, ⟨_, rfl, by kernel_rfl, by kernel_rfl, by kernel_rfl⟩, rfl, by decide⟩
def behE (i : Nat) : Ent := ⟨⟨#[98, 101, 104, 105, 110, 100]⟩, zB, (i : Int), false⟩
/-- What stands behind entries that are lent. -/
def lentE (l : List Ent) : List Ent := l ++ [behE 0, behE 1, behE 2]
theorem lentE_length (l : List Ent) : (lentE l).length = l.length + 3 := by simp [lentE]

set_option maxHeartbeats 1600000 in
theorem lentE_any (A : Option Addr) (n c B : Nat) (l : List Ent) (hl : l.length = n) (hn : n ≤ 1000000) (w : World) (hr : Rd w B A (env l)) (hB : B ≤ w.heap.size) :
    Calls Try.prog 10 #[.slice A n c] w fun e w' => ∃ v, e = .returned v ∧ w'.ownsRow w.heap.size 40 4 v (n + 3) (env (lentE l)) ∧ Below w.heap.size w w' := by
  have HL := Lib.hid hl; clear hl
  have HR := Lib.hid hr; clear hr
  go_enter Try.func10, Try.ntmps10
  go_wp2_with (at_builtin; refine wpList_app styE (.tmp 5) (.tmp 6) rfl rfl w.heap.size (World.ownsRow_lit w #[] 0 (Nat.le_refl _) (by decide) rfl) rfl n c (Rd.alloc HR.out hB _) rfl (by rw [env_len, HL.out]) (env_one _) (by unfold maxLen; omega) (by omega) (by simp) ?_; intro v1 w1 own1 gr1 nil1 at1)
  have hb1 : Hid (Below w.heap.size w w1) := Lib.hid (((Below.refl _ _).alloc (Nat.le_refl _) _).grown gr1 (by simp) (by simp [Value.ownBlock]))
  have HO : Hid (w1.ownsRow w.heap.size 40 4 v1 (n + 0) (env (l ++ [behE 0, behE 1, behE 2].take 0))) := Lib.hid (own_eq own1 (by omega) (by simp))
  clear own1 gr1 nil1 at1
  go_loopw [3, 4] (fun v i wr => ∃ k : Nat, k ≤ 3 ∧ i = .int .i64 k ∧ Hid (wr.ownsRow w.heap.size 40 4 v (n + k) (env (l ++ [behE 0, behE 1, behE 2].take k))) ∧ Hid (Below w.heap.size w wr)) (fun _ i _ => 3 - (intOf i).toNat)
  case atStart => exact ⟨0, Nat.zero_le _, rfl, HO, hb1⟩
  case round =>
    obtain ⟨k, hk, rfl, hown, hbw⟩ := hrel
    clear hb1 HO
    by_cases hk4 : k < 3
    · have e1 : env (l ++ [behE 0, behE 1, behE 2].take k) ++ [Value.string { data := #[98, 101, 104, 105, 110, 100] }, .string { data := #[] }, .int .i64 (k : Int), .bool false] = env (l ++ [behE 0, behE 1, behE 2].take (k + 1)) := by
        rcases (by omega : k = 0 ∨ k = 1 ∨ k = 2) with rfl | rfl | rfl <;> simp [env, behE, Ent.c, zB]
      have E1 := Lib.hid e1; clear e1
      go_wp2_with (at_builtin; refine wpList_app styE (.tmp 12) (.tmp 15) rfl rfl w.heap.size (hown.out.alloc _) rfl 1 1 (rd_frC _ _ _ _) rfl rfl (by simp [Value.oneCell']) (by unfold maxLen; omega) (by omega) (by have := hbw.out.size; simp; omega) ?_; intro v2 w2 own2 gr2 nil2 at2)
      exact ⟨⟨k + 1, by omega, by go_num, Lib.hid (own_eq own2 (by omega) E1.out), Lib.hid ((hbw.out.alloc hbw.out.size _).grown gr2 (by have := hbw.out.size; simp; omega) (fun g hg => (hown.out.lt g hg).1))⟩, by simp [intOf]; omega⟩
    · obtain rfl : k = 3 := by omega
      go_wp2
      go_ret
      exact ⟨_, rfl, own_eq hown.out (by omega) rfl, hbw.out⟩

theorem ent_ne {x y : Ent} (h : x ≠ y) : ¬ (x.key = y.key ∧ x.val = y.val ∧ x.seq = y.seq ∧ x.del = y.del) := fun ⟨h1, h2, h3, h4⟩ => h (by cases x; cases y; simp_all)
set_option maxHeartbeats 3200000 in
theorem sameE_any (A A' : Option Addr) (n n' c c' B B' : Nat) (l l' : List Ent) (hl : l.length = n) (hl' : l'.length = n') (hn : n ≤ 1000000) (w : World)
    (hr : Rd w B A (env l)) (hB : B ≤ w.heap.size) (hr' : Rd w B' A' (env l')) (hB' : B' ≤ w.heap.size) :
    Calls Try.prog 21 #[.slice A n c, .slice A' n' c'] w fun e w' => e = .returned (.bool (decide (l = l'))) ∧ Below w.heap.size w w' := by
  obtain ⟨E, hE⟩ : ∃ E, E = decide (l = l') := ⟨_, rfl⟩
  rw [← hE]
  have HE := Lib.hid hE
  have HL := Lib.hid hl
  have HL' := Lib.hid hl'
  have HR := Lib.hid hr
  have HR' := Lib.hid hr'
  clear hl hl' hr hr' hE
  by_cases hnn : n = n'
  · subst hnn
    go_enter Try.func21, Try.ntmps21
    go_wp2_with fail
    go_loopw [5] (fun s5 wr => ∃ i : Nat, s5 = .int .i64 (i : Int) ∧ i ≤ n ∧ Hid (l.take i = l'.take i) ∧ Hid (Below w.heap.size w wr)) (fun s5 _ => n - (intOf s5).toNat)
    case atStart => exact ⟨0, rfl, Nat.zero_le _, Lib.hid rfl, Lib.hid (Below.refl _ _)⟩
    case round =>
      obtain ⟨i, rfl, hi, hT, hB1⟩ := hrel
      obtain ⟨w2, rfl⟩ : ∃ x, x = wr := ⟨_, rfl⟩
      by_cases hlt : i < n
      · obtain ⟨x, hx⟩ : ∃ x, l[i]? = some x := ⟨_, List.getElem?_eq_getElem (by rw [HL.out]; exact hlt)⟩
        obtain ⟨y, hy⟩ : ∃ y, l'[i]? = some y := ⟨_, List.getElem?_eq_getElem (by rw [HL'.out]; exact hlt)⟩
        obtain ⟨b, off, rfl, hb, hce⟩ := en_at HR.out hx
        obtain ⟨b', off', rfl, hb', hce'⟩ := en_at HR'.out hy
        obtain ⟨d0, d1, d2, d3⟩ := hce.below (Nat.lt_of_lt_of_le hb hB) hB1.out
        obtain ⟨f0, f1, f2, f3⟩ := hce'.below (Nat.lt_of_lt_of_le hb' hB') hB1.out
        have HX := Lib.hid hx
        have HY := Lib.hid hy
        have i1 : (i : Int) < (n : Int) := by omega
        have i0 : (0 : Int) ≤ (i : Int) := by omega
        have z1 : b < w2.heap.size := by have := hB1.out.size; omega
        have z2 : b' < w2.heap.size := by have := hB1.out.size; omega
        clear hce hce' hx hy
        by_cases hxy : x = y
        · subst hxy
          have HT9 : Hid (l.take (i + 1) = l'.take (i + 1)) := Lib.hid (by
            rw [List.take_add_one, List.take_add_one, HX.out, HY.out, hT.out])
          go_wp2_with fail
          refine wp_qall (by kernel_rfl) (by kernel_rfl) ?_
          intro hcg
          repeat (first | go_big_quiet_step (fail) | quiet_step (fail))
          refine wpQuiet_nil ?_
          intro wq hbwq hcwq hfwq
          clear hcg
          have B9 := Lib.hid (hB1.out.trans (hbwq.mono hB1.out.size))
          clear hbwq hcwq hfwq
          go_wp2_with fail
          go_roundw
          case rel => exact ⟨i + 1, by go_num, by omega, HT9, B9⟩
          case measure => simp [intOf]; omega
        · have SEQ : Hid (E = false) := Lib.hid (by
            rw [HE.out]
            refine decide_eq_false (fun e => hxy ?_)
            have h2 := HX.out
            rw [e, HY.out] at h2
            injection h2 with h2
            exact h2.symm)
          have hne := ent_ne hxy
          clear hxy HE
          obtain ⟨x1, x2, x3, x4⟩ := x
          obtain ⟨y1, y2, y3, y4⟩ := y
          dsimp only at d0 d1 d2 d3 f0 f1 f2 f3 hne
          have e1 : (x1.toList == y1.toList) = decide (x1 = y1) := str_eqB _ _
          have e2 : (x2.toList == y2.toList) = decide (x2 = y2) := str_eqB _ _
          have e3 : (x3 == y3) = decide (x3 = y3) := by simp [BEq.beq]
          have e4 : (x4 == y4) = decide (x4 = y4) := by cases x4 <;> cases y4 <;> rfl
          have hall : ((x1.toList == y1.toList) && ((x2.toList == y2.toList) && ((x3 == y3) && (x4 == y4)))) = false := by
            rw [e1, e2, e3, e4]
            simpa using hne
          have HNE := Lib.hid hall
          clear hne e1 e2 e3 e4 hall
          by_cases q1 : (x1.toList == y1.toList) = true
          · by_cases q2 : (x2.toList == y2.toList) = true
            · by_cases q3 : (x3 == y3) = true
              · have q4 : (x4 == y4) = false := by have := HNE.out; rw [q1, q2, q3] at this; simpa using this
                go_wp2_with fail
                refine wp_qall (by kernel_rfl) (by kernel_rfl) ?_
                intro hcg
                repeat (first | go_big_quiet_step (fail) | quiet_step (fail))
                refine wpQuiet_nil ?_
                intro wq hbwq hcwq hfwq
                clear hcg
                have B9 := Lib.hid (hB1.out.trans (hbwq.mono hB1.out.size))
                clear hbwq hcwq hfwq
                go_wp2_with fail
                go_ret
                exact ⟨ret_bool SEQ.out.symm, B9.out⟩
              · have q3' : (x3 == y3) = false := by simpa using q3
                clear q3
                go_wp2_with fail
                refine wp_qall (by kernel_rfl) (by kernel_rfl) ?_
                intro hcg
                repeat (first | go_big_quiet_step (fail) | quiet_step (fail))
                refine wpQuiet_nil ?_
                intro wq hbwq hcwq hfwq
                clear hcg
                have B9 := Lib.hid (hB1.out.trans (hbwq.mono hB1.out.size))
                clear hbwq hcwq hfwq
                go_wp2_with fail
                go_ret
                exact ⟨ret_bool SEQ.out.symm, B9.out⟩
            · have q2' : (x2.toList == y2.toList) = false := by simpa using q2
              clear q2
              go_wp2_with fail
              refine wp_qall (by kernel_rfl) (by kernel_rfl) ?_
              intro hcg
              repeat (first | go_big_quiet_step (fail) | quiet_step (fail))
              refine wpQuiet_nil ?_
              intro wq hbwq hcwq hfwq
              clear hcg
              have B9 := Lib.hid (hB1.out.trans (hbwq.mono hB1.out.size))
              clear hbwq hcwq hfwq
              go_wp2_with fail
              go_ret
              exact ⟨ret_bool SEQ.out.symm, B9.out⟩
          · have q1' : (x1.toList == y1.toList) = false := by simpa using q1
            clear q1
            go_wp2_with fail
            refine wp_qall (by kernel_rfl) (by kernel_rfl) ?_
            intro hcg
            repeat (first | go_big_quiet_step (fail) | quiet_step (fail))
            refine wpQuiet_nil ?_
            intro wq hbwq hcwq hfwq
            clear hcg
            have B9 := Lib.hid (hB1.out.trans (hbwq.mono hB1.out.size))
            clear hbwq hcwq hfwq
            go_wp2_with fail
            go_ret
            exact ⟨ret_bool SEQ.out.symm, B9.out⟩
      · have i1 : ¬ (i : Int) < (n : Int) := by omega
        have SEQ : Hid (E = true) := Lib.hid (by
          rw [HE.out]
          refine decide_eq_true ?_
          have h := hT.out
          rwa [List.take_of_length_le (by rw [HL.out]; omega), List.take_of_length_le (by rw [HL'.out]; omega)] at h)
        clear hlt
        go_wp2_with fail
        go_ret
        exact ⟨ret_bool SEQ.out.symm, hB1.out⟩
  · have SEQ : Hid (E = false) := Lib.hid (by
      rw [HE.out]
      exact decide_eq_false (fun e => hnn (by rw [← HL.out, ← HL'.out, e])))
    have h1 : ((n : Int) != (n' : Int)) = true := by rw [bne_iff_ne]; omega
    clear hnn
    go_enter Try.func21, Try.ntmps21
    go_wp2_with fail
    go_ret
    exact ⟨ret_bool SEQ.out.symm, Below.refl _ _⟩

set_option maxHeartbeats 800000 in
theorem keptE_any (A A' : Option Addr) (n n' c c' B B' : Nat) (fs l : List Ent) (hl : fs.length = n) (hl' : l.length = n') (hn : n ≤ 1000000) (hn' : n' ≤ 1000000) (w : World)
    (hr : Rd w B A (env fs)) (hB : B ≤ w.heap.size) (hr' : Rd w B' A' (env l)) (hB' : B' ≤ w.heap.size) :
    Calls Try.prog 14 #[.slice A n c, .slice A' n' c'] w fun e w' => e = .returned (.bool (decide (fs = lentE l))) ∧ Below w.heap.size w w' := by
  have HL := Lib.hid hl; clear hl
  have HL' := Lib.hid hl'; clear hl'
  have HR := Lib.hid hr; clear hr
  have HR' := Lib.hid hr'; clear hr'
  go_enter Try.func14, Try.ntmps14
  go_wp2_with fail
  refine (lentE_any A' n' c' B' l HL'.out hn' _ HR'.out hB').mono ?_
  rintro e w1 ⟨v1, rfl, own1, hb1⟩
  obtain ⟨A1, c1, rfl, -, r1⟩ := own_sl own1
  go_wp2_with fail
  refine (sameE_any A A1 n (n' + 3) c c1 _ _ fs (lentE l) HL.out (by rw [lentE_length, HL'.out]) hn _ (HR.out.below (hb1.mono hB)) (Nat.le_trans hB hb1.size) r1 (Nat.le_refl _)).mono ?_
  rintro e w2 ⟨rfl, hb2⟩
  go_wp2
  go_ret
  exact ⟨rfl, hb1.trans (hb2.mono hb1.size)⟩
end Go.Proofs.Ytdmpimgbnhgiaaa
