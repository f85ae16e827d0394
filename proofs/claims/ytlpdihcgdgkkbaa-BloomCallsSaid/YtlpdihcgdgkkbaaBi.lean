/- Walks: two filters together. -/
import Derived.Test.YtlpdihcgdgkkbaaBd
import Derived.Test.YtlpdihcgdgkkbaaKit
namespace Go.Proofs.Ytlpdihcgdgkkbaa
open Go.RowKit Go.St
set_option linter.unusedVariables false
set_option linter.unusedSimpArgs false
set_option maxRecDepth 100000

/-- Two filters together, up to a place. -/
def orTo (fa fb : List UInt8) (j : Nat) : List UInt8 := (List.range fa.length).map fun i => if 1 ≤ i ∧ i ≤ j then fa.getD i 0 ||| fb.getD i 0 else fa.getD i 0
theorem orTo_length (fa fb : List UInt8) (j : Nat) : (orTo fa fb j).length = fa.length := by simp [orTo]
theorem orTo_get (fa fb : List UInt8) (j i : Nat) (h : i < fa.length) : (orTo fa fb j)[i]? = some (if 1 ≤ i ∧ i ≤ j then fa.getD i 0 ||| fb.getD i 0 else fa.getD i 0) := by
  unfold orTo
  rw [List.getElem?_map, List.getElem?_range h]
  rfl
theorem orTo_zero (fa fb : List UInt8) : orTo fa fb 0 = fa := by
  apply List.ext_getElem?
  intro i
  by_cases h : i < fa.length
  · rw [orTo_get fa fb 0 i h, if_neg (by omega), List.getElem?_eq_getElem h]
    simp [List.getD, h]
  · rw [List.getElem?_eq_none (by rw [orTo_length]; omega), List.getElem?_eq_none (by omega)]
theorem orTo_succ (fa fb : List UInt8) (j : Nat) (hj : 1 + j < fa.length) : orTo fa fb (j + 1) = (orTo fa fb j).set (1 + j) (fa.getD (1 + j) 0 ||| fb.getD (1 + j) 0) := by
  apply List.ext_getElem?
  intro i
  rw [List.getElem?_set]
  by_cases h : i < fa.length
  · rw [orTo_get fa fb (j + 1) i h]
    by_cases e : 1 + j = i
    · subst e
      rw [if_pos (by omega), if_pos rfl, if_pos (by rw [orTo_length]; exact h)]
    · rw [if_neg e, orTo_get fa fb j i h]
      by_cases h2 : 1 ≤ i ∧ i ≤ j
      · rw [if_pos h2, if_pos (by omega)]
      · rw [if_neg h2, if_neg (by omega)]
  · rw [if_neg (by omega), List.getElem?_eq_none (by rw [orTo_length]; omega), List.getElem?_eq_none (by rw [orTo_length]; omega)]
theorem orTo_getD (fa fb : List UInt8) (j i : Nat) (h : i < fa.length) : (orTo fa fb j).getD i 0 = if 1 ≤ i ∧ i ≤ j then fa.getD i 0 ||| fb.getD i 0 else fa.getD i 0 := by
  rw [List.getD_eq_getElem?_getD, orTo_get fa fb j i h]; rfl
def orF (fa fb : List UInt8) : List UInt8 := orTo fa fb (fa.length - 1)
theorem orF_head (fa fb : List UInt8) (h : 0 < fa.length) : (orF fa fb).getD 0 0 = fa.getD 0 0 := by
  unfold orF; rw [orTo_getD _ _ _ _ h, if_neg (by omega)]
theorem orF_chk (fa fb : List UInt8) (h : bchk fa = 0) : bchk (orF fa fb) = 0 := by
  obtain ⟨h1, h2, h3⟩ := bchk_ok h
  unfold bchk
  rw [orF_head _ _ (by omega), if_pos]
  exact ⟨by unfold orF; rw [orTo_length]; exact h1, h2, h3⟩
theorem or_div (x y : UInt8) (i : Nat) : ((x ||| y).toNat / 2 ^ i % 2 == 1) = ((x.toNat / 2 ^ i % 2 == 1) || (y.toNat / 2 ^ i % 2 == 1)) := by
  rw [UInt8.toNat_or, ← Nat.toNat_testBit, ← Nat.toNat_testBit, ← Nat.toNat_testBit, Nat.testBit_or]
  cases x.toNat.testBit i <;> cases y.toNat.testBit i <;> rfl
theorem orF_get (fa fb : List UInt8) (p : Nat) (h : 1 + p / 8 < fa.length) : bget (orF fa fb) p = (bget fa p || bget fb p) := by
  unfold bget orF
  rw [orTo_getD _ _ _ _ h, if_pos (by omega)]
  exact or_div _ _ _
/-- What either filter has both together have. -/
theorem orF_ball (fa fb x : List UInt8) (h2 : 2 ≤ fa.length) (hl : fb.length = fa.length) (hh : fb.getD 0 0 = fa.getD 0 0) (h : ball fa x = true ∨ ball fb x = true) : ball (orF fa fb) x = true := by
  unfold ball at *
  rw [orF_head _ _ (by omega), show (orF fa fb).length = fa.length by unfold orF; exact orTo_length _ _ _]
  rw [List.all_eq_true]
  intro q hq
  have hm := bplaces_mem (by omega) hq
  rw [orF_get _ _ _ (by omega)]
  rcases h with h | h
  · rw [List.all_eq_true] at h
    rw [h q hq, Bool.true_or]
  · rw [hl, hh, List.all_eq_true] at h
    rw [h q hq, Bool.or_true]

theorem bt_or2 (x y : UInt8) : bits .or .u8 ((x.toNat : Nat) : Int) ((y.toNat : Nat) : Int) = (((x ||| y).toNat : Nat) : Int) := by
  rw [u8_or_nat _ _ x.toNat_lt y.toNat_lt, UInt8.toNat_or]

set_option maxHeartbeats 1600000 in
theorem both_any (A A' : Option Addr) (n c c' B B' : Nat) (fa fb : List UInt8) (hl : fa.length = n) (hl' : fb.length = n) (hca : bchk fa = 0) (hcb : bchk fb = 0) (hh : fb.getD 0 0 = fa.getD 0 0) (hn : n ≤ 140737488355328) (hcc : n ≤ c')
    (w : World) (hr : Rd w B A (bv fa)) (hr' : Rd w B' A' (bv fb)) (hB : B ≤ w.heap.size) (hB' : B' ≤ w.heap.size) :
    Calls Try.prog 25 #[.slice A n c, .slice A' n c'] w fun e w' => ∃ v, e = .returned (.tuple #[v, .int .i64 0]) ∧ w'.ownsRow w.heap.size 5 1 v n (bv (orF fa fb)) ∧ Below w.heap.size w w' := by
  obtain ⟨h2, h3, h4⟩ := bchk_ok hca
  obtain ⟨b, off, rfl, hb, hx⟩ := hr.at_ (bv_getD fa 0 (by omega))
  obtain ⟨b', off', rfl, hb', hx'⟩ := hr'.at_ (bv_getD fb 0 (by omega))
  rw [hh] at hx'
  rw [Nat.add_zero] at hx hx'
  have k1 := bcheck_any (some ⟨b, off, none⟩) n c B fa hl w hr
  have k2 := bcheck_any (some ⟨b', off', none⟩) n c' B' fb hl' w hr'
  rw [hca] at k1
  rw [hcb] at k2
  have n2 : 2 ≤ n := by omega
  generalize (fa.getD 0 0).toNat = x at *
  have K1 := Lib.hid k1; have K2 := Lib.hid k2; have HL := Lib.hid hl; have HL' := Lib.hid hl'; have HR := Lib.hid hr; have HR' := Lib.hid hr'
  have q1 : ((n : Int) != (n : Int)) = false := by simp
  have q2 : ((x : Int) != (x : Int)) = false := by simp
  have c2 : 1 < c' := by omega
  have i0 : (0 : Int) < (n : Int) := by omega
  have hbw : b < w.heap.size := by omega
  have hbw' : b' < w.heap.size := by omega
  clear k1 k2 hl hl' hr hr' hca hcb hh h2 h3 h4
  go_enter Try.func25, Try.ntmps25
  go_wp2_with fail
  refine K1.out.mono ?_
  rintro e w' ⟨rfl, rfl⟩
  go_wp2_with fail
  refine K2.out.mono ?_
  rintro e w' ⟨rfl, rfl⟩
  go_wp2_with fail
  refine wp_qall (by kernel_rfl) (by kernel_rfl) ?_
  intro hcg
  repeat (first | go_big_quiet_step (fail) | quiet_step (fail))
  refine wpQuiet_nil ?_
  intro wq hbwq hcwq hfwq
  clear hcg
  have HBq : Hid (Below w.heap.size w wq) := hbwq
  have RQ := Lib.hid (HR.out.below (hbwq.mono hB))
  have RQ' := Lib.hid (HR'.out.below (hbwq.mono hB'))
  have hsq := hbwq.size
  clear hbwq hcwq hfwq hx hx' q2
  go_wp2_with (at_builtin; refine wpList_app sty8 _ (.tmp 35) rfl rfl w.heap.size (World.ownsRow_nil wq _ _ _) rfl n c RQ.out rfl (by rw [bv_length, HL.out]; omega) (bv_one _) (by unfold maxLen; omega) (by omega) hsq ?_; intro v1 w1 own1 gr1 nil1 at1)
  have o1 : w1.ownsRow w.heap.size 5 1 v1 n (bv (orTo fa fb 0)) := own_eq own1 (by omega) (by rw [orTo_zero]; rfl)
  have B1 : Hid (Below w.heap.size w w1) := HBq.out.grown gr1 HBq.out.size (by simp [Value.ownBlock])
  obtain ⟨g, cap, rfl, hnc, hcap, hg1, hg2⟩ := own_blk o1 (by omega)
  have O1 := Lib.hid o1
  clear o1 own1 gr1 nil1 at1 RQ RQ' hsq
  go_loopw [40] (fun i wr => ∃ j : Nat, j + 1 ≤ n ∧ i = .int .i64 j ∧ Hid (wr.ownsRow w.heap.size 5 1 (.slice (some ⟨g, 0, none⟩) n cap) n (bv (orTo fa fb j))) ∧ Hid (Below w.heap.size w wr)) (fun i _ => n - (intOf i).toNat)
  case atStart => exact ⟨0, by omega, rfl, O1, B1⟩
  case round =>
    obtain ⟨j, hj, rfl, O2, B2⟩ := hrel
    by_cases hlt : 1 + j < n
    · obtain ⟨b2, off2, e, hb2, hx2⟩ := (HR'.out.below (B2.out.mono hB')).at_ (bv_getD fb (1 + j) (by rw [HL'.out]; exact hlt))
      injection e with e
      injection e with e1 e2
      subst e1 e2
      rw [← Nat.add_assoc] at hx2
      have hcx := O2.out.cellAt (1 + j) (by omega)
      rw [bv_getD (orTo fa fb j) (1 + j) (by rw [orTo_length, HL.out]; exact hlt), orTo_getD _ _ _ _ (by rw [HL.out]; exact hlt), if_neg (by omega)] at hcx
      have hfx := O2.out.frozenAt (1 + j)
      have hss := orTo_succ fa fb j (by rw [HL.out]; exact hlt)
      have ho := bt_or2 (fa.getD (1 + j) 0) (fb.getD (1 + j) 0)
      have HSS := Lib.hid hss; clear hss
      generalize fa.getD (1 + j) 0 = x2 at *
      generalize fb.getD (1 + j) 0 = y2 at *
      have s5 := (O2.out.stored (1 + j) (bt (x2 ||| y2))).1
      rw [bv_set, ← HSS.out] at s5
      unfold bt at s5
      rw [← ho] at s5
      have S5 := Lib.hid s5
      clear s5 ho
      have i1 : (j : Int) < (n : Int) - 1 := by omega
      have i2 : (1 : Int) + (j : Int) < (n : Int) := by omega
      go_wp2
      exact ⟨⟨j + 1, by omega, by go_num, S5.out, B2.out.setCell hg1 _⟩, by simp [intOf]; omega⟩
    · have hjn : j = n - 1 := by omega
      have ho := O2.out
      rw [hjn] at ho
      have HO : Hid (wr.ownsRow w.heap.size 5 1 (.slice (some ⟨g, 0, none⟩) n cap) n (bv (orF fa fb))) := by
        unfold orF
        rw [HL.out]
        exact ho
      have h3 : ¬ (j : Int) < (n : Int) - 1 := by omega
      clear ho hjn
      go_wp2
      go_ret2
      exact ⟨_, rfl, HO.out, B2.out⟩
end Go.Proofs.Ytlpdihcgdgkkbaa
