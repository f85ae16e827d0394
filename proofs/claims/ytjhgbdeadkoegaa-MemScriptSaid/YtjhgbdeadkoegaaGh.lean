/- Walks of the kit's own functions on numbers: copied, lent, compared, kept. -/
import Derived.Test.YtjhgbdeadkoegaaNv
import Derived.Deep.Cut
namespace Go.Proofs.Ytjhgbdeadkoegaa
open Go.RowKit Go.St Go.Maps
set_option linter.unusedVariables false
set_option linter.unusedSimpArgs false
set_option maxRecDepth 100000

def lentI (l : List Int) : List Int := l ++ [7777777, 7777778, 7777779]
theorem lentI_length (l : List Int) : (lentI l).length = l.length + 3 := by simp [lentI]
theorem lentI_take (l : List Int) : (nv (lentI l)).take l.length = nv l := by
  unfold lentI
  rw [nv_app, List.take_append_of_le_length (by rw [nv_length]; exact Nat.le_refl _), List.take_of_length_le (by rw [nv_length]; exact Nat.le_refl _)]
set_option maxHeartbeats 800000 in
theorem copyI_any (A : Option Addr) (n c B : Nat) (l : List Int) (hl : l.length = n) (hn : n ≤ 1000000) (w : World) (hr : Rd w B A (nv l)) (hB : B ≤ w.heap.size) :
    Calls Try.prog 42 #[.slice A n c] w fun e w' => ∃ v, e = .returned v ∧ w'.ownsRow w.heap.size 3 1 v n (nv l) ∧ Below w.heap.size w w' := by
  have HL := Lib.hid hl; clear hl
  have HR := Lib.hid hr; clear hr
  go_enter Try.func42, Try.ntmps42
  go_wp2_with (at_builtin; refine wpList_app styI (.tmp 3) (.tmp 4) rfl rfl w.heap.size (World.ownsRow_lit w #[] 0 (Nat.le_refl _) (by decide) rfl) rfl n c (Rd.alloc HR.out hB _) rfl (by rw [nv_length, HL.out, Nat.mul_one]) (nv_one _) (by unfold maxLen; omega) (by omega) (by simp) ?_; intro v1 w1 own1 gr1 nil1 at1)
  have hb1 : Hid (Below w.heap.size w w1) := Lib.hid (((Below.refl _ _).alloc (Nat.le_refl _) _).grown gr1 (by simp) (by simp [Value.ownBlock]))
  go_ret
  exact ⟨_, rfl, own_eq own1 (by omega) (by simp), hb1.out⟩
set_option maxHeartbeats 1600000 in
theorem lentI_any (A : Option Addr) (n c B : Nat) (l : List Int) (hl : l.length = n) (hn : n ≤ 1000000) (w : World) (hr : Rd w B A (nv l)) (hB : B ≤ w.heap.size) :
    Calls Try.prog 25 #[.slice A n c] w fun e w' => ∃ v, e = .returned v ∧ w'.ownsRow w.heap.size 3 1 v (n + 3) (nv (lentI l)) ∧ Below w.heap.size w w' := by
  have HL := Lib.hid hl; clear hl
  have HR := Lib.hid hr; clear hr
  go_enter Try.func25, Try.ntmps25
  go_wp2_with fail
  refine (copyI_any A n c B l HL.out hn w HR.out hB).mono ?_
  rintro e w1 ⟨v1, rfl, own1, hb1⟩
  have hb1 := Lib.hid hb1
  have HO : Hid (w1.ownsRow w.heap.size 3 1 v1 (n + 0) (nv (l ++ [7777777, 7777778, 7777779].take 0))) := Lib.hid (own_eq own1 (by omega) (by simp))
  clear own1
  go_wp2_with fail
  go_loopw [3, 4] (fun v i wr => ∃ k : Nat, k ≤ 3 ∧ i = .int .i64 k ∧ Hid (wr.ownsRow w.heap.size 3 1 v (n + k) (nv (l ++ [7777777, 7777778, 7777779].take k))) ∧ Hid (Below w.heap.size w wr)) (fun _ i _ => 3 - (intOf i).toNat)
  case atStart => exact ⟨0, Nat.zero_le _, rfl, HO, hb1⟩
  case round =>
    obtain ⟨k, hk, rfl, hown, hbw⟩ := hrel
    clear hb1 HO
    by_cases hk4 : k < 3
    · have e1 : nv (l ++ [7777777, 7777778, 7777779].take k) ++ [Value.int .i64 (7777777 + (k : Int))] = nv (l ++ [7777777, 7777778, 7777779].take (k + 1)) := by
        rcases (by omega : k = 0 ∨ k = 1 ∨ k = 2) with rfl | rfl | rfl <;> simp [nv]
      have E1 := Lib.hid e1; clear e1
      go_wp2_with (at_builtin; refine wpList_app styI (.tmp 11) (.tmp 14) rfl rfl w.heap.size (hown.out.alloc _) rfl 1 1 (rd_frC _ _ _ _) rfl rfl (by simp [Value.oneCell']) (by unfold maxLen; omega) (by omega) (by have := hbw.out.size; simp; omega) ?_; intro v2 w2 own2 gr2 nil2 at2)
      exact ⟨⟨k + 1, by omega, by go_num, Lib.hid (own_eq own2 (by omega) E1.out), Lib.hid ((hbw.out.alloc hbw.out.size _).grown gr2 (by have := hbw.out.size; simp; omega) (fun g hg => (hown.out.lt g hg).1))⟩, by simp [intOf]; omega⟩
    · obtain rfl : k = 3 := by omega
      go_wp2
      go_ret
      exact ⟨_, rfl, own_eq hown.out (by omega) rfl, hbw.out⟩
set_option maxHeartbeats 1600000 in
theorem sameI_any (A A' : Option Addr) (n n' c c' B B' : Nat) (l l' : List Int) (hl : l.length = n) (hl' : l'.length = n') (hn : n ≤ 1000000) (w : World)
    (hr : Rd w B A (nv l)) (hB : B ≤ w.heap.size) (hr' : Rd w B' A' (nv l')) (hB' : B' ≤ w.heap.size) :
    Calls Try.prog 23 #[.slice A n c, .slice A' n' c'] w fun e w' => e = .returned (.bool (decide (l = l'))) ∧ Below w.heap.size w w' := by
  obtain ⟨E, hE⟩ : ∃ E, E = decide (l = l') := ⟨_, rfl⟩
  rw [← hE]
  have HE := Lib.hid hE
  have HL := Lib.hid hl
  have HL' := Lib.hid hl'
  have HR := Lib.hid hr
  have HR' := Lib.hid hr'
  clear hl hl' hr hr' hE
  by_cases hnn : n = n'
  · subst hnn
    go_enter Try.func23, Try.ntmps23
    go_wp2_with fail
    go_loopw [5] (fun s5 wr => ∃ i : Nat, s5 = .int .i64 (i : Int) ∧ i ≤ n ∧ Hid (l.take i = l'.take i) ∧ Hid (Below w.heap.size w wr)) (fun s5 _ => n - (intOf s5).toNat)
    case atStart => exact ⟨0, rfl, Nat.zero_le _, Lib.hid rfl, Lib.hid (Below.refl _ _)⟩
    case round =>
      obtain ⟨i, rfl, hi, hT, hB1⟩ := hrel
      obtain ⟨w2, rfl⟩ : ∃ x, x = wr := ⟨_, rfl⟩
      by_cases hlt : i < n
      · obtain ⟨x, hx⟩ : ∃ x, l[i]? = some x := ⟨_, List.getElem?_eq_getElem (by rw [HL.out]; exact hlt)⟩
        obtain ⟨y, hy⟩ : ∃ y, l'[i]? = some y := ⟨_, List.getElem?_eq_getElem (by rw [HL'.out]; exact hlt)⟩
        obtain ⟨b, off, rfl, hb, hce⟩ := (HR.out.below (hB1.out.mono hB)).at_ (nv_get hx)
        obtain ⟨b', off', rfl, hb', hce'⟩ := (HR'.out.below (hB1.out.mono hB')).at_ (nv_get hy)
        have HX := Lib.hid hx
        have HY := Lib.hid hy
        have i1 : (i : Int) < (n : Int) := by omega
        have i0 : (0 : Int) ≤ (i : Int) := by omega
        have z1 : b < w2.heap.size := by have := hB1.out.size; omega
        have z2 : b' < w2.heap.size := by have := hB1.out.size; omega
        clear hx hy
        by_cases hxy : x = y
        · have e1 : (x != y) = false := by rw [bne_eq_false_iff_eq]; exact hxy
          have HT9 : Hid (l.take (i + 1) = l'.take (i + 1)) := Lib.hid (by
            rw [List.take_add_one, List.take_add_one, HX.out, HY.out, hT.out, hxy])
          clear hxy
          go_wp2_with fail
          refine wp_qall (by kernel_rfl) (by kernel_rfl) ?_
          intro hcg
          repeat (first | go_big_quiet_step (fail) | quiet_step (fail))
          refine wpQuiet_nil ?_
          intro wq hbwq hcwq hfwq
          clear hcg
          have B9 := Lib.hid (hB1.out.trans (hbwq.mono hB1.out.size))
          clear hbwq hcwq hfwq
          go_wp2_with fail
          go_roundw
          case rel => exact ⟨i + 1, by go_num, by omega, HT9, B9⟩
          case measure => simp [intOf]; omega
        · have SEQ : Hid (E = false) := Lib.hid (by
            rw [HE.out]
            refine decide_eq_false (fun e => hxy ?_)
            have h2 := HX.out
            rw [e, HY.out] at h2
            injection h2 with h2
            exact h2.symm)
          have e1 : (x != y) = true := by rw [bne_iff_ne]; exact hxy
          clear hxy HE
          go_wp2_with fail
          refine wp_qall (by kernel_rfl) (by kernel_rfl) ?_
          intro hcg
          repeat (first | go_big_quiet_step (fail) | quiet_step (fail))
          refine wpQuiet_nil ?_
          intro wq hbwq hcwq hfwq
          clear hcg
          have B9 := Lib.hid (hB1.out.trans (hbwq.mono hB1.out.size))
          clear hbwq hcwq hfwq
          go_wp2_with fail
          go_ret
          exact ⟨ret_bool SEQ.out.symm, B9.out⟩
      · have i1 : ¬ (i : Int) < (n : Int) := by omega
        have SEQ : Hid (E = true) := Lib.hid (by
          rw [HE.out]
          refine decide_eq_true ?_
          have h := hT.out
          rwa [List.take_of_length_le (by rw [HL.out]; omega), List.take_of_length_le (by rw [HL'.out]; omega)] at h)
        clear hlt
        go_wp2_with fail
        go_ret
        exact ⟨ret_bool SEQ.out.symm, hB1.out⟩
  · have SEQ : Hid (E = false) := Lib.hid (by
      rw [HE.out]
      exact decide_eq_false (fun e => hnn (by rw [← HL.out, ← HL'.out, e])))
    have h1 : ((n : Int) != (n' : Int)) = true := by rw [bne_iff_ne]; omega
    clear hnn
    go_enter Try.func23, Try.ntmps23
    go_wp2_with fail
    go_ret
    exact ⟨ret_bool SEQ.out.symm, Below.refl _ _⟩
set_option maxHeartbeats 800000 in
theorem keptI_any (A A' : Option Addr) (n n' c c' B B' : Nat) (fs l : List Int) (hl : fs.length = n) (hl' : l.length = n') (hn : n ≤ 1000000) (hn' : n' ≤ 1000000) (w : World)
    (hr : Rd w B A (nv fs)) (hB : B ≤ w.heap.size) (hr' : Rd w B' A' (nv l)) (hB' : B' ≤ w.heap.size) :
    Calls Try.prog 27 #[.slice A n c, .slice A' n' c'] w fun e w' => e = .returned (.bool (decide (fs = lentI l))) ∧ Below w.heap.size w w' := by
  have HL := Lib.hid hl; clear hl
  have HL' := Lib.hid hl'; clear hl'
  have HR := Lib.hid hr; clear hr
  have HR' := Lib.hid hr'; clear hr'
  go_enter Try.func27, Try.ntmps27
  go_wp2_with fail
  refine (lentI_any A' n' c' B' l HL'.out hn' _ HR'.out hB').mono ?_
  rintro e w1 ⟨v1, rfl, own1, hb1⟩
  obtain ⟨A1, c1, rfl, -, r1⟩ := own_sl own1
  have R1 := Lib.hid r1
  have B1 := Lib.hid hb1
  have R2 := Lib.hid (HR.out.below (hb1.mono hB))
  have hs := hb1.size
  clear own1 hb1 r1
  go_wp2_with fail
  refine (sameI_any A A1 n (n' + 3) c c1 _ _ fs (lentI l) HL.out (by rw [lentI_length, HL'.out]) hn w1 R2.out (by omega) R1.out (Nat.le_refl _)).mono ?_
  rintro e w2 ⟨rfl, hb⟩
  have B2 := Lib.hid (B1.out.trans (hb.mono hs))
  go_wp2
  go_ret
  exact ⟨rfl, B2.out⟩
end Go.Proofs.Ytjhgbdeadkoegaa
