/- Walks: the cells up to a stamp; cells without some. -/
import Derived.Test.YtgikaglmeeeplaaIt
import Derived.Test.YtgikaglmeeeplaaQTail
namespace Go.Proofs.Ytgikaglmeeeplaa
open Go.RowKit Go.St
set_option linter.unusedVariables false
set_option linter.unusedSimpArgs false
set_option maxRecDepth 100000

set_option maxHeartbeats 3200000 in
theorem upto24_any (A : Option Addr) (n c : Nat) (cs : List Cel) (hl : cs.length = n) (hn : n ≤ 1000000) (t : Stp) (B : Nat) (w : World) (hr : Rd w B A (cev cs)) (hB : B ≤ w.heap.size) :
    Calls Try.prog 21 #[.slice A n c, .agg #[.int .i64 t.wall, .int .i32 t.logic, .int .i32 t.tag]] w fun e w' => ∃ v, e = .returned v ∧ w'.ownsRow w.heap.size 45 6 v (cs.filter (fun c => le c.at_ t)).length (cev (cs.filter (fun c => le c.at_ t))) ∧ Below w.heap.size w w' := by
  have HL := Lib.hid hl
  have HR := Lib.hid hr
  clear hl hr
  obtain ⟨E, hE⟩ : ∃ E, E = cs.filter (fun c => le c.at_ t) := ⟨_, rfl⟩
  rw [← hE]
  have HE := Lib.hid hE
  clear hE
  go_enter Try.func21, Try.ntmps21
  go_wp2_with fail
  have X1 : Hid (BxV (w.alloc (.cells #[.int .i64 t.wall, .int .i32 t.logic, .int .i32 t.tag] 25)) w.heap.size (spc t)) := Lib.hid (BxV.new w _ _)
  have B1 : Hid (Below w.heap.size w (w.alloc (.cells #[.int .i64 t.wall, .int .i32 t.logic, .int .i32 t.tag] 25))) := Lib.hid ((Below.refl _ _).alloc (Nat.le_refl _) _)
  have hz : w.heap.size < (w.alloc (.cells #[.int .i64 t.wall, .int .i32 t.logic, .int .i32 t.tag] 25)).heap.size := by simp
  generalize w.alloc (.cells #[.int .i64 t.wall, .int .i32 t.logic, .int .i32 t.tag] 25) = w1 at *
  have R1 := Lib.hid (HR.out.below (B1.out.mono hB))
  have hB1' : B ≤ w1.heap.size := by omega
  go_loopw [5, 6] (fun s5 s6 wr => ∃ (A5 : Option Addr) (c5 : Nat) (out : List Cel) (i : Nat), s5 = .slice A5 out.length c5 ∧ s6 = .int .i64 (i : Int) ∧ i ≤ n ∧ Hid (out = (cs.take i).filter (fun c => le c.at_ t)) ∧ Hid (wr.ownsRow w1.heap.size 45 6 (.slice A5 out.length c5) out.length (cev out)) ∧ Hid (Below w1.heap.size w1 wr)) (fun s5 s6 _ => n - (intOf s6).toNat)
  case atStart => exact ⟨none, 0, [], 0, rfl, rfl, Nat.zero_le _, Lib.hid rfl, Lib.hid (World.ownsRow_nil _ _ _ _), Lib.hid (Below.refl _ _)⟩
  case round =>
    obtain ⟨A5, c5, out, i, rfl, rfl, hi, HQ, HO, hB2⟩ := hrel
    obtain ⟨w2, rfl⟩ : ∃ x, x = wr := ⟨_, rfl⟩
    by_cases hlt : i < n
    · obtain ⟨x, hx⟩ : ∃ x, cs[i]? = some x := ⟨_, List.getElem?_eq_getElem (by rw [HL.out]; exact hlt)⟩
      obtain ⟨b, off, rfl, hb, hce⟩ := ce_at R1.out hx
      obtain ⟨d0, d1, d2, d3, d4, d5⟩ := hce.below (Nat.lt_of_lt_of_le hb hB1') hB2.out
      have HX := Lib.hid hx
      have X2 := X1.out.next hB2.out
      have a0 := X2.c 0 _ rfl
      have a1 := X2.c 1 _ rfl
      have a2 := X2.c 2 _ rfl
      have za := X2.lt
      have zb : b < w2.heap.size := by have := hB2.out.size; omega
      have i1 : (i : Int) < (n : Int) := by omega
      have i0 : (0 : Int) ≤ (i : Int) := by omega
      have hol : out.length ≤ i := by
        rw [HQ.out]
        exact Nat.le_trans (List.length_filter_le _ _) (List.length_take_le _ _)
      clear hce hx X2
      go_wp2_with fail
      refine wp_qall (by kernel_rfl) (by kernel_rfl) ?_
      intro hcg
      repeat (first | go_big_quiet_step ((with_reducible (exact Calls.reg (rless_any t x.at_ _)))) | quiet_step ((with_reducible (exact Calls.reg (rless_any t x.at_ _)))))
      refine wpQuiet_nil ?_
      intro wq hbwq hcwq hfwq
      clear hcg
      have B9 := Lib.hid (hB2.out.trans (hbwq.mono hB2.out.size))
      have O9 := Lib.hid (own_keep HO.out hbwq (Nat.le_refl _))
      have e0 := (hcwq _ _ zb).trans d0
      have e1 := (hcwq _ _ zb).trans d1
      have e2 := (hcwq _ _ zb).trans d2
      have e3 := (hcwq _ _ zb).trans d3
      have e4 := (hcwq _ _ zb).trans d4
      have e5 := (hcwq _ _ zb).trans d5
      have hs9 := B9.out.size
      clear d0 d1 d2 d3 d4 d5 a0 a1 a2 hbwq hcwq hfwq hB2 HO za zb
      cases k1 : less t x.at_
      · have HQ9 : Hid (out ++ [x] = (cs.take (i + 1)).filter (fun c => le c.at_ t)) := Lib.hid (by rw [late_snoc HX.out, if_pos (by unfold le; rw [k1]; rfl), HQ.out])
        clear HQ k1
        go_wp2_with (at_builtin; refine wpList_app styC (.tmp 21) (.tmp 26) rfl rfl w1.heap.size (O9.out.alloc _) rfl 1 1 (rd_frC _ _ _ _) rfl rfl (by simp [Value.oneCell']) (by unfold maxLen; omega) (by omega) (by rw [World.size_alloc]; omega) ?_; intro v5 w5 own5 gr5 nil5 at5; obtain ⟨A6, c6, rfl, -, -⟩ := own_sl own5)
        have B10 := Lib.hid ((B9.out.alloc hs9 _).grown gr5 (by rw [World.size_alloc]; omega) (fun g e => (O9.out.lt g e).1))
        have O10 : Hid (w5.ownsRow w1.heap.size 45 6 (.slice A6 (out.length + 1) c6) (out ++ [x]).length (cev (out ++ [x]))) := Lib.hid (own_eq own5 (by simp) (by rw [cev_app]; rfl))
        go_roundw
        case rel => exact ⟨A6, c6, out ++ [x], i + 1, by rw [List.length_append]; rfl, by go_num, by omega, HQ9, Lib.hid (by have h := O10.out; rw [List.length_append] at h ⊢; exact h), B10⟩
        case measure => simp [intOf]; omega
      · have HQ9 : Hid (out = (cs.take (i + 1)).filter (fun c => le c.at_ t)) := Lib.hid (by rw [late_snoc HX.out, if_neg (by unfold le; rw [k1]; simp), HQ.out, List.append_nil])
        clear HQ k1
        go_wp2_with fail
        go_roundw
        case rel => exact ⟨A5, c5, out, i + 1, rfl, by go_num, by omega, HQ9, O9, B9⟩
        case measure => simp [intOf]; omega
    · have i1 : ¬ (i : Int) < (n : Int) := by omega
      have SEQ : Hid (E = out) := Lib.hid (by rw [HE.out, HQ.out, List.take_of_length_le (by rw [HL.out]; omega)])
      clear HQ hlt
      go_wp2_with fail
      go_ret
      exact ⟨_, rfl, by rw [SEQ.out]; exact own_base HO.out (Nat.le_of_lt hz), B1.out.trans (hB2.out.mono (Nat.le_of_lt hz))⟩

theorem without_one {c : Cel} {r : List Cel} {gs : List Cel} {k : Nat} (h : ∀ g, gs[k]? = some g → c ≠ g) : withoutM (c :: r) (gs.drop k) = c :: withoutM r (gs.drop k) := by
  cases hg : gs[k]? with
  | none =>
    rw [List.drop_eq_nil_of_le (List.getElem?_eq_none_iff.1 hg)]
    rfl
  | some g =>
    rw [drop_at hg, withoutM, if_neg (h g hg)]

set_option maxHeartbeats 6400000 in
theorem without24_any (A : Option Addr) (n c : Nat) (cs : List Cel) (hl : cs.length = n) (hn : n ≤ 1000000) (A' : Option Addr) (n' c' : Nat) (gs : List Cel) (hl' : gs.length = n') (hn' : n' ≤ 1000000) (hd : ∀ c ∈ cs, ∀ g ∈ gs, c.key = g.key → c.at_ = g.at_ → c = g) (B : Nat) (w : World) (hr : Rd w B A (cev cs)) (hr' : Rd w B A' (cev gs)) (hB : B ≤ w.heap.size) :
    Calls Try.prog 22 #[.slice A n c, .slice A' n' c'] w fun e w' => ∃ v, e = .returned v ∧ w'.ownsRow w.heap.size 45 6 v (withoutM cs gs).length (cev (withoutM cs gs)) ∧ Below w.heap.size w w' := by
  have HL := Lib.hid hl
  have HR := Lib.hid hr
  have HL' := Lib.hid hl'
  have HR' := Lib.hid hr'
  have HD := Lib.hid hd
  clear hl hr hl' hr' hd
  obtain ⟨E, hE⟩ : ∃ E, E = withoutM cs gs := ⟨_, rfl⟩
  rw [← hE]
  have HE := Lib.hid hE
  clear hE
  go_enter Try.func22, Try.ntmps22
  go_wp2_with fail
  go_loopw [5, 6, 7] (fun s5 s6 s7 wr => ∃ (A5 : Option Addr) (c5 : Nat) (out : List Cel) (k i : Nat), s5 = .slice A5 out.length c5 ∧ s6 = .int .i64 (k : Int) ∧ s7 = .int .i64 (i : Int) ∧ k ≤ n' ∧ i ≤ n ∧ Hid (out.length ≤ i) ∧ Hid (wr.ownsRow w.heap.size 45 6 (.slice A5 out.length c5) out.length (cev out)) ∧ Hid (E = out ++ withoutM (cs.drop i) (gs.drop k)) ∧ Hid (Below w.heap.size w wr)) (fun s5 s6 s7 _ => n - (intOf s7).toNat)
  case atStart => exact ⟨none, 0, [], 0, 0, rfl, rfl, rfl, Nat.zero_le _, Nat.zero_le _, Lib.hid (Nat.le_refl _), Lib.hid (World.ownsRow_nil _ _ _ _), HE, Lib.hid (Below.refl _ _)⟩
  case round =>
    obtain ⟨A5, c5, out, k, i, rfl, rfl, rfl, hk, hi, HOL, HO, HQ, hB2⟩ := hrel
    obtain ⟨w2, rfl⟩ : ∃ x, x = wr := ⟨_, rfl⟩
    by_cases hlt : i < n
    · obtain ⟨x, hx⟩ : ∃ x, cs[i]? = some x := ⟨_, List.getElem?_eq_getElem (by rw [HL.out]; exact hlt)⟩
      obtain ⟨b, off, rfl, hb, hce⟩ := ce_at HR.out hx
      obtain ⟨d0, d1, d2, d3, d4, d5⟩ := hce.below (Nat.lt_of_lt_of_le hb hB) hB2.out
      have HX := Lib.hid hx
      have zb : b < w2.heap.size := by have := hB2.out.size; omega
      have i1 : (i : Int) < (n : Int) := by omega
      have i0 : (0 : Int) ≤ (i : Int) := by omega
      have hol : out.length ≤ i := HOL.out
      clear hce hx
      by_cases hkn : k < n'
      · obtain ⟨g, hg⟩ : ∃ g, gs[k]? = some g := ⟨_, List.getElem?_eq_getElem (by rw [HL'.out]; exact hkn)⟩
        obtain ⟨b', off', rfl, hb', hce'⟩ := ce_at HR'.out hg
        obtain ⟨f0, f1, f2, f3, f4, f5⟩ := hce'.below (Nat.lt_of_lt_of_le hb' hB) hB2.out
        have HG := Lib.hid hg
        have zb' : b' < w2.heap.size := by have := hB2.out.size; omega
        have k1 : (k : Int) < (n' : Int) := by omega
        have k0 : (0 : Int) ≤ (k : Int) := by omega
        have k2 : decide ((k : Int) < (n' : Int)) = true := decide_eq_true k1
        clear hce' hg
        have HDX := Lib.hid (HD.out x (List.mem_of_getElem? HX.out) g (List.mem_of_getElem? HG.out))
        by_cases heq : x = g
        · have HQ9 : Hid (E = out ++ withoutM (cs.drop (i + 1)) (gs.drop (k + 1))) := Lib.hid (by rw [HQ.out, drop_at HX.out, drop_at HG.out, withoutM, if_pos heq])
          clear HQ HDX
          subst heq
          go_wp2_with fail
          refine wp_qall (by kernel_rfl) (by kernel_rfl) ?_
          intro hcg
          repeat (first | go_big_quiet_step (fail) | quiet_step (fail))
          refine wpQuiet_nil ?_
          intro wq hbwq hcwq hfwq
          clear hcg
          have B9 := Lib.hid (hB2.out.trans (hbwq.mono hB2.out.size))
          have O9 := Lib.hid (own_keep HO.out hbwq (Nat.le_refl _))
          clear hbwq hcwq hfwq hB2 HO
          go_wp2_with fail
          go_roundw
          case rel => exact ⟨A5, c5, out, k + 1, i + 1, rfl, by go_num, by go_num, by omega, by omega, Lib.hid (by omega), O9, HQ9, B9⟩
          case measure => simp [intOf]; omega
        · have HNE : Hid (∀ g, gs[k]? = some g → x ≠ g) := Lib.hid (fun g' hg' => by
            rw [HG.out] at hg'
            injection hg' with hg'
            rw [← hg']
            exact heq)
          by_cases q0 : x.key = g.key
          · have hat : x.at_ ≠ g.at_ := fun e => heq (HDX.out q0 e)
            by_cases q1 : x.at_.wall = g.at_.wall
            · by_cases q2 : x.at_.logic = g.at_.logic
              · have q3 : x.at_.tag ≠ g.at_.tag := fun e => hat (stp_ext q1 q2 e)
                have g3 : (x.at_.tag == g.at_.tag) = false := by simpa using q3
                clear q0 q1 q2 q3 hat heq HDX
                have HQ9 : Hid (E = (out ++ [x]) ++ withoutM (cs.drop (i + 1)) (gs.drop k)) := Lib.hid (by rw [HQ.out, drop_at HX.out, without_one HNE.out]; simp)
                clear HQ
                go_wp2_with fail
                refine wp_qall (by kernel_rfl) (by kernel_rfl) ?_
                intro hcg
                repeat (first | go_big_quiet_step (fail) | quiet_step (fail))
                refine wpQuiet_nil ?_
                intro wq hbwq hcwq hfwq
                clear hcg
                have B9 := Lib.hid (hB2.out.trans (hbwq.mono hB2.out.size))
                have O9 := Lib.hid (own_keep HO.out hbwq (Nat.le_refl _))
                have e0 := (hcwq _ _ zb).trans d0
                have e1 := (hcwq _ _ zb).trans d1
                have e2 := (hcwq _ _ zb).trans d2
                have e3 := (hcwq _ _ zb).trans d3
                have e4 := (hcwq _ _ zb).trans d4
                have e5 := (hcwq _ _ zb).trans d5
                have hs9 := B9.out.size
                clear d0 d1 d2 d3 d4 d5 hbwq hcwq hfwq hB2 HO zb
                go_wp2_with (at_builtin; refine wpList_app styC (.tmp 31) (.tmp 36) rfl rfl w.heap.size (O9.out.alloc _) rfl 1 1 (rd_frC _ _ _ _) rfl rfl (by simp [Value.oneCell']) (by unfold maxLen; omega) (by omega) (by rw [World.size_alloc]; omega) ?_; intro v5 w5 own5 gr5 nil5 at5; obtain ⟨A6, c6, rfl, -, -⟩ := own_sl own5)
                have B10 := Lib.hid ((B9.out.alloc hs9 _).grown gr5 (by rw [World.size_alloc]; omega) (fun g e => (O9.out.lt g e).1))
                have O10 : Hid (w5.ownsRow w.heap.size 45 6 (.slice A6 (out.length + 1) c6) (out ++ [x]).length (cev (out ++ [x]))) := Lib.hid (own_eq own5 (by simp) (by rw [cev_app]; rfl))
                go_roundw
                case rel => exact ⟨A6, c6, out ++ [x], k, i + 1, by rw [List.length_append]; rfl, rfl, by go_num, hk, by omega, Lib.hid (by rw [List.length_append]; have := HOL.out; simp only [List.length_cons, List.length_nil]; omega), Lib.hid (by have h := O10.out; rw [List.length_append] at h ⊢; exact h), HQ9, B10⟩
                case measure => simp [intOf]; omega
              · have g3 : (x.at_.logic == g.at_.logic) = false := by simpa using q2
                clear q0 q1 q2 hat heq HDX
                have HQ9 : Hid (E = (out ++ [x]) ++ withoutM (cs.drop (i + 1)) (gs.drop k)) := Lib.hid (by rw [HQ.out, drop_at HX.out, without_one HNE.out]; simp)
                clear HQ
                go_wp2_with fail
                refine wp_qall (by kernel_rfl) (by kernel_rfl) ?_
                intro hcg
                repeat (first | go_big_quiet_step (fail) | quiet_step (fail))
                refine wpQuiet_nil ?_
                intro wq hbwq hcwq hfwq
                clear hcg
                have B9 := Lib.hid (hB2.out.trans (hbwq.mono hB2.out.size))
                have O9 := Lib.hid (own_keep HO.out hbwq (Nat.le_refl _))
                have e0 := (hcwq _ _ zb).trans d0
                have e1 := (hcwq _ _ zb).trans d1
                have e2 := (hcwq _ _ zb).trans d2
                have e3 := (hcwq _ _ zb).trans d3
                have e4 := (hcwq _ _ zb).trans d4
                have e5 := (hcwq _ _ zb).trans d5
                have hs9 := B9.out.size
                clear d0 d1 d2 d3 d4 d5 hbwq hcwq hfwq hB2 HO zb
                go_wp2_with (at_builtin; refine wpList_app styC (.tmp 31) (.tmp 36) rfl rfl w.heap.size (O9.out.alloc _) rfl 1 1 (rd_frC _ _ _ _) rfl rfl (by simp [Value.oneCell']) (by unfold maxLen; omega) (by omega) (by rw [World.size_alloc]; omega) ?_; intro v5 w5 own5 gr5 nil5 at5; obtain ⟨A6, c6, rfl, -, -⟩ := own_sl own5)
                have B10 := Lib.hid ((B9.out.alloc hs9 _).grown gr5 (by rw [World.size_alloc]; omega) (fun g e => (O9.out.lt g e).1))
                have O10 : Hid (w5.ownsRow w.heap.size 45 6 (.slice A6 (out.length + 1) c6) (out ++ [x]).length (cev (out ++ [x]))) := Lib.hid (own_eq own5 (by simp) (by rw [cev_app]; rfl))
                go_roundw
                case rel => exact ⟨A6, c6, out ++ [x], k, i + 1, by rw [List.length_append]; rfl, rfl, by go_num, hk, by omega, Lib.hid (by rw [List.length_append]; have := HOL.out; simp only [List.length_cons, List.length_nil]; omega), Lib.hid (by have h := O10.out; rw [List.length_append] at h ⊢; exact h), HQ9, B10⟩
                case measure => simp [intOf]; omega
            · have g3 : (x.at_.wall == g.at_.wall) = false := by simpa using q1
              clear q0 q1 hat heq HDX
              have HQ9 : Hid (E = (out ++ [x]) ++ withoutM (cs.drop (i + 1)) (gs.drop k)) := Lib.hid (by rw [HQ.out, drop_at HX.out, without_one HNE.out]; simp)
              clear HQ
              go_wp2_with fail
              refine wp_qall (by kernel_rfl) (by kernel_rfl) ?_
              intro hcg
              repeat (first | go_big_quiet_step (fail) | quiet_step (fail))
              refine wpQuiet_nil ?_
              intro wq hbwq hcwq hfwq
              clear hcg
              have B9 := Lib.hid (hB2.out.trans (hbwq.mono hB2.out.size))
              have O9 := Lib.hid (own_keep HO.out hbwq (Nat.le_refl _))
              have e0 := (hcwq _ _ zb).trans d0
              have e1 := (hcwq _ _ zb).trans d1
              have e2 := (hcwq _ _ zb).trans d2
              have e3 := (hcwq _ _ zb).trans d3
              have e4 := (hcwq _ _ zb).trans d4
              have e5 := (hcwq _ _ zb).trans d5
              have hs9 := B9.out.size
              clear d0 d1 d2 d3 d4 d5 hbwq hcwq hfwq hB2 HO zb
              go_wp2_with (at_builtin; refine wpList_app styC (.tmp 31) (.tmp 36) rfl rfl w.heap.size (O9.out.alloc _) rfl 1 1 (rd_frC _ _ _ _) rfl rfl (by simp [Value.oneCell']) (by unfold maxLen; omega) (by omega) (by rw [World.size_alloc]; omega) ?_; intro v5 w5 own5 gr5 nil5 at5; obtain ⟨A6, c6, rfl, -, -⟩ := own_sl own5)
              have B10 := Lib.hid ((B9.out.alloc hs9 _).grown gr5 (by rw [World.size_alloc]; omega) (fun g e => (O9.out.lt g e).1))
              have O10 : Hid (w5.ownsRow w.heap.size 45 6 (.slice A6 (out.length + 1) c6) (out ++ [x]).length (cev (out ++ [x]))) := Lib.hid (own_eq own5 (by simp) (by rw [cev_app]; rfl))
              go_roundw
              case rel => exact ⟨A6, c6, out ++ [x], k, i + 1, by rw [List.length_append]; rfl, rfl, by go_num, hk, by omega, Lib.hid (by rw [List.length_append]; have := HOL.out; simp only [List.length_cons, List.length_nil]; omega), Lib.hid (by have h := O10.out; rw [List.length_append] at h ⊢; exact h), HQ9, B10⟩
              case measure => simp [intOf]; omega
          · have g3 : (x.key.toList == g.key.toList) = false := by rw [str_eq, decide_eq_false q0]
            clear q0 heq HDX
            have HQ9 : Hid (E = (out ++ [x]) ++ withoutM (cs.drop (i + 1)) (gs.drop k)) := Lib.hid (by rw [HQ.out, drop_at HX.out, without_one HNE.out]; simp)
            clear HQ
            go_wp2_with fail
            refine wp_qall (by kernel_rfl) (by kernel_rfl) ?_
            intro hcg
            repeat (first | go_big_quiet_step (fail) | quiet_step (fail))
            refine wpQuiet_nil ?_
            intro wq hbwq hcwq hfwq
            clear hcg
            have B9 := Lib.hid (hB2.out.trans (hbwq.mono hB2.out.size))
            have O9 := Lib.hid (own_keep HO.out hbwq (Nat.le_refl _))
            have e0 := (hcwq _ _ zb).trans d0
            have e1 := (hcwq _ _ zb).trans d1
            have e2 := (hcwq _ _ zb).trans d2
            have e3 := (hcwq _ _ zb).trans d3
            have e4 := (hcwq _ _ zb).trans d4
            have e5 := (hcwq _ _ zb).trans d5
            have hs9 := B9.out.size
            clear d0 d1 d2 d3 d4 d5 hbwq hcwq hfwq hB2 HO zb
            go_wp2_with (at_builtin; refine wpList_app styC (.tmp 31) (.tmp 36) rfl rfl w.heap.size (O9.out.alloc _) rfl 1 1 (rd_frC _ _ _ _) rfl rfl (by simp [Value.oneCell']) (by unfold maxLen; omega) (by omega) (by rw [World.size_alloc]; omega) ?_; intro v5 w5 own5 gr5 nil5 at5; obtain ⟨A6, c6, rfl, -, -⟩ := own_sl own5)
            have B10 := Lib.hid ((B9.out.alloc hs9 _).grown gr5 (by rw [World.size_alloc]; omega) (fun g e => (O9.out.lt g e).1))
            have O10 : Hid (w5.ownsRow w.heap.size 45 6 (.slice A6 (out.length + 1) c6) (out ++ [x]).length (cev (out ++ [x]))) := Lib.hid (own_eq own5 (by simp) (by rw [cev_app]; rfl))
            go_roundw
            case rel => exact ⟨A6, c6, out ++ [x], k, i + 1, by rw [List.length_append]; rfl, rfl, by go_num, hk, by omega, Lib.hid (by rw [List.length_append]; have := HOL.out; simp only [List.length_cons, List.length_nil]; omega), Lib.hid (by have h := O10.out; rw [List.length_append] at h ⊢; exact h), HQ9, B10⟩
            case measure => simp [intOf]; omega
      · have k1 : ¬ (k : Int) < (n' : Int) := by omega
        have k2 : decide ((k : Int) < (n' : Int)) = false := decide_eq_false k1
        have HNE : Hid (∀ g, gs[k]? = some g → x ≠ g) := Lib.hid (fun g' hg' => by
          have h1 := (List.getElem?_eq_some_iff.1 hg').1
          have h2 := HL'.out
          omega)
        have HQ9 : Hid (E = (out ++ [x]) ++ withoutM (cs.drop (i + 1)) (gs.drop k)) := Lib.hid (by rw [HQ.out, drop_at HX.out, without_one HNE.out]; simp)
        clear HQ
        go_wp2_with fail
        refine wp_qall (by kernel_rfl) (by kernel_rfl) ?_
        intro hcg
        repeat (first | go_big_quiet_step (fail) | quiet_step (fail))
        refine wpQuiet_nil ?_
        intro wq hbwq hcwq hfwq
        clear hcg
        have B9 := Lib.hid (hB2.out.trans (hbwq.mono hB2.out.size))
        have O9 := Lib.hid (own_keep HO.out hbwq (Nat.le_refl _))
        have e0 := (hcwq _ _ zb).trans d0
        have e1 := (hcwq _ _ zb).trans d1
        have e2 := (hcwq _ _ zb).trans d2
        have e3 := (hcwq _ _ zb).trans d3
        have e4 := (hcwq _ _ zb).trans d4
        have e5 := (hcwq _ _ zb).trans d5
        have hs9 := B9.out.size
        clear d0 d1 d2 d3 d4 d5 hbwq hcwq hfwq hB2 HO zb
        go_wp2_with (at_builtin; refine wpList_app styC (.tmp 31) (.tmp 36) rfl rfl w.heap.size (O9.out.alloc _) rfl 1 1 (rd_frC _ _ _ _) rfl rfl (by simp [Value.oneCell']) (by unfold maxLen; omega) (by omega) (by rw [World.size_alloc]; omega) ?_; intro v5 w5 own5 gr5 nil5 at5; obtain ⟨A6, c6, rfl, -, -⟩ := own_sl own5)
        have B10 := Lib.hid ((B9.out.alloc hs9 _).grown gr5 (by rw [World.size_alloc]; omega) (fun g e => (O9.out.lt g e).1))
        have O10 : Hid (w5.ownsRow w.heap.size 45 6 (.slice A6 (out.length + 1) c6) (out ++ [x]).length (cev (out ++ [x]))) := Lib.hid (own_eq own5 (by simp) (by rw [cev_app]; rfl))
        go_roundw
        case rel => exact ⟨A6, c6, out ++ [x], k, i + 1, by rw [List.length_append]; rfl, rfl, by go_num, hk, by omega, Lib.hid (by rw [List.length_append]; have := HOL.out; simp only [List.length_cons, List.length_nil]; omega), Lib.hid (by have h := O10.out; rw [List.length_append] at h ⊢; exact h), HQ9, B10⟩
        case measure => simp [intOf]; omega
    · have i1 : ¬ (i : Int) < (n : Int) := by omega
      have SEQ : Hid (E = out) := Lib.hid (by rw [HQ.out, List.drop_eq_nil_of_le (by rw [HL.out]; omega)]; simp [withoutM])
      clear HQ hlt
      go_wp2_with fail
      go_ret
      exact ⟨_, rfl, by rw [SEQ.out]; exact HO.out, hB2.out⟩
end Go.Proofs.Ytgikaglmeeeplaa
