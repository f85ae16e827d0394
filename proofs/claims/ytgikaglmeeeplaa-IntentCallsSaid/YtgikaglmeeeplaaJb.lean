/- Walks: the document's answer: up to a stamp, intents of others, the latest cell between two stamps, the keys that have a value. -/
import Derived.Test.YtgikaglmeeeplaaJa
import Derived.Test.YtgikaglmeeeplaaIq
namespace Go.Proofs.Ytgikaglmeeeplaa
open Go.RowKit Go.St
set_option linter.unusedVariables false
set_option linter.unusedSimpArgs false
set_option maxRecDepth 100000

theorem rupto_any (a b : Stp) (w : World) : Calls Try.prog 54 #[.agg #[.int .i64 a.wall, .int .i32 a.logic, .int .i32 a.tag], .agg #[.int .i64 b.wall, .int .i32 b.logic, .int .i32 b.tag]] w fun e w' => e = .returned (.bool (le a b)) ∧ Below w.heap.size w w' := by
  unfold le
  have HL := Lib.hid (rless_any b a)
  generalize less b a = q at *
  go_enter Try.func54, Try.ntmps54
  go_wp2_with fail
  refine (HL.out _).mono ?_
  rintro e w2 ⟨rfl, hb⟩
  have B2 : Hid (Below w.heap.size w w2) := Lib.hid ((((Below.refl _ _).alloc (Nat.le_refl _) _).alloc (by simp) _).trans (hb.mono (by simp; omega)))
  clear hb
  go_wp2_with fail
  go_ret
  exact ⟨rfl, B2.out⟩
/-- Is an intent of another one, up to a stamp? -/
def frn (to' : Stp) (by_ : Int × Int) (i : Itt) : Bool := !decide ((i.nd, i.nu) = by_) && le i.at_ to'

set_option maxHeartbeats 6400000 in
theorem foreign24_any (A : Option Addr) (n c : Nat) (is : List Itt) (hl : is.length = n) (hn : n ≤ 1000000) (t : Stp) (by_ : Int × Int) (B : Nat) (w : World) (hr : Rd w B A (itv is)) (hB : B ≤ w.heap.size) :
    Calls Try.prog 49 #[.slice A n c, .agg #[.int .i64 t.wall, .int .i32 t.logic, .int .i32 t.tag], .agg #[.int .i32 by_.1, .int .i32 by_.2]] w fun e w' => ∃ A' c', e = .returned (.slice A' (is.filter (frn t by_)).length c') ∧ w'.ownsRow w.heap.size 29 12 (.slice A' (is.filter (frn t by_)).length c') (is.filter (frn t by_)).length (itv (is.filter (frn t by_))) ∧ Below w.heap.size w w' := by
  have HL := Lib.hid hl
  have HR := Lib.hid hr
  clear hl hr
  obtain ⟨E, hE⟩ : ∃ E, E = is.filter (frn t by_) := ⟨_, rfl⟩
  rw [← hE]
  have HE := Lib.hid hE
  clear hE
  go_enter Try.func49, Try.ntmps49
  go_wp2_with fail
  have X1 : Hid (BxV ((w.alloc (.cells #[.int .i64 t.wall, .int .i32 t.logic, .int .i32 t.tag] 25)).alloc (.cells #[.int .i32 by_.1, .int .i32 by_.2] 27)) w.heap.size (spc t)) := Lib.hid ((BxV.new w _ _).alloc _)
  have Y1 : Hid (BxV ((w.alloc (.cells #[.int .i64 t.wall, .int .i32 t.logic, .int .i32 t.tag] 25)).alloc (.cells #[.int .i32 by_.1, .int .i32 by_.2] 27)) (w.heap.size + 1) [.int .i32 by_.1, .int .i32 by_.2]) := Lib.hid (by
    have h := BxV.new (w.alloc (.cells #[.int .i64 t.wall, .int .i32 t.logic, .int .i32 t.tag] 25)) #[.int .i32 by_.1, .int .i32 by_.2] 27
    simp only [World.size_alloc] at h; exact h)
  have B1 : Hid (Below w.heap.size w ((w.alloc (.cells #[.int .i64 t.wall, .int .i32 t.logic, .int .i32 t.tag] 25)).alloc (.cells #[.int .i32 by_.1, .int .i32 by_.2] 27))) := Lib.hid (((Below.refl _ _).alloc (Nat.le_refl _) _).alloc (by simp) _)
  have hz : w.heap.size < ((w.alloc (.cells #[.int .i64 t.wall, .int .i32 t.logic, .int .i32 t.tag] 25)).alloc (.cells #[.int .i32 by_.1, .int .i32 by_.2] 27)).heap.size := by simp <;> omega
  generalize (w.alloc (.cells #[.int .i64 t.wall, .int .i32 t.logic, .int .i32 t.tag] 25)).alloc (.cells #[.int .i32 by_.1, .int .i32 by_.2] 27) = w1 at *
  have R1 := Lib.hid (HR.out.below (B1.out.mono hB))
  have hB1' : B ≤ w1.heap.size := by omega
  go_loopw [7, 8] (fun s7 s8 wr => ∃ (A5 : Option Addr) (c5 : Nat) (out : List Itt) (i : Nat), s7 = .slice A5 out.length c5 ∧ s8 = .int .i64 (i : Int) ∧ i ≤ n ∧ Hid (out = (is.take i).filter (frn t by_)) ∧ Hid (wr.ownsRow w1.heap.size 29 12 (.slice A5 out.length c5) out.length (itv out)) ∧ Hid (Below w1.heap.size w1 wr)) (fun s7 s8 _ => n - (intOf s8).toNat)
  case atStart => exact ⟨none, 0, [], 0, rfl, rfl, Nat.zero_le _, Lib.hid rfl, Lib.hid (World.ownsRow_nil _ _ _ _), Lib.hid (Below.refl _ _)⟩
  case round =>
    obtain ⟨A5, c5, out, i, rfl, rfl, hi, HQ, HO, hB2⟩ := hrel
    obtain ⟨w2, rfl⟩ : ∃ x, x = wr := ⟨_, rfl⟩
    by_cases hlt : i < n
    · obtain ⟨x, hx⟩ : ∃ x, is[i]? = some x := ⟨_, List.getElem?_eq_getElem (by rw [HL.out]; exact hlt)⟩
      obtain ⟨b, off, rfl, hb, hce⟩ := it_at R1.out hx
      obtain ⟨d0, d1, d2, d3, d4, d5, d6, d7, d8, d9, d10, d11⟩ := hce.below (Nat.lt_of_lt_of_le hb hB1') hB2.out
      have HX := Lib.hid hx
      have X2 := X1.out.next hB2.out
      have Y2 := Y1.out.next hB2.out
      have a0 := X2.c 0 _ rfl
      have a1 := X2.c 1 _ rfl
      have a2 := X2.c 2 _ rfl
      have x0 := Y2.c 0 _ rfl
      have x1 := Y2.c 1 _ rfl
      have zz0 := X2.lt
      have zz1 := Y2.lt
      have zzb : b < w2.heap.size := by have := hB2.out.size; omega
      have i1 : (i : Int) < (n : Int) := by omega
      have i0 : (0 : Int) ≤ (i : Int) := by omega
      have hol : out.length ≤ i := by
        rw [HQ.out]
        exact Nat.le_trans (List.length_filter_le _ _) (List.length_take_le _ _)
      clear hce hx X2 Y2
      by_cases q1 : x.nd = by_.1
      · have g1 : (x.nd == by_.1) = true := by simpa using q1
        by_cases q2 : x.nu = by_.2
        · have g2 : (x.nu == by_.2) = true := by simpa using q2
          have HQ9 : Hid (out = (is.take (i + 1)).filter (frn t by_)) := Lib.hid (by rw [heed_snoc HX.out, if_neg (by unfold frn; rw [decide_eq_true (show (x.nd, x.nu) = by_ by rw [q1, q2])]; simp), HQ.out, List.append_nil])
          clear HQ q1 q2
          go_wp2_with fail
          refine wp_qall (by kernel_rfl) (by kernel_rfl) ?_
          intro hcg
          repeat (first | go_big_quiet_step (fail) | quiet_step (fail))
          refine wpQuiet_nil ?_
          intro wq hbwq hcwq hfwq
          clear hcg
          have B9 := Lib.hid (hB2.out.trans (hbwq.mono hB2.out.size))
          have O9 := Lib.hid (own_keep HO.out hbwq (Nat.le_refl _))
          clear hbwq hcwq hfwq hB2 HO
          go_wp2_with fail
          go_roundw
          case rel => exact ⟨A5, c5, out, i + 1, rfl, by go_num, by omega, HQ9, O9, B9⟩
          case measure => simp [intOf]; omega
        · have g2 : (x.nu == by_.2) = false := by simpa using q2
          have hne : Hid (¬ (x.nd = by_.1 ∧ x.nu = by_.2)) := Lib.hid (fun e => q2 e.2)
          clear q1 q2
          have HUP := Lib.hid (rupto_any x.at_ t)
          have hfx : frn t by_ x = le x.at_ t := by unfold frn; rw [decide_eq_false (fun e => hne.out ⟨congrArg Prod.fst e, congrArg Prod.snd e⟩)]; rfl
          go_wp2_with fail
          refine wp_qall (by kernel_rfl) (by kernel_rfl) ?_
          intro hcg
          repeat (first | go_big_quiet_step ((with_reducible (exact Calls.reg (HUP.out _)))) | quiet_step ((with_reducible (exact Calls.reg (HUP.out _)))))
          refine wpQuiet_nil ?_
          intro wq hbwq hcwq hfwq
          clear hcg
          have B9 := Lib.hid (hB2.out.trans (hbwq.mono hB2.out.size))
          have O9 := Lib.hid (own_keep HO.out hbwq (Nat.le_refl _))
          have e0 := (hcwq _ _ zzb).trans d0
          have e1 := (hcwq _ _ zzb).trans d1
          have e2 := (hcwq _ _ zzb).trans d2
          have e3 := (hcwq _ _ zzb).trans d3
          have e4 := (hcwq _ _ zzb).trans d4
          have e5 := (hcwq _ _ zzb).trans d5
          have e6 := (hcwq _ _ zzb).trans d6
          have e7 := (hcwq _ _ zzb).trans d7
          have e8 := (hcwq _ _ zzb).trans d8
          have e9 := (hcwq _ _ zzb).trans d9
          have e10 := (hcwq _ _ zzb).trans d10
          have e11 := (hcwq _ _ zzb).trans d11
          have hs9 := B9.out.size
          clear d0 d1 d2 d3 d4 d5 d6 d7 d8 d9 d10 d11 a0 a1 a2 x0 x1 hbwq hcwq hfwq hB2 HO zz0 zz1 zzb HUP
          cases k1 : le x.at_ t
          · have HQ9 : Hid (out = (is.take (i + 1)).filter (frn t by_)) := Lib.hid (by rw [heed_snoc HX.out, if_neg (by rw [hfx, k1]; decide), HQ.out, List.append_nil])
            clear HQ k1 hfx
            go_wp2_with fail
            go_roundw
            case rel => exact ⟨A5, c5, out, i + 1, rfl, by go_num, by omega, HQ9, O9, B9⟩
            case measure => simp [intOf]; omega
          · have HQ9 : Hid (out ++ [x] = (is.take (i + 1)).filter (frn t by_)) := Lib.hid (by rw [heed_snoc HX.out, if_pos (by rw [hfx, k1]), HQ.out])
            clear HQ k1 hfx
            go_wp2_with (at_builtin; refine wpList_app styIt (.tmp 31) (.tmp 36) rfl rfl w1.heap.size (O9.out.alloc _) rfl 1 1 (rd_frC _ _ _ _) rfl rfl (by simp [Value.oneCell']) (by unfold maxLen; omega) (by omega) (by rw [World.size_alloc]; omega) ?_; intro v5 w5 own5 gr5 nil5 at5; obtain ⟨A6, c6, rfl, -, -⟩ := own_sl own5)
            have B10 := Lib.hid ((B9.out.alloc hs9 _).grown gr5 (by rw [World.size_alloc]; omega) (fun g e => (O9.out.lt g e).1))
            have O10 : Hid (w5.ownsRow w1.heap.size 29 12 (.slice A6 (out.length + 1) c6) (out ++ [x]).length (itv (out ++ [x]))) := Lib.hid (own_eq own5 (by simp) (by rw [itv_app]; rfl))
            go_roundw
            case rel => exact ⟨A6, c6, out ++ [x], i + 1, by rw [List.length_append]; rfl, by go_num, by omega, HQ9, Lib.hid (by have h := O10.out; rw [List.length_append] at h ⊢; exact h), B10⟩
            case measure => simp [intOf]; omega
      · have g1 : (x.nd == by_.1) = false := by simpa using q1
        have hne : Hid (¬ (x.nd = by_.1 ∧ x.nu = by_.2)) := Lib.hid (fun e => q1 e.1)
        clear q1
        have HUP := Lib.hid (rupto_any x.at_ t)
        have hfx : frn t by_ x = le x.at_ t := by unfold frn; rw [decide_eq_false (fun e => hne.out ⟨congrArg Prod.fst e, congrArg Prod.snd e⟩)]; rfl
        go_wp2_with fail
        refine wp_qall (by kernel_rfl) (by kernel_rfl) ?_
        intro hcg
        repeat (first | go_big_quiet_step ((with_reducible (exact Calls.reg (HUP.out _)))) | quiet_step ((with_reducible (exact Calls.reg (HUP.out _)))))
        refine wpQuiet_nil ?_
        intro wq hbwq hcwq hfwq
        clear hcg
        have B9 := Lib.hid (hB2.out.trans (hbwq.mono hB2.out.size))
        have O9 := Lib.hid (own_keep HO.out hbwq (Nat.le_refl _))
        have e0 := (hcwq _ _ zzb).trans d0
        have e1 := (hcwq _ _ zzb).trans d1
        have e2 := (hcwq _ _ zzb).trans d2
        have e3 := (hcwq _ _ zzb).trans d3
        have e4 := (hcwq _ _ zzb).trans d4
        have e5 := (hcwq _ _ zzb).trans d5
        have e6 := (hcwq _ _ zzb).trans d6
        have e7 := (hcwq _ _ zzb).trans d7
        have e8 := (hcwq _ _ zzb).trans d8
        have e9 := (hcwq _ _ zzb).trans d9
        have e10 := (hcwq _ _ zzb).trans d10
        have e11 := (hcwq _ _ zzb).trans d11
        have hs9 := B9.out.size
        clear d0 d1 d2 d3 d4 d5 d6 d7 d8 d9 d10 d11 a0 a1 a2 x0 x1 hbwq hcwq hfwq hB2 HO zz0 zz1 zzb HUP
        cases k1 : le x.at_ t
        · have HQ9 : Hid (out = (is.take (i + 1)).filter (frn t by_)) := Lib.hid (by rw [heed_snoc HX.out, if_neg (by rw [hfx, k1]; decide), HQ.out, List.append_nil])
          clear HQ k1 hfx
          go_wp2_with fail
          go_roundw
          case rel => exact ⟨A5, c5, out, i + 1, rfl, by go_num, by omega, HQ9, O9, B9⟩
          case measure => simp [intOf]; omega
        · have HQ9 : Hid (out ++ [x] = (is.take (i + 1)).filter (frn t by_)) := Lib.hid (by rw [heed_snoc HX.out, if_pos (by rw [hfx, k1]), HQ.out])
          clear HQ k1 hfx
          go_wp2_with (at_builtin; refine wpList_app styIt (.tmp 31) (.tmp 36) rfl rfl w1.heap.size (O9.out.alloc _) rfl 1 1 (rd_frC _ _ _ _) rfl rfl (by simp [Value.oneCell']) (by unfold maxLen; omega) (by omega) (by rw [World.size_alloc]; omega) ?_; intro v5 w5 own5 gr5 nil5 at5; obtain ⟨A6, c6, rfl, -, -⟩ := own_sl own5)
          have B10 := Lib.hid ((B9.out.alloc hs9 _).grown gr5 (by rw [World.size_alloc]; omega) (fun g e => (O9.out.lt g e).1))
          have O10 : Hid (w5.ownsRow w1.heap.size 29 12 (.slice A6 (out.length + 1) c6) (out ++ [x]).length (itv (out ++ [x]))) := Lib.hid (own_eq own5 (by simp) (by rw [itv_app]; rfl))
          go_roundw
          case rel => exact ⟨A6, c6, out ++ [x], i + 1, by rw [List.length_append]; rfl, by go_num, by omega, HQ9, Lib.hid (by have h := O10.out; rw [List.length_append] at h ⊢; exact h), B10⟩
          case measure => simp [intOf]; omega
    · have i1 : ¬ (i : Int) < (n : Int) := by omega
      have SEQ : Hid (E = out) := Lib.hid (by rw [HE.out, HQ.out, List.take_of_length_le (by rw [HL.out]; omega)])
      clear HQ hlt
      go_wp2_with fail
      go_ret
      exact ⟨A5, c5, by rw [SEQ.out] <;> rfl, by rw [SEQ.out]; exact own_base HO.out (Nat.le_of_lt hz), B1.out.trans (hB2.out.mono (Nat.le_of_lt hz))⟩

set_option maxHeartbeats 6400000 in
theorem rrows24_any (A : Option Addr) (n c : Nat) (cs : List Cel) (hl : cs.length = n) (hn : n ≤ 1000000) (s : Stp) (B : Nat) (w : World) (hr : Rd w B A (cev cs)) (hB : B ≤ w.heap.size) :
    Calls Try.prog 44 #[.slice A n c, .agg #[.int .i64 s.wall, .int .i32 s.logic, .int .i32 s.tag]] w fun e w' => ∃ v, e = .returned v ∧ w'.ownsRow w.heap.size 67 2 v (rowsL cs s).length (kvv (rowsL cs s)) ∧ Below w.heap.size w w' := by
  have HL := Lib.hid hl
  have HR := Lib.hid hr
  clear hl hr
  obtain ⟨E, hE⟩ : ∃ E, E = rowsL cs s := ⟨_, rfl⟩
  rw [← hE]
  have HE : Hid (E = [] ++ rowsA s zE (cs.drop 0)) := Lib.hid hE
  clear hE
  have HUP := Lib.hid (fun a => rupto_any a s)
  go_enter Try.func44, Try.ntmps44
  go_wp2_with fail
  have X1 : Hid (BxV (w.alloc (.cells #[.int .i64 s.wall, .int .i32 s.logic, .int .i32 s.tag] 25)) w.heap.size (spc s)) := Lib.hid (BxV.new w _ _)
  have B1 : Hid (Below w.heap.size w (w.alloc (.cells #[.int .i64 s.wall, .int .i32 s.logic, .int .i32 s.tag] 25))) := Lib.hid ((Below.refl _ _).alloc (Nat.le_refl _) _)
  have hz : w.heap.size < (w.alloc (.cells #[.int .i64 s.wall, .int .i32 s.logic, .int .i32 s.tag] 25)).heap.size := by simp
  generalize w.alloc (.cells #[.int .i64 s.wall, .int .i32 s.logic, .int .i32 s.tag] 25) = w1 at *
  have R1 := Lib.hid (HR.out.below (B1.out.mono hB))
  have hB1' : B ≤ w1.heap.size := by omega
  go_loopw [5, 6, 7] (fun s5 s6 s7 wr => ∃ (A5 : Option Addr) (c5 : Nat) (out : List (ByteArray × ByteArray)) (i : Nat) (K : ByteArray), s5 = .slice A5 out.length c5 ∧ s6 = .string K ∧ s7 = .int .i64 (i : Int) ∧ i ≤ n ∧ Hid (out.length ≤ i) ∧ Hid (wr.ownsRow w1.heap.size 67 2 (.slice A5 out.length c5) out.length (kvv out)) ∧ Hid (E = out ++ rowsA s K (cs.drop i)) ∧ Hid (Below w1.heap.size w1 wr)) (fun s5 s6 s7 _ => n - (intOf s7).toNat)
  case atStart => exact ⟨none, 0, [], 0, zE, rfl, rfl, rfl, Nat.zero_le _, Lib.hid (Nat.le_refl _), Lib.hid (World.ownsRow_nil _ _ _ _), HE, Lib.hid (Below.refl _ _)⟩
  case round =>
    obtain ⟨A5, c5, out, i, K, rfl, rfl, rfl, hi, HOL, HO, HQ, hB2⟩ := hrel
    obtain ⟨w2, rfl⟩ : ∃ x, x = wr := ⟨_, rfl⟩
    by_cases hlt : i < n
    · obtain ⟨x, hx⟩ : ∃ x, cs[i]? = some x := ⟨_, List.getElem?_eq_getElem (by rw [HL.out]; exact hlt)⟩
      obtain ⟨b, off, rfl, hb, hce⟩ := ce_at R1.out hx
      obtain ⟨d0, d1, d2, d3, d4, d5⟩ := hce.below (Nat.lt_of_lt_of_le hb hB1') hB2.out
      have HX := Lib.hid hx
      have X2 := Lib.hid (X1.out.next hB2.out)
      have CY : Hid (CeI (w2.alloc (.cells #[.string x.key, .int .i64 x.at_.wall, .int .i32 x.at_.logic, .int .i32 x.at_.tag, .string x.val, .bool x.del] 45)) w2.heap.size 0 x) := Lib.hid (by
        have h := (BxV.new w2 #[.string x.key, .int .i64 x.at_.wall, .int .i32 x.at_.logic, .int .i32 x.at_.tag, .string x.val, .bool x.del] 45).c
        exact ⟨h 0 _ rfl, h 1 _ rfl, h 2 _ rfl, h 3 _ rfl, h 4 _ rfl, h 5 _ rfl⟩)
      have CYL : Hid (w2.heap.size < (w2.alloc (.cells #[.string x.key, .int .i64 x.at_.wall, .int .i32 x.at_.logic, .int .i32 x.at_.tag, .string x.val, .bool x.del] 45)).heap.size) := Lib.hid (by simp)
      have a0 := X2.out.c 0 _ rfl
      have a1 := X2.out.c 1 _ rfl
      have a2 := X2.out.c 2 _ rfl
      have zz0 := X2.out.lt
      have zzb : b < w2.heap.size := by have := hB2.out.size; omega
      have i1 : (i : Int) < (n : Int) := by omega
      have hol : out.length ≤ i := HOL.out
      clear hce hx
      by_cases q0 : x.key = K
      · have g0 : (x.key.toList == K.toList) = true := by rw [str_eq, decide_eq_true q0]
        have BA := Lib.hid (hB2.out.alloc hB2.out.size (.cells #[.string x.key, .int .i64 x.at_.wall, .int .i32 x.at_.logic, .int .i32 x.at_.tag, .string x.val, .bool x.del] 45))
        have OA := Lib.hid (HO.out.alloc (.cells #[.string x.key, .int .i64 x.at_.wall, .int .i32 x.at_.logic, .int .i32 x.at_.tag, .string x.val, .bool x.del] 45))
        have HK0 := Lib.hid q0
        clear q0
        have HQ9 : Hid (E = out ++ rowsA s K (cs.drop (i + 1))) := Lib.hid (by rw [HQ.out, drop_at HX.out, rowsA_no (fun e => e.1 HK0.out)])
        clear HQ
        go_wp2_with fail
        go_roundw
        case rel => exact ⟨A5, c5, out, i + 1, K, rfl, rfl, by go_num, by omega, Lib.hid (by have := HOL.out; omega), OA, HQ9, BA⟩
        case measure => simp [intOf]; omega
      · have g0 : (x.key.toList == K.toList) = false := by rw [str_eq, decide_eq_false q0]
        have HK := Lib.hid q0
        clear q0
        go_wp2_with fail
        refine (HUP.out x.at_ _).mono ?_
        rintro e w4 ⟨rfl, hb4⟩
        have hb24 := (((Below.refl w2.heap.size w2).alloc (Nat.le_refl _) (.cells #[.string x.key, .int .i64 x.at_.wall, .int .i32 x.at_.logic, .int .i32 x.at_.tag, .string x.val, .bool x.del] 45)).trans (hb4.mono (by simp)))
        have Y4 := CeI.below CY.out CYL.out hb4
        have B4 := Lib.hid (hB2.out.trans (hb24.mono hB2.out.size))
        have O4 := Lib.hid (own_keep (HO.out.alloc (.cells #[.string x.key, .int .i64 x.at_.wall, .int .i32 x.at_.logic, .int .i32 x.at_.tag, .string x.val, .bool x.del] 45)) hb4 (Nat.le_refl _))
        have hs4 := B4.out.size
        clear zz0 zzb a0 a1 a2 d0 d1 d2 d3 d4 d5 hb4 hb24 hB2 HO X2
        cases k1 : le x.at_ s
        · clear Y4
          have HQ9 : Hid (E = out ++ rowsA s K (cs.drop (i + 1))) := Lib.hid (by rw [HQ.out, drop_at HX.out, rowsA_no (fun e => by rw [k1] at e; cases e.2)])
          clear HQ
          go_wp2_with fail
          go_roundw
          case rel => exact ⟨A5, c5, out, i + 1, K, rfl, rfl, by go_num, by omega, Lib.hid (by have := HOL.out; omega), O4, HQ9, B4⟩
          case measure => simp [intOf]; omega
        · have y0 := Y4.c0
          have y4 := Y4.c4
          have y5 := Y4.c5
          cases hd : x.del
          · rw [hd] at y5
            have HQ9 : Hid (E = (out ++ [(x.key, x.val)]) ++ rowsA s x.key (cs.drop (i + 1))) := Lib.hid (by rw [HQ.out, drop_at HX.out, rowsA_yes ⟨HK.out, k1⟩, hd]; simp)
            clear HQ k1 Y4 hd
            go_wp2_with (at_builtin; refine wpList_app styK (.tmp 34) (.tmp 40) rfl rfl w1.heap.size (O4.out.alloc _) rfl 1 1 (rd_frC _ _ _ _) rfl rfl (by simp [Value.oneCell']) (by unfold maxLen; omega) (by omega) (by rw [World.size_alloc]; omega) ?_; intro v5 w5 own5 gr5 nil5 at5; obtain ⟨A6, c6, rfl, -, -⟩ := own_sl own5)
            have B10 := Lib.hid ((B4.out.alloc hs4 _).grown gr5 (by rw [World.size_alloc]; omega) (fun g e => (O4.out.lt g e).1))
            have O10 : Hid (w5.ownsRow w1.heap.size 67 2 (.slice A6 (out.length + 1) c6) (out ++ [(x.key, x.val)]).length (kvv (out ++ [(x.key, x.val)]))) := Lib.hid (own_eq own5 (by simp) (by rw [kvv_app]; rfl))
            go_roundw
            case rel => exact ⟨A6, c6, out ++ [(x.key, x.val)], i + 1, x.key, by rw [List.length_append]; rfl, rfl, by go_num, by omega, Lib.hid (by rw [List.length_append]; simp only [List.length_cons, List.length_nil]; omega), Lib.hid (by have h := O10.out; rw [List.length_append] at h ⊢; exact h), HQ9, B10⟩
            case measure => simp [intOf]; omega
          · rw [hd] at y5
            have HQ9 : Hid (E = out ++ rowsA s x.key (cs.drop (i + 1))) := Lib.hid (by rw [HQ.out, drop_at HX.out, rowsA_yes ⟨HK.out, k1⟩, hd]; rfl)
            clear HQ k1 Y4 hd
            go_wp2_with fail
            go_roundw
            case rel => exact ⟨A5, c5, out, i + 1, x.key, rfl, rfl, by go_num, by omega, Lib.hid (by omega), O4, HQ9, B4⟩
            case measure => simp [intOf]; omega
    · have i1 : ¬ (i : Int) < (n : Int) := by omega
      have SEQ : Hid (E = out) := Lib.hid (by rw [HQ.out, List.drop_eq_nil_of_le (by rw [HL.out]; omega)]; simp [rowsA])
      clear HQ hlt
      go_wp2_with fail
      go_ret
      exact ⟨_, rfl, by rw [SEQ.out]; exact own_base HO.out (Nat.le_of_lt hz), B1.out.trans (hB2.out.mono (Nat.le_of_lt hz))⟩
end Go.Proofs.Ytgikaglmeeeplaa
