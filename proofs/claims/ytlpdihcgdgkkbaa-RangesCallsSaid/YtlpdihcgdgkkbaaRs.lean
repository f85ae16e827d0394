/- Walks: the document's answers on spans; its check of splits. -/
import Derived.Test.YtlpdihcgdgkkbaaRp
namespace Go.Proofs.Ytlpdihcgdgkkbaa
open Go.RowKit Go.St
set_option linter.unusedVariables false
set_option linter.unusedSimpArgs false
set_option maxRecDepth 100000

set_option maxHeartbeats 400000 in
theorem rempty_any (f t : ByteArray) (w : World) : Calls Try.prog 67 #[.agg #[.string f, .string t]] w fun e w' => e = .returned (.bool (sEmp f t)) ∧ Below w.heap.size w w' := by
  go_enter Try.func67, Try.ntmps67
  go_wp2_with fail
  all_goals
    go_ret
    refine ⟨ret_bool ?_, (Below.refl _ _).alloc (Nat.le_refl _) _⟩
    simp [sEmp, klt, *]

set_option maxHeartbeats 400000 in
theorem rhas21_any (f t k : ByteArray) (w : World) : Calls Try.prog 66 #[.agg #[.string f, .string t], .string k] w fun e w' => e = .returned (.bool (sHas f t k)) ∧ Below w.heap.size w w' := by
  go_enter Try.func66, Try.ntmps66
  go_wp2_with fail
  all_goals
    go_ret
    refine ⟨ret_bool ?_, (Below.refl _ _).alloc (Nat.le_refl _) _⟩
    simp [sHas, klt, *]

theorem rone21_any (k : ByteArray) (hk : k.size ≤ 140737488351232) (w : World) :
    Calls Try.prog 68 #[.string k] w fun e w' => e = .returned (.agg #[.string k, .string (k ++ ⟨#[0]⟩)]) ∧ Below w.heap.size w w' := by
  have r0 := rd_new (w.alloc (.cells #[.string ⟨#[]⟩, .string ⟨#[]⟩] 67)) #[.int .u8 0] 5
  rw [World.size_alloc] at r0
  have hcv := conv_str (P := Try.prog) (bs := [0]) 22 9 5 1 1 Try.underlying22 Try.underlying5 Try.underlying9 r0 rfl
  clear r0
  go_enter Try.func68, Try.ntmps68
  go_wp2
  refine bodyPost_ret (v := .agg #[.string k, .string (k ++ ⟨#[0]⟩)]) (by simp [results, Try.results68, go_sem]) rfl ⟨rfl, ?_⟩
  go_grown

theorem kmax_lt (k a b : ByteArray) : klt (kmax a b) k = (klt a k && klt b k) := by
  unfold kmax
  cases h : klt a b
  · cases h1 : klt a k <;> cases h2 : klt b k <;> simp [h1, h2]
    have h3 := klt_of_le_lt h h1
    rw [h2] at h3; cases h3
  · cases h1 : klt a k <;> cases h2 : klt b k <;> simp [h1, h2]
    have h3 := klt_trans h h2
    rw [h1] at h3; cases h3
/-- A span empty: nothing of it is in another one. -/
theorem emp_meet {f1 t1 f2 t2 : ByteArray} (h : sEmp f1 t1 = true) : meetE f1 t1 f2 t2 = true := by
  have ht : t1.toList.isEmpty = false := by
    cases e : t1.toList.isEmpty
    · rfl
    · unfold sEmp at h; rw [e] at h; simp at h
  have hle : klt f1 t1 = false := by
    unfold sEmp at h
    rw [ht] at h
    simp at h
    rcases h with h | h
    · exact klt_asymm h
    · rw [toList_inj h]; exact klt_irrefl _
  -- the end is not above t1, and there is one
  have h1 : klt t1 (meetT t1 t2) = false ∧ (meetT t1 t2).toList.isEmpty = false := by
    unfold meetT
    rw [ht, Bool.false_or]
    cases e : (!t2.toList.isEmpty && klt t2 t1)
    · simp only [Bool.false_eq_true, if_false]; exact ⟨klt_irrefl _, ht⟩
    · simp only [if_true]
      simp at e
      refine ⟨klt_asymm e.2, ?_⟩
      simpa using e.1
  have h2 : klt (kmax f1 f2) f1 = false := by rw [kmax_lt, klt_irrefl]; rfl
  -- so it is not above the start
  have h3 : klt (kmax f1 f2) (meetT t1 t2) = false := by
    cases e : klt (kmax f1 f2) (meetT t1 t2)
    · rfl
    · have a2 := klt_of_lt_le (klt_of_lt_le e h1.1) hle
      rw [h2] at a2; cases a2
  unfold meetE sEmp
  rw [h1.2]
  cases h4 : klt (meetT t1 t2) (kmax f1 f2)
  · simp [klt_total h3 h4]
  · simp

set_option maxHeartbeats 3200000 in
theorem rmeet_any (f1 t1 f2 t2 : ByteArray) (w : World) : Calls Try.prog 64 #[.agg #[.string f1, .string t1], .agg #[.string f2, .string t2]] w fun e w' => e = .returned (.tuple #[meetV f1 t1 f2 t2, .bool !meetE f1 t1 f2 t2]) ∧ Below w.heap.size w w' := by
  have hm := run_kmax f1 f2
  have he := fun t W => rempty_any (kmax f1 f2) t W
  have ha := fun W => rempty_any f1 t1 W
  have hb := fun W => rempty_any f2 t2 W
  have ia : sEmp f1 t1 = true → meetE f1 t1 f2 t2 = true := fun h => emp_meet h
  have ib : sEmp f2 t2 = true → meetE f1 t1 f2 t2 = true := fun h => by rw [← meetE_comm]; exact emp_meet h
  have HE := Lib.hid he; have HA := Lib.hid ha; have HB := Lib.hid hb; have IA := Lib.hid ia; have IB := Lib.hid ib
  clear he ha hb ia ib
  have e2 : meetV f1 t1 f2 t2 = if sEmp (kmax f1 f2) (meetT t1 t2) then .agg #[.string ⟨#[]⟩, .string ⟨#[]⟩] else .agg #[.string (kmax f1 f2), .string (meetT t1 t2)] := rfl
  have e3 : meetE f1 t1 f2 t2 = sEmp (kmax f1 f2) (meetT t1 t2) := rfl
  rw [e3] at IA IB
  rw [e2, e3]
  clear e2 e3
  generalize kmax f1 f2 = f at *
  obtain ⟨t, ht⟩ : ∃ t, t = meetT t1 t2 := ⟨_, rfl⟩
  rw [← ht] at IA IB ⊢
  obtain ⟨q, hq⟩ : ∃ q, q = sEmp f t := ⟨_, rfl⟩
  rw [← hq] at IA IB ⊢
  have HQ := Lib.hid hq; clear hq
  generalize sEmp f1 t1 = qa at *
  generalize sEmp f2 t2 = qb at *
  unfold meetT klt at ht
  have HT := Lib.hid ht
  clear ht
  go_enter Try.func64, Try.ntmps64
  go_wp2_with fail
  all_goals first | exact absurd (List.isEmpty_iff.1 (by assumption : t1.toList.isEmpty = true)) (by assumption) | skip
  all_goals
    first | have hz := mlt1 (by assumption : ¬t1.toList = []) (by assumption : t1.toList.isEmpty = true ∨ (!t2.toList.isEmpty) = true ∧ Op.bytesLess t2.toList t1.toList = true) | have hz := mlt2 (by assumption : ¬t2.toList = []) (by assumption : t1.toList.isEmpty = false ∧ ((!t2.toList.isEmpty) = false ∨ Op.bytesLess t2.toList t1.toList = false)) | skip
    have ht := HT.out
    simp [*] at ht
    subst ht
    refine (HA.out _).mono ?_
    rintro e w1 ⟨rfl, hb⟩
    have hs1 := hb.size
    obtain ⟨hc1, hf1⟩ := bcell hb
    simp at hs1
    have B1 : Hid (Below w.heap.size w w1) := Below.go (by go_grown) hb (by go_size)
    clear hb
    have z11 : w.heap.size + 1 < w1.heap.size := by omega
    have z12 : w.heap.size + 1 + 1 < w1.heap.size := by omega
    have z13 : w.heap.size + 1 + 1 + 1 < w1.heap.size := by omega
    cases qa
    · go_wp2_with fail
      refine (HB.out _).mono ?_
      rintro e w2 ⟨rfl, hb⟩
      have hs2 := hb.size
      obtain ⟨hc2, hf2⟩ := bcell hb
      have B2 : Hid (Below w.heap.size w w2) := B1.out.trans (hb.mono B1.out.size)
      clear hb
      have z21 : w.heap.size + 1 < w2.heap.size := by omega
      have z22 : w.heap.size + 1 + 1 < w2.heap.size := by omega
      have z23 : w.heap.size + 1 + 1 + 1 < w2.heap.size := by omega
      cases qb
      · go_wp2_with fail
        refine (HE.out _ _).mono ?_
        rintro e w3 ⟨rfl, hb⟩
        have hs3 := hb.size
        obtain ⟨hc3, hf3⟩ := bcell hb
        have B3 : Hid (Below w.heap.size w w3) := B2.out.trans (hb.mono B2.out.size)
        clear hb
        have z31 : w.heap.size + 1 < w3.heap.size := by omega
        have z32 : w.heap.size + 1 + 1 < w3.heap.size := by omega
        have z33 : w.heap.size + 1 + 1 + 1 < w3.heap.size := by omega
        have hq := HQ.out
        rw [← hq]
        clear hq
        cases q
        · go_wp2
          first
            | (refine bodyPost_ret (v := .tuple #[.agg #[.string f, .string t], .bool true]) (by simp [results, Try.results64, go_sem, hc1, hc2, hc3, z12, z22, z32]) rfl ⟨rfl, ?_⟩)
            | (refine bodyPost_ret (v := .tuple #[.agg #[.string f, .string t1], .bool true]) (by simp [results, Try.results64, go_sem, hc1, hc2, hc3, z12, z22, z32]) rfl ⟨rfl, ?_⟩)
            | (refine bodyPost_ret (v := .tuple #[.agg #[.string f, .string t2], .bool true]) (by simp [results, Try.results64, go_sem, hc1, hc2, hc3, z12, z22, z32]) rfl ⟨rfl, ?_⟩)
          have hb := B3.out
          have hbs := hb.size
          go_grown
        · go_wp2
          refine bodyPost_ret (v := .tuple #[.agg #[.string ⟨#[]⟩, .string ⟨#[]⟩], .bool false]) (by simp [results, Try.results64, go_sem, hc1, hc2, hc3, z12, z22, z32]) rfl ⟨rfl, ?_⟩
          have hb := B3.out
          have hbs := hb.size
          go_grown
      · have hq := IB.out rfl
        subst hq
        go_wp2
        refine bodyPost_ret (v := .tuple #[.agg #[.string ⟨#[]⟩, .string ⟨#[]⟩], .bool false]) (by simp [results, Try.results64, go_sem, hc1, hc2, z12, z22]) rfl ⟨rfl, ?_⟩
        have hb := B2.out
        have hbs := hb.size
        go_grown
    · have hq := IA.out rfl
      subst hq
      go_wp2
      refine bodyPost_ret (v := .tuple #[.agg #[.string ⟨#[]⟩, .string ⟨#[]⟩], .bool false]) (by simp [results, Try.results64, go_sem, hc1, z12]) rfl ⟨rfl, ?_⟩
      have hb := B1.out
      have hbs := hb.size
      go_grown

set_option maxHeartbeats 1600000 in
theorem rcheck21_any (A : Option Addr) (n c B : Nat) (l : List ByteArray) (hl : l.length = n) (hn : n ≤ 9223372036854775807) (w : World) (hr : Rd w B A (sv l)) :
    Calls Try.prog 61 #[.slice A n c] w fun e w' => e = .returned (.int .i64 (chk21 l)) ∧ ∃ m, w' = w.drewN m := by
  by_cases h15 : 15 < n
  · have hc : chk21 l = 3 := by unfold chk21; rw [if_pos (by omega)]
    have HC := Lib.hid hc; clear hc hl hr
    go_enter Try.func61, Try.ntmps61
    go_wp2
    go_ret
    exact ⟨ret_int HC.out.symm, 0, rfl⟩
  have h2 : hasT l zE = true → chk21 l = 2 := fun h => by unfold chk21; rw [if_neg (by omega), if_pos h]
  have h3 : hasT l zE = false → chk21 l = if ordT l l.length then 0 else 10 := fun h => by unfold chk21; rw [if_neg (by omega), if_neg (by rw [h]; decide)]
  have HL := Lib.hid hl; have HR := Lib.hid hr; have H2 := Lib.hid h2; have H3 := Lib.hid h3
  clear hl hr h2 h3
  go_enter Try.func61, Try.ntmps61
  go_wp2_with fail
  go_loopw [3] (fun i wr => ∃ j : Nat, j ≤ n ∧ i = .int .i64 j ∧ w = wr ∧ Hid (hasT (l.take j) zE = false)) (fun i _ => n - (intOf i).toNat)
  case atStart => exact ⟨0, Nat.zero_le _, rfl, by simp, by unfold Hid hasT; simp⟩
  case round =>
    obtain ⟨j, hj, rfl, rfl, hU⟩ := hrel
    by_cases hlt : j < n
    · have hjl : j < l.length := by rw [HL.out]; exact hlt
      obtain ⟨b, off, rfl, hb, hcell⟩ := HR.out.at_ (sv_get l j hjl)
      by_cases he : zE.toList = l[j].toList
      · have h1 := H2.out (hasT_hit hjl he)
        have H1 := Lib.hid h1; clear h1
        have e0 : l[j] = ⟨#[]⟩ := (toList_inj he).symm
        rw [e0] at hcell
        clear he e0
        go_wp2
        go_ret
        exact ⟨ret_int H1.out.symm, 0, rfl⟩
      · have H1 := Lib.hid (hasT_step hjl hU.out he)
        have e0 : l[j].toList.isEmpty = false := by
          cases e : l[j].toList.isEmpty
          · rfl
          · exact absurd (by rw [(isE_iff _).1 e]) he
        have e1 : ¬ l[j].toList = [] := fun e => by rw [e] at e0; cases e0
        have e2 : (l[j].toList == []) = false := by simpa using e1
        clear he
        generalize l[j] = s at *
        go_wp2
        go_roundw
        case rel => exact ⟨j + 1, by omega, by go_num, by first | rfl | trivial, H1⟩
        case measure => simp [intOf]; omega
    · obtain rfl : n = j := by omega
      have h1 := hU.out
      rw [List.take_of_length_le (by have := HL.out; omega)] at h1
      have hc := H3.out h1
      have HC := Lib.hid hc; clear hc h1 H2 H3 hU
      go_wp2_with fail
      go_loopw [4] (fun i wr => ∃ j m : Nat, (j + 1 ≤ n ∨ j = 0) ∧ i = .int .i64 ((j + 1 : Nat) : Int) ∧ wr = w.drewN m ∧ Hid (ordT l (j + 1) = true)) (fun i _ => n - (intOf i).toNat)
      case atStart => exact ⟨0, 0, .inr rfl, rfl, rfl, rfl⟩
      case round =>
        obtain ⟨j, m, hj, rfl, rfl, hU⟩ := hrel
        by_cases hlt : j + 1 < n
        · obtain ⟨b, off, rfl, hb, hcell⟩ := HR.out.at_ (sv_get l j (by have := HL.out; omega))
          obtain ⟨b', off', e, hb', hcell'⟩ := HR.out.at_ (sv_get l (j + 1) (by have := HL.out; omega))
          injection e with e
          injection e with e1 e2
          subst e1 e2
          have g1 : l.getD j zE = l[j]'(by have := HL.out; omega) := by simp [List.getD, show j < l.length by have := HL.out; omega]
          have g2 : l.getD (j + 1) zE = l[j + 1]'(by have := HL.out; omega) := by simp [List.getD, show j + 1 < l.length by have := HL.out; omega]
          have hs := ordT_succ l j
          have hno := fun e => ordT_not (l := l) (i := j) (n := l.length) (by have := HL.out; omega) e
          rw [g1, g2] at hs hno
          generalize l[j]'(by have := HL.out; omega) = s at *
          generalize l[j + 1]'(by have := HL.out; omega) = t at *
          have hji : ((j + 1 : Nat) : Int) - 1 = (j : Int) := by omega
          cases hk : klt s t
          · have hz := hno hk
            have HZ := Lib.hid hz; clear hz
            have hle : (Op.bytesLess t.toList s.toList || t.toList == s.toList) = true := by
              cases h' : klt t s
              · rw [klt_total hk h']; simp
              · unfold klt at h'; rw [h']; rfl
            clear hs hno g1 g2 hk
            go_wp2
            go_quiet (fail)
            go_wp2
            go_ret
            refine ⟨ret_int ?_, m + nq, by simp⟩
            rw [HC.out, HZ.out]; rfl
          · have hz := hs
            rw [hk, hU.out] at hz
            have HZ := Lib.hid hz; clear hz
            have hle : (Op.bytesLess t.toList s.toList || t.toList == s.toList) = false := by
              have h' := klt_asymm hk
              unfold klt at h'
              rw [h', Bool.false_or, beq_eq_false_iff_ne]
              intro e
              rw [toList_inj e, klt_irrefl] at hk; cases hk
            have hl1 : Op.bytesLess t.toList s.toList = false := by simp at hle; exact hle.1
            have hl2 : (t.toList == s.toList) = false := by simp at hle; simpa using hle.2
            clear hs hno g1 g2 hk
            go_wp2
            go_quiet (fail)
            go_wp2
            go_roundw
            case rel => exact ⟨j + 1, m + nq, .inl (by omega), by go_num, by simp, HZ.out⟩
            case measure => simp [intOf]; omega
        · have ho : ordT l l.length = true := by
            rcases hj with hj | rfl
            · obtain rfl : n = j + 1 := by omega
              rw [HL.out]; exact hU.out
            · unfold ordT
              have : l.length - 1 = 0 := by have := HL.out; omega
              rw [this]; rfl
          have HO := Lib.hid ho; clear ho
          go_wp2
          go_ret
          refine ⟨ret_int ?_, m, rfl⟩
          rw [HC.out, HO.out]; rfl
end Go.Proofs.Ytlpdihcgdgkkbaa
