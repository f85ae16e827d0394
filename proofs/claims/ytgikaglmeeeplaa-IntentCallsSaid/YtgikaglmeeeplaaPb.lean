/- Walks: keys that rise; whether a record may be. -/
import Derived.Test.YtgikaglmeeeplaaPa
namespace Go.Proofs.Ytgikaglmeeeplaa
open Go.RowKit Go.St
set_option linter.unusedVariables false
set_option linter.unusedSimpArgs false
set_option maxRecDepth 100000

theorem getD_at {l : List ByteArray} {j : Nat} (h : j < l.length) : l.getD j zE = l[j] := by simp [List.getD, h]

set_option maxHeartbeats 1600000 in
theorem rising_any (A : Option Addr) (n c B : Nat) (l : List ByteArray) (hl : l.length = n) (hn : n ≤ 1000000) (w : World) (hr : Rd w B A (sv l)) :
    Calls Try.prog 64 #[.slice A n c] w fun e w' => e = .returned (.bool (riseB l)) ∧ ∃ m, w' = w.drewN m := by
  have HL := Lib.hid hl; have HR := Lib.hid hr; clear hl hr
  have HB : riseB l = riseU l n := by unfold riseB; rw [HL.out]
  rw [HB]
  clear HB
  obtain ⟨Q, hQ⟩ : ∃ Q, Q = riseU l n := ⟨_, rfl⟩
  rw [← hQ]
  have HQ := Lib.hid hQ; clear hQ
  go_enter Try.func64, Try.ntmps64
  go_wp2_with fail
  go_loopw [7] (fun i wr => ∃ j : Nat, j ≤ n ∧ i = .int .i64 j ∧ w = wr ∧ Hid (riseU l j = true)) (fun i _ => n - (intOf i).toNat)
  case atStart => exact ⟨0, Nat.zero_le _, rfl, by simp, rfl⟩
  case round =>
    obtain ⟨j, hj, rfl, rfl, hU⟩ := hrel
    by_cases hlt : j < n
    · have hjl : j < l.length := by rw [HL.out]; exact hlt
      obtain ⟨b, off, rfl, hb, hcell⟩ := HR.out.at_ (sv_get l j hjl)
      have hg := getD_at hjl
      by_cases he : l[j].toList.isEmpty = true
      · have hno : Q = false := by rw [HQ.out]; exact riseU_no hlt (by unfold riseAt; rw [hg, he]; rfl)
        subst hno
        have e0 : l[j].toList = [] := List.isEmpty_iff.1 he
        have e1 : l[j] = ⟨#[]⟩ := toList_inj (by rw [e0, Lib.toList_data])
        rw [e1] at hcell
        clear he e0 e1 hg
        go_wp2
        go_ret
        exact ⟨ret_bool (by simp), 0, rfl⟩
      · have e0 : l[j].toList.isEmpty = false := by simpa using he
        have e1 : ¬ l[j].toList = [] := fun e => by rw [e] at e0; cases e0
        have e2 : (l[j].toList == []) = false := by simpa using e1
        rcases j with _ | j
        · have HS : Hid (riseU l (0 + 1) = true) := riseU_succ hU.out (by unfold riseAt; rw [hg, e0]; rfl)
          clear hg he
          simp only [Nat.add_zero] at hcell
          generalize l[0] = s at *
          go_wp2
          go_roundw
          case rel => exact ⟨0 + 1, by omega, by go_num, by first | rfl | trivial, HS⟩
          case measure => first | (simp [intOf]; omega) | simp [intOf]
        · have hjl' : j < l.length := by omega
          obtain ⟨b', off', e, -, hcell'⟩ := HR.out.at_ (sv_get l j hjl')
          injection e with e; injection e with ea eb; subst ea eb
          have hg' := getD_at hjl'
          have hji : ((j + 1 : Nat) : Int) - 1 = (j : Int) := by omega
          have hra : riseAt l (j + 1) = klt l[j] l[j + 1] := by
            unfold riseAt
            rw [hg, e0, Nat.add_sub_cancel, hg']
            simp
          have hs := fun h => riseU_succ (j := j + 1) hU.out h
          have hno := fun h => riseU_no (l := l) (j := j + 1) (n := n) hlt h
          rw [hra, klt_nle] at hs hno
          clear hg hg' hra he
          generalize l[j] = p at *
          generalize l[j + 1] = s at *
          cases hk : (Op.bytesLess s.toList p.toList || s.toList == p.toList)
          · have hz := hs (by rw [hk]; rfl)
            have HS := Lib.hid hz
            have hk1 : Op.bytesLess s.toList p.toList = false := by simp at hk; exact hk.1
            have hk2 : (s.toList == p.toList) = false := by simp at hk; simpa using hk.2
            have hk3 : Op.bytesLess p.toList s.toList = true := by
              have := klt_nle p s
              rw [hk] at this; exact this
            clear hs hno hz
            go_wp2
            go_roundw
            case rel => exact ⟨j + 1 + 1, by omega, by go_num, by first | rfl | trivial, HS⟩
            case measure => first | (simp [intOf]; omega) | simp [intOf]
          · have hz : Q = false := by rw [HQ.out]; exact hno (by rw [hk]; rfl)
            subst hz
            have hk3 : Op.bytesLess p.toList s.toList = false := by
              have := klt_nle p s
              rw [hk] at this; exact this
            clear hs hno
            go_wp2
            go_ret
            exact ⟨ret_bool (by simp), 0, rfl⟩
    · obtain rfl : n = j := by omega
      have hz : Q = true := by rw [HQ.out, hU.out]
      subst hz
      go_wp2
      go_ret
      exact ⟨ret_bool (by simp), 0, rfl⟩

set_option maxHeartbeats 1600000 in
theorem fine_any (A : Option Addr) (n c B : Nat) (l : List ByteArray) (hl : l.length = n) (hn : n ≤ 1000000) (w : World) (hr : Rd w B A (sv l)) :
    Calls Try.prog 65 #[.slice A n c] w fun e w' => e = .returned (.bool (riseB l && decide (0 < n))) ∧ ∃ m, w' = w.drewN m := by
  have HL := Lib.hid hl; have HR := Lib.hid hr; clear hl hr
  have HB : riseB l = riseU l n := by unfold riseB; rw [HL.out]
  rw [HB]
  clear HB
  obtain ⟨Q, hQ⟩ : ∃ Q, Q = riseU l n := ⟨_, rfl⟩
  rw [← hQ]
  have HQ := Lib.hid hQ; clear hQ
  go_enter Try.func65, Try.ntmps65
  go_wp2_with fail
  go_loopw [3] (fun i wr => ∃ j m : Nat, j ≤ n ∧ i = .int .i64 j ∧ wr = w.drewN m ∧ Hid (riseU l j = true)) (fun i _ => n - (intOf i).toNat)
  case atStart => exact ⟨0, 0, Nat.zero_le _, rfl, rfl, rfl⟩
  case round =>
    obtain ⟨j, m, hj, rfl, rfl, hU⟩ := hrel
    by_cases hlt : j < n
    · have hjl : j < l.length := by rw [HL.out]; exact hlt
      obtain ⟨b, off, rfl, hb, hcell⟩ := HR.out.at_ (sv_get l j hjl)
      have hg := getD_at hjl
      by_cases he : l[j].toList.isEmpty = true
      · have hno : Q = false := by rw [HQ.out]; exact riseU_no hlt (by unfold riseAt; rw [hg, he]; rfl)
        subst hno
        have e0 : l[j].toList = [] := List.isEmpty_iff.1 he
        have e1 : l[j] = ⟨#[]⟩ := toList_inj (by rw [e0, Lib.toList_data])
        rw [e1] at hcell
        clear he e0 e1 hg
        go_wp2
        go_quiet (fail)
        go_wp2
        go_ret
        exact ⟨ret_bool (by simp), m + nq, by simp⟩
      · have e0 : l[j].toList.isEmpty = false := by simpa using he
        have e1 : ¬ l[j].toList = [] := fun e => by rw [e] at e0; cases e0
        have e2 : (l[j].toList == []) = false := by simpa using e1
        rcases j with _ | j
        · have HS : Hid (riseU l (0 + 1) = true) := riseU_succ hU.out (by unfold riseAt; rw [hg, e0]; rfl)
          clear hg he
          simp only [Nat.add_zero] at hcell
          generalize l[0] = s at *
          go_wp2
          go_quiet (fail)
          go_wp2
          go_roundw
          case rel => exact ⟨0 + 1, m + nq, by omega, by go_num, by simp, HS⟩
          case measure => first | (simp [intOf]; omega) | simp [intOf]
        · have hjl' : j < l.length := by omega
          obtain ⟨b', off', e, -, hcell'⟩ := HR.out.at_ (sv_get l j hjl')
          injection e with e; injection e with ea eb; subst ea eb
          have hg' := getD_at hjl'
          have hji : ((j + 1 : Nat) : Int) - 1 = (j : Int) := by omega
          have hra : riseAt l (j + 1) = klt l[j] l[j + 1] := by
            unfold riseAt
            rw [hg, e0, Nat.add_sub_cancel, hg']
            simp
          have hs := fun h => riseU_succ (j := j + 1) hU.out h
          have hno := fun h => riseU_no (l := l) (j := j + 1) (n := n) hlt h
          rw [hra, klt_nle] at hs hno
          clear hg hg' hra he
          generalize l[j] = p at *
          generalize l[j + 1] = s at *
          cases hk : (Op.bytesLess s.toList p.toList || s.toList == p.toList)
          · have hz := hs (by rw [hk]; rfl)
            have HS := Lib.hid hz
            have hk1 : Op.bytesLess s.toList p.toList = false := by simp at hk; exact hk.1
            have hk2 : (s.toList == p.toList) = false := by simp at hk; simpa using hk.2
            have hk3 : Op.bytesLess p.toList s.toList = true := by
              have := klt_nle p s
              rw [hk] at this; exact this
            clear hs hno hz
            go_wp2
            go_quiet (fail)
            go_wp2
            go_roundw
            case rel => exact ⟨j + 1 + 1, m + nq, by omega, by go_num, by simp, HS⟩
            case measure => first | (simp [intOf]; omega) | simp [intOf]
          · have hz : Q = false := by rw [HQ.out]; exact hno (by rw [hk]; rfl)
            subst hz
            have hk3 : Op.bytesLess p.toList s.toList = false := by
              have := klt_nle p s
              rw [hk] at this; exact this
            clear hs hno
            go_wp2
            go_quiet (fail)
            go_wp2
            go_ret
            exact ⟨ret_bool (by simp), m + nq, by simp⟩
    · obtain rfl : n = j := by omega
      have hz : Q = true := by rw [HQ.out, hU.out]
      subst hz
      go_wp2
      go_ret
      exact ⟨ret_bool (by simp), m, by simp⟩
end Go.Proofs.Ytgikaglmeeeplaa
