/- Walks: lists of keys compared; records compared. -/
import Derived.Test.YthigmjcepbgljaaVb
namespace Go.Proofs.Ythigmjcepbgljaa
open Go.RowKit Go.St
set_option linter.unusedVariables false
set_option linter.unusedSimpArgs false
set_option maxRecDepth 100000

theorem ba_ne {a b : ByteArray} (h : a ≠ b) : (a.toList == b.toList) = false := by
  rw [beq_eq_false_iff_ne]
  exact fun e => h (toList_inj e)
theorem map_inj : ∀ {a b : List ByteArray}, a.map ByteArray.toList = b.map ByteArray.toList → a = b := by
  intro a
  induction a with
  | nil => intro b h; cases b with | nil => rfl | cons y b => simp at h
  | cons x a ih =>
    intro b h
    cases b with
    | nil => simp at h
    | cons y b =>
      rw [List.map_cons, List.map_cons] at h
      injection h with h1 h2
      rw [toList_inj h1, ih h2]
theorem eqL_iff {a b : List ByteArray} : eqL a b = true ↔ a = b := by
  unfold eqL
  rw [beq_iff_eq]
  exact ⟨map_inj, fun h => by rw [h]⟩
theorem eqL_yes {a b : List ByteArray} (h : a = b) : eqL a b = true := eqL_iff.2 h
theorem eqL_no {a b : List ByteArray} (h : a ≠ b) : eqL a b = false := by
  cases e : eqL a b
  · rfl
  · exact absurd (eqL_iff.1 e) h
set_option maxHeartbeats 400000 in
theorem sequal_any (A A' : Option Addr) (n n' c c' B B' : Nat) (l l' : List ByteArray) (hl : l.length = n) (hl' : l'.length = n') (hn : n ≤ 9223372036854775807) (w : World)
    (hr : Rd w B A (sv l)) (hr' : Rd w B' A' (sv l')) :
    Calls Try.prog 69 #[.slice A n c, .slice A' n' c'] w fun e w' => e = .returned (.bool (eqL l l')) ∧ ∃ m, w' = w.drewN m := by
  by_cases hnn : n = n'
  case neg =>
    have E := Lib.hid (eqL_no (a := l) (b := l') (fun e => hnn (by rw [← hl, ← hl', e])))
    have e0 : ((n : Int) == (n' : Int)) = false := by rw [beq_eq_false_iff_ne]; omega
    have e1 : ((n : Int) != (n' : Int)) = true := by rw [bne, e0]; rfl
    clear hl hl' hr hr' hnn
    go_enter Try.func69, Try.ntmps69
    go_wp2
    go_ret
    exact ⟨ret_bool E.out.symm, 0, rfl⟩
  subst hnn
  have HL := Lib.hid hl; clear hl
  have HL' := Lib.hid hl'; clear hl'
  have HR := Lib.hid hr; clear hr
  have HR' := Lib.hid hr'; clear hr'
  go_enter Try.func69, Try.ntmps69
  go_wp2
  go_loopw [13] (fun i wr => ∃ k m : Nat, k ≤ n ∧ i = .int .i64 k ∧ Hid (l.take k = l'.take k) ∧ wr = w.drewN m) (fun i _ => n - (intOf i).toNat)
  case atStart => exact ⟨0, 0, Nat.zero_le _, rfl, by unfold Hid; simp, rfl⟩
  case round =>
    obtain ⟨k, m, hk, rfl, hT, rfl⟩ := hrel
    by_cases hlt : k < n
    · have k1 : k < l.length := by rw [HL.out]; exact hlt
      have k2 : k < l'.length := by rw [HL'.out]; exact hlt
      obtain ⟨b, off, rfl, hb, hcell⟩ := HR.out.at_ (sv_get l k k1)
      obtain ⟨b', off', rfl, hb', hcell'⟩ := HR'.out.at_ (sv_get l' k k2)
      by_cases hs : l[k] = l'[k]
      · have H1 : Hid (l.take (k + 1) = l'.take (k + 1)) := by unfold Hid; rw [take_snoc l k k1, take_snoc l' k k2, hT.out, hs]
        rw [hs] at hcell
        clear hs
        generalize l'[k] = s at *
        go_wp2
        go_quiet (fail)
        go_wp2
        exact ⟨⟨k + 1, m + nq, by omega, by go_num, H1, by simp⟩, by simp [intOf]; omega⟩
      · have H1 : Hid (eqL l l' = false) := Lib.hid (eqL_no (fun e => hs (by subst e; rfl)))
        have e0 := ba_ne hs
        have e1 : (l[k].toList != l'[k].toList) = true := by rw [bne, e0]; rfl
        clear hs
        generalize l[k] = s at *
        generalize l'[k] = t at *
        go_wp2
        go_quiet (fail)
        go_wp2
        go_ret
        exact ⟨ret_bool H1.out.symm, m + nq, by simp⟩
    · obtain rfl : k = n := by omega
      have H1 : Hid (eqL l l' = true) := Lib.hid (eqL_yes (by
        have h := hT.out
        rwa [List.take_of_length_le (by rw [HL.out]; omega), List.take_of_length_le (by rw [HL'.out]; omega)] at h))
      go_wp2
      go_ret
      exact ⟨ret_bool H1.out.symm, m, rfl⟩
set_option maxHeartbeats 400000 in
theorem rsames_any (A A' : Option Addr) (n n' c c' B B' : Nat) (l l' : List ByteArray) (hl : l.length = n) (hl' : l'.length = n') (hn : n ≤ 9223372036854775807) (w : World)
    (hr : Rd w B A (sv l)) (hr' : Rd w B' A' (sv l')) :
    Calls Try.prog 60 #[.slice A n c, .slice A' n' c'] w fun e w' => e = .returned (.bool (eqL l l')) ∧ ∃ m, w' = w.drewN m := by
  by_cases hnn : n = n'
  case neg =>
    have E := Lib.hid (eqL_no (a := l) (b := l') (fun e => hnn (by rw [← hl, ← hl', e])))
    have e0 : ((n : Int) == (n' : Int)) = false := by rw [beq_eq_false_iff_ne]; omega
    have e1 : ((n : Int) != (n' : Int)) = true := by rw [bne, e0]; rfl
    clear hl hl' hr hr' hnn
    go_enter Try.func60, Try.ntmps60
    go_wp2
    go_ret
    exact ⟨ret_bool E.out.symm, 0, rfl⟩
  subst hnn
  have HL := Lib.hid hl; clear hl
  have HL' := Lib.hid hl'; clear hl'
  have HR := Lib.hid hr; clear hr
  have HR' := Lib.hid hr'; clear hr'
  go_enter Try.func60, Try.ntmps60
  go_wp2
  go_loopw [5] (fun i wr => ∃ k m : Nat, k ≤ n ∧ i = .int .i64 k ∧ Hid (l.take k = l'.take k) ∧ wr = w.drewN m) (fun i _ => n - (intOf i).toNat)
  case atStart => exact ⟨0, 0, Nat.zero_le _, rfl, by unfold Hid; simp, rfl⟩
  case round =>
    obtain ⟨k, m, hk, rfl, hT, rfl⟩ := hrel
    by_cases hlt : k < n
    · have k1 : k < l.length := by rw [HL.out]; exact hlt
      have k2 : k < l'.length := by rw [HL'.out]; exact hlt
      obtain ⟨b, off, rfl, hb, hcell⟩ := HR.out.at_ (sv_get l k k1)
      obtain ⟨b', off', rfl, hb', hcell'⟩ := HR'.out.at_ (sv_get l' k k2)
      by_cases hs : l[k] = l'[k]
      · have H1 : Hid (l.take (k + 1) = l'.take (k + 1)) := by unfold Hid; rw [take_snoc l k k1, take_snoc l' k k2, hT.out, hs]
        rw [hs] at hcell
        clear hs
        generalize l'[k] = s at *
        go_wp2
        go_quiet (fail)
        go_wp2
        exact ⟨⟨k + 1, m + nq, by omega, by go_num, H1, by simp⟩, by simp [intOf]; omega⟩
      · have H1 : Hid (eqL l l' = false) := Lib.hid (eqL_no (fun e => hs (by subst e; rfl)))
        have e0 := ba_ne hs
        have e1 : (l[k].toList != l'[k].toList) = true := by rw [bne, e0]; rfl
        clear hs
        generalize l[k] = s at *
        generalize l'[k] = t at *
        go_wp2
        go_quiet (fail)
        go_wp2
        go_ret
        exact ⟨ret_bool H1.out.symm, m + nq, by simp⟩
    · obtain rfl : k = n := by omega
      have H1 : Hid (eqL l l' = true) := Lib.hid (eqL_yes (by
        have h := hT.out
        rwa [List.take_of_length_le (by rw [HL.out]; omega), List.take_of_length_le (by rw [HL'.out]; omega)] at h))
      go_wp2
      go_ret
      exact ⟨ret_bool H1.out.symm, m, rfl⟩
end Go.Proofs.Ythigmjcepbgljaa
