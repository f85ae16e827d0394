/- Walks: records that are the same; lists of texts that are the same. -/
import Derived.Test.YthigmjcepbgljaaVe2
namespace Go.Proofs.Ythigmjcepbgljaa
open Go.RowKit Go.St
set_option linter.unusedVariables false
set_option linter.unusedSimpArgs false
set_option maxRecDepth 100000
set_option maxHeartbeats 400000 in
theorem ktexts_any (A A' : Option Addr) (n n' c c' B B' : Nat) (l l' : List ByteArray) (hl : l.length = n) (hl' : l'.length = n') (hn : n ≤ 9223372036854775807) (w : World)
    (hr : Rd w B A (sv l)) (hr' : Rd w B' A' (sv l')) :
    Calls Try.prog 23 #[.slice A n c, .slice A' n' c'] w fun e w' => e = .returned (.bool (eqL l l')) ∧ ∃ m, w' = w.drewN m := by
  by_cases hnn : n = n'
  case neg =>
    have E := Lib.hid (eqL_no (a := l) (b := l') (fun e => hnn (by rw [← hl, ← hl', e])))
    have e0 : ((n : Int) == (n' : Int)) = false := by rw [beq_eq_false_iff_ne]; omega
    have e1 : ((n : Int) != (n' : Int)) = true := by rw [bne, e0]; rfl
    clear hl hl' hr hr' hnn
    go_enter Try.func23, Try.ntmps23
    go_wp2
    go_ret
    exact ⟨ret_bool E.out.symm, 0, rfl⟩
  subst hnn
  have HL := Lib.hid hl; clear hl
  have HL' := Lib.hid hl'; clear hl'
  have HR := Lib.hid hr; clear hr
  have HR' := Lib.hid hr'; clear hr'
  go_enter Try.func23, Try.ntmps23
  go_wp2
  go_loopw [5] (fun i wr => ∃ k m : Nat, k ≤ n ∧ i = .int .i64 k ∧ Hid (l.take k = l'.take k) ∧ wr = w.drewN m) (fun i _ => n - (intOf i).toNat)
  case atStart => exact ⟨0, 0, Nat.zero_le _, rfl, by unfold Hid; simp, rfl⟩
  case round =>
    obtain ⟨k, m, hk, rfl, hT, rfl⟩ := hrel
    by_cases hlt : k < n
    · have k1 : k < l.length := by rw [HL.out]; exact hlt
      have k2 : k < l'.length := by rw [HL'.out]; exact hlt
      obtain ⟨b, off, rfl, hb, hcell⟩ := HR.out.at_ (sv_get l k k1)
      obtain ⟨b', off', rfl, hb', hcell'⟩ := HR'.out.at_ (sv_get l' k k2)
      by_cases hs : l[k] = l'[k]
      · have H1 : Hid (l.take (k + 1) = l'.take (k + 1)) := by unfold Hid; rw [take_snoc l k k1, take_snoc l' k k2, hT.out, hs]
        rw [hs] at hcell
        clear hs
        generalize l'[k] = s at *
        go_wp2
        go_quiet (fail)
        go_wp2
        exact ⟨⟨k + 1, m + nq, by omega, by go_num, H1, by simp⟩, by simp [intOf]; omega⟩
      · have H1 : Hid (eqL l l' = false) := Lib.hid (eqL_no (fun e => hs (by subst e; rfl)))
        have e0 := ba_ne hs
        have e1 : (l[k].toList != l'[k].toList) = true := by rw [bne, e0]; rfl
        clear hs
        generalize l[k] = s at *
        generalize l'[k] = t at *
        go_wp2
        go_quiet (fail)
        go_wp2
        go_ret
        exact ⟨ret_bool H1.out.symm, m + nq, by simp⟩
    · obtain rfl : k = n := by omega
      have H1 : Hid (eqL l l' = true) := Lib.hid (eqL_yes (by
        have h := hT.out
        rwa [List.take_of_length_le (by rw [HL.out]; omega), List.take_of_length_le (by rw [HL'.out]; omega)] at h))
      go_wp2
      go_ret
      exact ⟨ret_bool H1.out.symm, m, rfl⟩
theorem rsame_yes (r : Rec) (A2 : Option Addr) (c2 : Nat) (hl : fit r) (hn : r.n ≤ 9223372036854775807) (B : Nat) (w : World) (hr : Rd w B r.A (sv r.l)) (hr2 : Rd w B A2 (sv r.l)) (hB : B ≤ w.heap.size) :
    Calls Try.prog 14 #[r.v, (r.to A2 c2).v] w fun e w' => e = .returned (.bool true) ∧ Below w.heap.size w w' := by
  have HQ := Lib.hid (fun W (h : Below w.heap.size w W) => rsames_any r.A A2 r.n r.n r.c c2 B B r.l r.l hl hl hn W (hr.below (h.mono hB)) (hr2.below (h.mono hB)))
  rw [eqL_yes rfl] at HQ
  clear hr hr2 hl
  obtain ⟨nd, nu, st, ⟨aw, al, ag⟩, A, n, c, l, beat, ⟨pw, pl, pg⟩⟩ := r
  unfold Rec.to Rec.v
  simp only at HQ ⊢
  go_enter Try.func14, Try.ntmps14
  go_wp2_with fail
  refine (HQ.out _ (by go_grown)).mono ?_
  rintro e w1 ⟨rfl, m, hw1⟩
  have hb := bel_dn ((Below.refl w.heap.size w).alloc (Nat.le_refl _) (.cells #[.int .i32 nd, .int .i32 nu, .int .u8 st, .int .i64 aw, .int .i32 al, .int .i32 ag, .slice A n c, .int .i64 beat, .int .i64 pw, .int .i32 pl, .int .i32 pg] 30)) 0
  have HB : Hid (Below w.heap.size w w1) := by
    rw [hw1]
    refine bel_dn ?_ m
    go_grown
  have hcw := fun b o => congrArg (fun W : World => W.cell? ⟨b, o, none⟩) hw1
  simp only [World.cell?_drewN] at hcw
  clear hw1 hb
  go_wp2
  go_ret
  exact ⟨rfl, HB.out⟩
theorem same_yes (r : Rec) (A2 : Option Addr) (c2 : Nat) (hl : fit r) (hn : r.n ≤ 9223372036854775807) (B : Nat) (w : World) (hr : Rd w B r.A (sv r.l)) (hr2 : Rd w B A2 (sv r.l)) (hB : B ≤ w.heap.size) :
    Calls Try.prog 52 #[r.v, (r.to A2 c2).v] w fun e w' => e = .returned (.bool true) ∧ Below w.heap.size w w' := by
  have HQ := Lib.hid (fun W (h : Below w.heap.size w W) => sequal_any r.A A2 r.n r.n r.c c2 B B r.l r.l hl hl hn W (hr.below (h.mono hB)) (hr2.below (h.mono hB)))
  rw [eqL_yes rfl] at HQ
  clear hr hr2 hl
  obtain ⟨nd, nu, st, ⟨aw, al, ag⟩, A, n, c, l, beat, ⟨pw, pl, pg⟩⟩ := r
  unfold Rec.to Rec.v
  simp only at HQ ⊢
  go_enter Try.func52, Try.ntmps52
  go_wp2_with fail
  refine (HQ.out _ (by go_grown)).mono ?_
  rintro e w1 ⟨rfl, m, hw1⟩
  have hb := bel_dn ((Below.refl w.heap.size w).alloc (Nat.le_refl _) (.cells #[.int .i32 nd, .int .i32 nu, .int .u8 st, .int .i64 aw, .int .i32 al, .int .i32 ag, .slice A n c, .int .i64 beat, .int .i64 pw, .int .i32 pl, .int .i32 pg] 30)) 0
  have HB : Hid (Below w.heap.size w w1) := by
    rw [hw1]
    refine bel_dn ?_ m
    go_grown
  have hcw := fun b o => congrArg (fun W : World => W.cell? ⟨b, o, none⟩) hw1
  simp only [World.cell?_drewN] at hcw
  clear hw1 hb
  go_wp2
  go_ret
  exact ⟨rfl, HB.out⟩
end Go.Proofs.Ythigmjcepbgljaa
