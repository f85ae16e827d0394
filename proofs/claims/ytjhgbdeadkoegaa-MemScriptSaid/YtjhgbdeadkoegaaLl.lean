/- Walks: small lists; the chapter's example. -/
import Derived.Test.YtjhgbdeadkoegaaLk
namespace Go.Proofs.Ytjhgbdeadkoegaa
open Go.RowKit Go.St Go.Shelf Go.Maps
set_option linter.unusedVariables false
set_option linter.unusedSimpArgs false
set_option maxRecDepth 100000

def smallM (l : List Ent) : Bool := l.all smlE && decide (l.length ≤ 60)
set_option maxHeartbeats 1600000 in
theorem small6_any (A : Option Addr) (n c : Nat) (l : List Ent) (hl : l.length = n) (hn : n ≤ 140737488355328) (B : Nat) (w : World) (hr : Rd w B A (env l)) (hB : B ≤ w.heap.size) :
    Calls Try.prog 10 #[.slice A n c] w fun e w' => e = .returned (.bool (smallM l)) ∧ Below w.heap.size w w' := by
  obtain ⟨E, hE⟩ : ∃ E, E = smallM l := ⟨_, rfl⟩
  rw [← hE]
  have HE := Lib.hid hE
  have HL := Lib.hid hl
  have HR := Lib.hid hr
  clear hl hr hE
  go_enter Try.func10, Try.ntmps10
  go_wp2_with fail
  go_loopw [3] (fun s3 wr => ∃ i : Nat, s3 = .int .i64 (i : Int) ∧ i ≤ n ∧ Hid (∀ j x, j < i → l[j]? = some x → smlE x = true) ∧ Hid (Below w.heap.size w wr)) (fun s3 _ => n - (intOf s3).toNat)
  case atStart => exact ⟨0, rfl, Nat.zero_le _, Lib.hid (fun j x hj => by omega), Lib.hid (Below.refl _ _)⟩
  case round =>
    obtain ⟨i, rfl, hi, hU, hB1⟩ := hrel
    obtain ⟨w2, rfl⟩ : ∃ x, x = wr := ⟨_, rfl⟩
    by_cases hlt : i < n
    · obtain ⟨x, hx⟩ : ∃ x, l[i]? = some x := ⟨_, List.getElem?_eq_getElem (by rw [HL.out]; omega)⟩
      obtain ⟨b, off, rfl, hb, hce⟩ := en_at HR.out hx
      obtain ⟨d0, d1, d2, d3⟩ := hce.below (Nat.lt_of_lt_of_le hb hB) hB1.out
      have HX := Lib.hid hx
      have i1 : (i : Int) < (n : Int) := by omega
      have i0 : (0 : Int) ≤ (i : Int) := by omega
      have BAD : Hid (smlE x = false → E = false) := Lib.hid (fun h => by
        rw [HE.out]
        unfold smallM
        rw [Bool.and_eq_false_iff]
        left
        rw [List.all_eq_false]
        exact ⟨x, List.mem_of_getElem? HX.out, by rw [h]; simp⟩)
      clear hce hx
      by_cases q1 : x.key.size ≤ 600
      case neg =>
        have SEQ := Lib.hid (BAD.out (by unfold smlE; rw [decide_eq_false q1]; rfl))
        have q1' : (600 : Int) < (x.key.size : Int) := by omega
        clear q1 BAD HE
        go_wp2_with fail
        go_ret
        exact ⟨ret_bool SEQ.out.symm, hB1.out⟩
      have q1' : ¬ ((600 : Int) < (x.key.size : Int)) := by omega
      by_cases q2 : x.val.size ≤ 600
      case neg =>
        have SEQ := Lib.hid (BAD.out (by unfold smlE; rw [decide_eq_false q2, Bool.and_false]))
        have q2' : (600 : Int) < (x.val.size : Int) := by omega
        clear q1 q2 BAD HE
        go_wp2_with fail
        go_ret
        exact ⟨ret_bool SEQ.out.symm, hB1.out⟩
      have q2' : ¬ ((600 : Int) < (x.val.size : Int)) := by omega
      have HU9 : Hid (∀ j x, j < i + 1 → l[j]? = some x → smlE x = true) := Lib.hid (fun j y hj hy => by
        rcases Nat.lt_or_ge j i with h | h
        · exact hU.out j y h hy
        · have e : j = i := by omega
          subst e
          have h2 := HX.out
          rw [hy] at h2
          injection h2 with h2
          rw [h2]
          unfold smlE
          rw [decide_eq_true q1, decide_eq_true q2]
          rfl)
      clear q1 q2 BAD hU
      go_wp2_with fail
      go_roundw
      case rel => exact ⟨i + 1, by go_num, by omega, HU9, hB1⟩
      case measure => simp [intOf]; omega
    · have i1 : ¬ (i : Int) < (n : Int) := by omega
      have SEQ : Hid (E = decide (n ≤ 60)) := Lib.hid (by
        rw [HE.out]
        unfold smallM
        rw [List.all_eq_true.2 (fun x hx => by
          obtain ⟨j, hj⟩ := List.mem_iff_getElem?.1 hx
          exact hU.out j x (by have := (List.getElem?_eq_some_iff.1 hj).1; have := HL.out; omega) hj), HL.out]
        rfl)
      clear hlt hU
      by_cases q : n ≤ 60
      · have q' : ((n : Int) ≤ 60) := by omega
        rw [decide_eq_true q] at SEQ
        clear q
        go_wp2_with fail
        go_ret
        exact ⟨ret_bool SEQ.out.symm, hB1.out⟩
      · have q' : ¬ ((n : Int) ≤ 60) := by omega
        rw [decide_eq_false q] at SEQ
        clear q
        go_wp2_with fail
        go_ret
        exact ⟨ret_bool SEQ.out.symm, hB1.out⟩
end Go.Proofs.Ytjhgbdeadkoegaa
