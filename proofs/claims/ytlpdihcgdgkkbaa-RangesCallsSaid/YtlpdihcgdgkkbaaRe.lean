/- Walks: slices.BinarySearch on texts; the range of a key. -/
import Derived.Test.YtlpdihcgdgkkbaaRm
import Derived.LoopTactic
namespace Go.Proofs.Ytlpdihcgdgkkbaa
open Go.RowKit Go.St
set_option linter.unusedVariables false
set_option linter.unusedSimpArgs false
set_option maxRecDepth 100000

theorem Rd.drew {w : World} {B : Nat} {A : Option Addr} {xs : List Value} (h : Rd w B A xs) (m : Nat) : Rd (w.drewN m) B A xs := h.keep fun p _ => by simp
theorem cisNaN_any (x : ByteArray) (w : World) : Calls Try.prog 95 #[.string x] w fun e w' => e = .returned (.bool false) ∧ w = w' := by
  go_enter Try.func95, Try.ntmps95
  go_wp2
  go_ret
  exact ⟨by simp, rfl⟩
theorem sisNaN_any (x : ByteArray) (w : World) : Calls Try.prog 92 #[.string x] w fun e w' => e = .returned (.bool false) ∧ w = w' := by
  go_enter Try.func92, Try.ntmps92
  go_wp2
  go_ret
  exact ⟨by simp, rfl⟩
theorem cless_any (x y : ByteArray) (w : World) : Calls Try.prog 91 #[.string x, .string y] w fun e w' => e = .returned (.bool (Op.bytesLess x.toList y.toList)) ∧ w = w' := by
  go_enter Try.func91, Try.ntmps91
  go_wp2_with (go_at_call 95; refine (cisNaN_any _ _).mono ?_; rintro e w' ⟨rfl, rfl⟩)
  go_ret
  exact ⟨rfl, rfl⟩

set_option maxHeartbeats 4000000 in
theorem bsearch_any (A : Option Addr) (n c B : Nat) (l : List ByteArray) (hl : l.length = n) (hn : n < 4611686018427387904) (k : ByteArray) (ho : ordT l l.length = true) (w : World) (hr : Rd w B A (sv l)) :
    Calls Try.prog 77 #[.slice A n c, .string k] w fun e w' => e = .returned (.tuple #[.int .i64 (bsT l k), .bool (hasT l k)]) ∧ ∃ q, w' = w.drewN q := by
  have HL := Lib.hid hl; clear hl
  have HR := Lib.hid hr; clear hr
  have HO := Lib.hid ho; clear ho
  obtain ⟨I, hI⟩ : ∃ I, I = bsT l k := ⟨_, rfl⟩
  obtain ⟨Q, hQ⟩ : ∃ Q, Q = hasT l k := ⟨_, rfl⟩
  rw [← hI, ← hQ]
  have HI := Lib.hid hI; clear hI
  have HQ := Lib.hid hQ; clear hQ
  go_enter Try.func77, Try.ntmps77
  go_wp2
  go_loopw [7, 8] (fun s7 s8 wr => ∃ lo hi q : Nat, s7 = .int .i64 lo ∧ s8 = .int .i64 hi ∧ lo ≤ hi ∧ hi ≤ n ∧ wr = w.drewN q ∧ Hid (∀ i, i < lo → klt (l.getD i zE) k = true) ∧ Hid (∀ i, hi ≤ i → i < l.length → klt (l.getD i zE) k = false)) (fun s7 s8 _ => (intOf s8).toNat - (intOf s7).toNat)
  case atStart => exact ⟨0, n, 0, rfl, rfl, Nat.zero_le _, Nat.le_refl _, rfl, fun i hi => absurd hi (Nat.not_lt_zero _), fun i hi h => absurd h (by have := HL.out; omega)⟩
  case round =>
    obtain ⟨lo, hi, q, rfl, rfl, hlh, hin, rfl, HA, HB⟩ := hrel
    by_cases hlt : lo < hi
    · have hjl : (lo + hi) / 2 < l.length := by rw [HL.out]; omega
      obtain ⟨b, off, rfl, hb, hcell⟩ := HR.out.at_ (sv_get l _ hjl)
      have hy : l.getD ((lo + hi) / 2) zE = l[(lo + hi) / 2] := by simp [List.getD, hjl]
      have h1 := fun h => below_all (k := k) HO.out hjl h
      have h2 := fun h => above_all (m := (lo + hi) / 2) (k := k) HO.out h
      rw [hy] at h1 h2
      generalize l[(lo + hi) / 2] = y at *
      have H1 := Lib.hid h1; have H2 := Lib.hid h2
      clear h1 h2 hy
      cases hyx : Op.bytesLess y.toList k.toList
      · have hz := H2.out hyx
        have HZ := Lib.hid hz; clear hz
        go_wp2_with (go_at_call 91; refine (cless_any _ _ _).mono ?_; rintro e w' ⟨rfl, rfl⟩)
        exact ⟨⟨lo, (lo + hi) / 2, _, rfl, by rw [show ((lo : Int) + (hi : Int)) / 2 = (((lo + hi) / 2 : Nat) : Int) by omega], by omega, by omega, rfl, HA, HZ⟩, by simp [intOf]; omega⟩
      · have hz := H1.out hyx
        have HZ := Lib.hid hz; clear hz
        go_wp2_with (go_at_call 91; refine (cless_any _ _ _).mono ?_; rintro e w' ⟨rfl, rfl⟩)
        exact ⟨⟨(lo + hi) / 2 + 1, hi, _, by rw [show ((lo : Int) + (hi : Int)) / 2 + 1 = (((lo + hi) / 2 + 1 : Nat) : Int) by omega], rfl, by omega, hin, rfl, HZ, HB⟩, by simp [intOf]; omega⟩
    · have : hi = lo := by omega
      subst this
      have hIe : I = hi := by rw [HI.out]; exact bsT_eq (by rw [HL.out]; exact hin) HA.out HB.out
      subst hIe
      by_cases hlt' : I < n
      · have hjl : I < l.length := by rw [HL.out]; omega
        obtain ⟨b, off, rfl, hb, hcell⟩ := HR.out.at_ (sv_get l _ hjl)
        have hy : l.getD I zE = l[I] := by simp [List.getD, hjl]
        have h1 := fun h => hasT_yes (k := k) hjl h
        have h2 := fun h => hasT_at HO.out HA.out HB.out h
        rw [hy] at h1 h2
        rw [← HQ.out] at h1 h2
        generalize l[I] = y at *
        have H1 := Lib.hid h1; have H2 := Lib.hid h2
        clear h1 h2 hy
        by_cases hyx : y = k
        · have hz := H1.out hyx
          subst hz
          go_wp2_with (go_at_call 92; refine (sisNaN_any _ _).mono ?_; rintro e w' ⟨rfl, rfl⟩)
          all_goals
            go_ret2
            exact ⟨by simp [*], _, rfl⟩
        · have hz := H2.out (fun _ => hyx)
          subst hz
          have hne : (y.toList == k.toList) = false := by
            rw [beq_eq_false_iff_ne]
            exact fun h => hyx (toList_inj h)
          clear hyx
          go_wp2_with (go_at_call 92; refine (sisNaN_any _ _).mono ?_; rintro e w' ⟨rfl, rfl⟩)
          all_goals
            go_ret2
            exact ⟨by simp [*], _, rfl⟩
      · have hz := hasT_at (p := I) HO.out HA.out HB.out (fun h => absurd h (by have := HL.out; omega))
        rw [← HQ.out] at hz
        subst hz
        go_wp2_with (go_at_call 92; refine (sisNaN_any _ _).mono ?_; rintro e w' ⟨rfl, rfl⟩)
        all_goals
          go_ret2
          exact ⟨by simp [*], _, rfl⟩

/-- ranges.Of. -/
def ofR (l : List ByteArray) (k : ByteArray) : Nat := if chk21 l = 0 then ofT l k else 0
theorem chk_ord {l : List ByteArray} (h : chk21 l = 0) : ordT l l.length = true := by
  unfold chk21 at h
  cases e : ordT l l.length
  · rw [e] at h; revert h; repeat' split
    all_goals (intro h; first | (exact absurd (by assumption) Bool.false_ne_true) | (cases h))
  · rfl
set_option maxHeartbeats 800000 in
theorem of21_any (A : Option Addr) (n c B : Nat) (l : List ByteArray) (hl : l.length = n) (hn : n < 4611686018427387904) (k : ByteArray) (w : World) (hr : Rd w B A (sv l)) :
    Calls Try.prog 42 #[.slice A n c, .string k] w fun e w' => e = .returned (.tuple #[.int .i64 (ofR l k), .int .i64 (chk21 l)]) ∧ ∃ q, w' = w.drewN q := by
  have HC := Lib.hid (fun W (h : Rd W B A (sv l)) => check21_any A n c B l hl (by omega) W h)
  by_cases h0 : chk21 l = 0
  case neg =>
    have hR : ofR l k = 0 := by unfold ofR; rw [if_neg h0]
    rw [hR]
    have HR := Lib.hid hr; clear hr hl hR
    generalize chk21 l = z at *
    go_enter Try.func42, Try.ntmps42
    go_wp2_with fail
    refine (HC.out _ HR.out).mono ?_
    rintro e w' ⟨rfl, m, rfl⟩
    go_wp2
    go_ret2
    exact ⟨rfl, m, rfl⟩
  case pos =>
    have HS := Lib.hid (fun W (h : Rd W B A (sv l)) => bsearch_any A n c B l hl hn k (chk_ord h0) W h)
    have hR : ofR l k = bsT l k + if hasT l k then 1 else 0 := by unfold ofR ofT; rw [if_pos h0]
    have hb : bsT l k ≤ n := by rw [← hl]; unfold bsT; exact List.Sublist.length_le (List.takeWhile_sublist _)
    rw [h0] at HC
    rw [hR, h0]
    generalize bsT l k = z at *
    generalize hasT l k = q at *
    have HR := Lib.hid hr; clear hr hl hR h0
    go_enter Try.func42, Try.ntmps42
    go_wp2_with fail
    refine (HC.out _ HR.out).mono ?_
    rintro e w' ⟨rfl, m, rfl⟩
    go_wp2_with fail
    refine (HS.out _ (Rd.drew HR.out _)).mono ?_
    rintro e w' ⟨rfl, m', rfl⟩
    cases q
    · go_wp2
      go_ret2
      exact ⟨by simp, m + m', by simp⟩
    · go_wp2
      go_ret2
      exact ⟨by simp, m + m', by simp⟩
end Go.Proofs.Ytlpdihcgdgkkbaa
