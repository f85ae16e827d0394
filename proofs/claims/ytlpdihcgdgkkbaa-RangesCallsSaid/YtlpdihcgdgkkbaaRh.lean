/- Walks: lists of spans compared; the chapter's first example. -/
import Derived.Test.YtlpdihcgdgkkbaaRg
namespace Go.Proofs.Ytlpdihcgdgkkbaa
open Go.RowKit Go.St
set_option linter.unusedVariables false
set_option linter.unusedSimpArgs false
set_option maxRecDepth 100000

theorem byteArray_beq_false {a b : ByteArray} (h : a ≠ b) : (a.toList == b.toList) = false := by
  rw [beq_eq_false_iff_ne]; exact fun e => h (toList_inj e)

set_option maxHeartbeats 800000 in
theorem spans21_any (A A' : Option Addr) (n n' c c' B B' : Nat) (L L' : List (ByteArray × ByteArray)) (hl : L.length = n) (hl' : L'.length = n') (hn : n ≤ 1000000) (hn' : n' ≤ 1000000) (w : World)
    (hr : Rd w B A (pv L)) (hr' : Rd w B' A' (pv L')) :
    Calls Try.prog 65 #[.slice A n c, .slice A' n' c'] w fun e w' => e = .returned (.bool (decide (L = L'))) ∧ ∃ m, w' = w.drewN m := by
  have HL := Lib.hid hl; have HL' := Lib.hid hl'
  have HR := Lib.hid hr; have HR' := Lib.hid hr'
  clear hl hl' hr hr'
  by_cases hnn : n = n'
  case neg =>
    have hf : decide (L = L') = false := decide_eq_false (fun e => hnn (by rw [← HL.out, ← HL'.out, e]))
    rw [hf]
    clear hf
    go_enter Try.func65, Try.ntmps65
    go_wp2
    go_ret
    exact ⟨rfl, 0, rfl⟩
  subst hnn
  obtain ⟨Q, hQ⟩ : ∃ Q, Q = decide (L = L') := ⟨_, rfl⟩
  rw [← hQ]
  have HQ := Lib.hid hQ; clear hQ
  go_enter Try.func65, Try.ntmps65
  go_wp2
  go_loopw [5] (fun i wr => ∃ k m : Nat, k ≤ n ∧ i = .int .i64 k ∧ wr = w.drewN m ∧ Hid (L.take k = L'.take k)) (fun i _ => n - (intOf i).toNat)
  case atStart => exact ⟨0, 0, Nat.zero_le _, rfl, rfl, rfl⟩
  case round =>
    obtain ⟨k, m, hk, rfl, rfl, hU⟩ := hrel
    by_cases hlt : k < n
    · have h1 : k < L.length := by rw [HL.out]; exact hlt
      have h2 : k < L'.length := by rw [HL'.out]; exact hlt
      obtain ⟨b, off, rfl, hb, ca⟩ := HR.out.at_ (pv_get1 L k h1)
      obtain ⟨_, _, e, _, cb⟩ := HR.out.at_ (pv_get2 L k h1)
      injection e with e; injection e with e1 e2; subst e1 e2
      obtain ⟨b', off', rfl, hb', ca'⟩ := HR'.out.at_ (pv_get1 L' k h2)
      obtain ⟨_, _, e, _, cb'⟩ := HR'.out.at_ (pv_get2 L' k h2)
      injection e with e; injection e with e1 e2; subst e1 e2
      have hs : L[k] = L'[k] → L.take (k + 1) = L'.take (k + 1) := fun e => by
        rw [take_snoc L k h1, take_snoc L' k h2, hU.out, e]
      have hno : L[k] ≠ L'[k] → L ≠ L' := fun e e' => e (by subst e'; rfl)
      have HS := Lib.hid hs; have HN := Lib.hid hno
      clear hs hno
      generalize L[k] = p at *
      generalize L'[k] = p' at *
      obtain ⟨p1, p2⟩ := p
      obtain ⟨q1, q2⟩ := p'
      simp only at ca cb ca' cb'
      rw [show 2 * k = k * 2 by omega] at ca cb ca' cb'
      rw [← Nat.add_assoc] at cb cb'
      by_cases he1 : p1 = q1
      · by_cases he2 : p2 = q2
        · subst he1 he2
          have HT := Lib.hid (HS.out rfl)
          clear HS HN hU
          go_wp2
          go_quiet (fail)
          go_wp2
          exact ⟨⟨k + 1, m + nq, by omega, by go_num, by simp, HT⟩, by simp [intOf]; omega⟩
        · have e0 := byteArray_beq_false he2
          have hq : Q = false := by rw [HQ.out]; exact decide_eq_false (HN.out (fun e => he2 (Prod.mk.inj e).2))
          subst hq
          clear HS HN hU he2
          go_wp2
          go_quiet (fail)
          go_wp2
          go_ret
          exact ⟨rfl, m + nq, by simp⟩
      · have e0 := byteArray_beq_false he1
        have hq : Q = false := by rw [HQ.out]; exact decide_eq_false (HN.out (fun e => he1 (Prod.mk.inj e).1))
        subst hq
        clear HS HN hU he1
        go_wp2
        go_quiet (fail)
        go_wp2
        go_ret
        exact ⟨rfl, m + nq, by simp⟩
    · obtain rfl : k = n := by omega
      have hq : Q = true := by
        rw [HQ.out]
        have := hU.out
        rw [List.take_of_length_le (by rw [HL.out]; exact Nat.le_refl _), List.take_of_length_le (by rw [HL'.out]; exact Nat.le_refl _)] at this
        exact decide_eq_true this
      subst hq
      go_wp2
      go_ret
      exact ⟨rfl, m, rfl⟩

def cF : ByteArray := ⟨#[102]⟩
def cG : ByteArray := ⟨#[103]⟩
def cO : ByteArray := ⟨#[111]⟩
def cP : ByteArray := ⟨#[112]⟩
def cQ : ByteArray := ⟨#[113]⟩
theorem lv_chk : chk21 [cG, cP] = 0 := by decide +kernel
theorem lv_of : ofR [cG, cP] cO = 1 := by decide +kernel
theorem lv_parts : partsN [cG, cP] cF cQ = [(cF, cG), (cG, cP), (cP, cQ)] := by decide +kernel
end Go.Proofs.Ytlpdihcgdgkkbaa
