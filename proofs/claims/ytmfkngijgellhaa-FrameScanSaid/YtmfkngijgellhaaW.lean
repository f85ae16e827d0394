/- The walks of small, rows and SameRecords. -/
import Derived.Test.YtmfkngijgellhaaV
import Derived.Test.YtmfkngijgellhaaQ
namespace Go.Proofs.Ytmfkngijgellhaa
open Go.RowKit Go.St
set_option linter.unusedVariables false

def smallB (bss : List (List UInt8)) : Bool := decide (∀ r ∈ bss, r.length ≤ 400) && decide (bss.length ≤ 40)

theorem all_take_succ {p : List UInt8 → Prop} {l : List (List UInt8)} {k : Nat} (hk : k < l.length) (h : ∀ r ∈ l.take k, p r) (h2 : p l[k]) : ∀ r ∈ l.take (k + 1), p r := by
  rw [List.take_add_one, List.getElem?_eq_getElem hk]
  intro r hr
  rcases List.mem_append.1 hr with h3 | h3
  · exact h r h3
  · simp at h3
    subst h3
    exact h2

set_option maxHeartbeats 1000000 in
theorem small_any (A : Option Addr) (n c B : Nat) (bss : List (List UInt8)) (hl : bss.length = n) (hn : n ≤ 9223372036854775807) (w : World) (hr : RR w B A bss) :
    Calls Try.prog 38 #[.slice A n c] w fun e w' => e = .returned (.bool (smallB bss)) ∧ w = w' := by
  have HL := Lib.hid hl; clear hl
  have HR := Lib.hid hr; clear hr
  go_enter Try.func38, Try.ntmps38
  go_wp2
  go_loop [3] (fun i => ∃ k : Nat, k ≤ n ∧ i = .int .i64 k ∧ ∀ r ∈ bss.take k, r.length ≤ 400) (fun i => n - (intOf i).toNat)
  case atStart => exact ⟨0, Nat.zero_le _, rfl, by simp⟩
  case round =>
    obtain ⟨k, hk, rfl, hall⟩ := hrel
    have HALL := Lib.hid hall; clear hall
    by_cases hlt : k < n
    · have hkb : k < bss.length := by rw [HL.out]; exact hlt
      obtain ⟨b, off, Ai, ci, rfl, hb, hc, h1, h2, hri⟩ := HR.out.at_ hkb
      have HRI := Lib.hid hri; clear hri
      have HN := Lib.hid (fun h => all_take_succ (p := fun r => r.length ≤ 400) hkb HALL.out h)
      obtain ⟨m, hm⟩ : ∃ m, bss[k].length = m := ⟨_, rfl⟩
      rw [hm] at hc h1
      have HM := Lib.hid hm; clear hm
      have i0 : (0 : Int) ≤ (k : Int) := by omega
      have i1 : (k : Int) < (n : Int) := by omega
      by_cases hbig : m ≤ 400
      · have j1 : (m : Int) ≤ 400 := by omega
        go_wp2
        exact ⟨⟨k + 1, by omega, by go_num, HN.out (by rw [HM.out]; exact hbig)⟩, by simp [intOf]; omega⟩
      · have j1 : (400 : Int) < (m : Int) := by omega
        go_wp2
        go_ret
        refine ⟨?_, rfl⟩
        have : smallB bss = false := by
          unfold smallB
          rw [decide_eq_false (p := ∀ r ∈ bss, r.length ≤ 400) (fun h => hbig (by rw [← HM.out]; exact h _ (List.getElem_mem hkb)))]
          rfl
        rw [this]
        rfl
    · obtain rfl : k = n := by omega
      have hall : ∀ r ∈ bss, r.length ≤ 400 := by
        have := HALL.out
        rwa [List.take_of_length_le (by rw [HL.out]; exact Nat.le_refl _)] at this
      go_wp2
      go_ret
      refine ⟨?_, rfl⟩
      unfold smallB
      rw [decide_eq_true hall, HL.out, Bool.true_and]
      congr 2
      simp
      omega

set_option maxHeartbeats 1000000 in
theorem sameRecords_any (A A' : Option Addr) (n c n' c' B B' : Nat) (bss bss' : List (List UInt8)) (hl : bss.length = n) (hl' : bss'.length = n') (hn : n ≤ 9223372036854775807) (w : World) (hr : RR w B A bss) (hr' : RR w B' A' bss') :
    Calls Try.prog 40 #[.slice A n c, .slice A' n' c'] w fun e w' => e = .returned (.bool (decide (bss = bss'))) ∧ ∃ m, w' = w.drewN m := by
  have HL := Lib.hid hl; clear hl
  have HL' := Lib.hid hl'; clear hl'
  have HR := Lib.hid hr; clear hr
  have HR' := Lib.hid hr'; clear hr'
  by_cases hnn : n = n'
  · subst hnn
    go_enter Try.func40, Try.ntmps40
    go_wp2
    go_loopw [5] (fun i wr => ∃ k : Nat, k ≤ n ∧ i = .int .i64 k ∧ (∃ m, wr = w.drewN m) ∧ bss.take k = bss'.take k) (fun i _ => n - (intOf i).toNat)
    case atStart => exact ⟨0, Nat.zero_le _, rfl, ⟨0, rfl⟩, rfl⟩
    case round =>
      obtain ⟨k, hk, rfl, hwm, htk⟩ := hrel
      have hrw : RR wr B A bss := by obtain ⟨m, hm⟩ := hwm; rw [hm]; exact HR.out
      have hrw' : RR wr B' A' bss' := by obtain ⟨m, hm⟩ := hwm; rw [hm]; exact HR'.out
      have HRW := Lib.hid hrw; clear hrw
      have HRW' := Lib.hid hrw'; clear hrw'
      have HWM := Lib.hid hwm; clear hwm
      have HT := Lib.hid htk; clear htk
      by_cases hlt : k < n
      · have hkb : k < bss.length := by rw [HL.out]; exact hlt
        have hkb' : k < bss'.length := by rw [HL'.out]; exact hlt
        obtain ⟨b, off, Ai, ci, rfl, hb, hc, h1, h2, hri⟩ := HRW.out.at_ hkb
        obtain ⟨b', off', Ai', ci', rfl, hb', hc', h1', h2', hri'⟩ := HRW'.out.at_ hkb'
        have HRI := Lib.hid hri; clear hri
        have HRI' := Lib.hid hri'; clear hri'
        obtain ⟨x, hx⟩ : ∃ x, bss[k] = x := ⟨_, rfl⟩
        obtain ⟨x', hx'⟩ : ∃ x, bss'[k] = x := ⟨_, rfl⟩
        have hri := HRI.out
        have hri' := HRI'.out
        rw [hx] at hc hri h1
        rw [hx'] at hc' hri'
        have RI := Lib.hid hri
        have RI' := Lib.hid hri'
        clear hri hri' HRI HRI'
        have HX := Lib.hid hx; clear hx
        have HX' := Lib.hid hx'; clear hx'
        have i0 : (0 : Int) ≤ (k : Int) := by omega
        have i1 : (k : Int) < (n : Int) := by omega
        go_wp2
        go_quiet ((go_at_call 20; exact Calls.quiet_of (same_any Ai Ai' x.length x'.length ci ci' _ _ x x' rfl rfl (by omega) _ (by exact RI.out) (by exact RI'.out))))
        by_cases he : x = x'
        · rw [decide_eq_true he]
          have HE := Lib.hid he; clear he
          go_wp2
          refine ⟨⟨k + 1, by omega, by go_num, by obtain ⟨m, hm⟩ := HWM.out; exact ⟨m + nq, by rw [hm]; simp⟩, ?_⟩, by simp [intOf]; omega⟩
          rw [List.take_add_one, List.take_add_one, HT.out, List.getElem?_eq_getElem hkb, List.getElem?_eq_getElem hkb', HX.out, HX'.out, HE.out]
        · rw [decide_eq_false he]
          have HE := Lib.hid he; clear he
          go_wp2
          go_ret
          refine ⟨?_, by obtain ⟨m, hm⟩ := HWM.out; exact ⟨m + nq, by rw [hm]; simp⟩⟩
          rw [decide_eq_false (fun h => HE.out (by rw [← HX.out, ← HX'.out]; subst h; rfl))]
          rfl
      · obtain rfl : k = n := by omega
        have heq : bss = bss' := by
          have := HT.out
          rwa [List.take_of_length_le (by rw [HL.out]; exact Nat.le_refl _), List.take_of_length_le (by rw [HL'.out]; exact Nat.le_refl _)] at this
        have HE := Lib.hid heq; clear heq
        go_wp2
        go_ret
        exact ⟨by rw [decide_eq_true HE.out]; rfl, HWM.out⟩
  · have hne : bss ≠ bss' := fun h => hnn (by rw [← HL.out, ← HL'.out, h])
    have HNE := Lib.hid hne; clear hne
    have i1 : ((n : Int) != (n' : Int)) = true := by rw [bne_iff_ne]; omega
    go_enter Try.func40, Try.ntmps40
    go_wp2
    go_ret
    exact ⟨by rw [decide_eq_false HNE.out]; rfl, 0, rfl⟩
end Go.Proofs.Ytmfkngijgellhaa
