/- Walks: slices.Index and slices.Contains on texts. -/
import Derived.Test.YtlpdihcgdgkkbaaRa
import Derived.Test.YtlpdihcgdgkkbaaBd
import Derived.Test.YtlpdihcgdgkkbaaTexts
namespace Go.Proofs.Ytlpdihcgdgkkbaa
open Go.RowKit Go.St
set_option linter.unusedVariables false
set_option linter.unusedSimpArgs false
set_option maxRecDepth 100000

def hasT (l : List ByteArray) (k : ByteArray) : Bool := l.any fun s => k.toList == s.toList
theorem hasT_hit {l : List ByteArray} {k : ByteArray} {j : Nat} (h : j < l.length) (e : k.toList = l[j].toList) : hasT l k = true := by
  unfold hasT
  rw [List.any_eq_true]
  exact ⟨l[j], List.getElem_mem h, by simpa using e⟩
theorem hasT_step {l : List ByteArray} {k : ByteArray} {j : Nat} (h : j < l.length) (h0 : hasT (l.take j) k = false) (e : ¬k.toList = l[j].toList) : hasT (l.take (j + 1)) k = false := by
  unfold hasT at *
  rw [take_snoc l j h, List.any_append, h0]
  simpa using e

set_option maxHeartbeats 400000 in
theorem index_any (A : Option Addr) (n c B : Nat) (l : List ByteArray) (hl : l.length = n) (hn : n ≤ 9223372036854775807) (k : ByteArray) (w : World) (hr : Rd w B A (sv l)) :
    Calls Try.prog 93 #[.slice A n c, .string k] w fun e w' => ∃ z : Int, e = .returned (.int .i64 z) ∧ decide (0 ≤ z) = hasT l k ∧ w = w' := by
  have HL := Lib.hid hl; clear hl
  have HR := Lib.hid hr; clear hr
  go_enter Try.func93, Try.ntmps93
  go_wp2_with fail
  go_loop [8] (fun i => ∃ j : Nat, j ≤ n ∧ i = .int .i64 j ∧ Hid (hasT (l.take j) k = false)) (fun i => n - (intOf i).toNat)
  case atStart => exact ⟨0, Nat.zero_le _, rfl, by unfold Hid hasT; simp⟩
  case round =>
    obtain ⟨j, hj, rfl, hU⟩ := hrel
    by_cases hlt : j < n
    · have hjl : j < l.length := by rw [HL.out]; exact hlt
      obtain ⟨b, off, rfl, hb, hcell⟩ := HR.out.at_ (sv_get l j hjl)
      by_cases he : k.toList = l[j].toList
      · have H1 := Lib.hid (hasT_hit hjl he)
        have e0 : (k.toList == l[j].toList) = true := by simpa using he
        clear he
        go_wp2
        go_ret
        exact ⟨_, rfl, by rw [H1.out]; exact decide_eq_true (by omega), rfl⟩
      · have H1 := Lib.hid (hasT_step hjl hU.out he)
        have e0 : (k.toList == l[j].toList) = false := by simpa using he
        clear he
        go_wp2
        exact ⟨⟨j + 1, by omega, by go_num, H1⟩, by simp [intOf]; omega⟩
    · obtain rfl : j = n := by omega
      have h1 := hU.out
      rw [List.take_of_length_le (by have := HL.out; omega)] at h1
      have H1 := Lib.hid h1; clear h1
      go_wp2
      go_ret
      exact ⟨_, rfl, by rw [H1.out]; rfl, rfl⟩

theorem contains_any (A : Option Addr) (n c B : Nat) (l : List ByteArray) (hl : l.length = n) (hn : n ≤ 9223372036854775807) (k : ByteArray) (w : World) (hr : Rd w B A (sv l)) :
    Calls Try.prog 78 #[.slice A n c, .string k] w fun e w' => e = .returned (.bool (hasT l k)) ∧ w = w' := by
  have H := Lib.hid (index_any A n c B l hl hn k w hr); clear hr hl
  go_enter Try.func78, Try.ntmps78
  go_wp2_with fail
  refine H.out.mono ?_
  rintro e w' ⟨z, rfl, hz, rfl⟩
  have HZ := Lib.hid hz; clear hz
  go_wp2
  go_ret
  exact ⟨ret_bool HZ.out, rfl⟩
end Go.Proofs.Ytlpdihcgdgkkbaa
