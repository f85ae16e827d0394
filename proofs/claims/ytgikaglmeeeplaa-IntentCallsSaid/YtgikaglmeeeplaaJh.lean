/- Walks: whether a record's keys hold a key, the program's and the document's. -/
import Derived.Test.YtgikaglmeeeplaaPd
namespace Go.Proofs.Ytgikaglmeeeplaa
open Go.RowKit Go.St
set_option linter.unusedVariables false
set_option linter.unusedSimpArgs false
set_option maxRecDepth 100000

/-- Is the key among the first i of the list? -/
def inU (l : List ByteArray) (k : ByteArray) (i : Nat) : Bool := (l.take i).any (fun y => y.toList == k.toList)
def inK (l : List ByteArray) (k : ByteArray) : Bool := inU l k l.length
theorem inU_yes {l : List ByteArray} {k : ByteArray} {j n : Nat} (h : j < n) (hj : j < l.length) (e : (l[j].toList == k.toList) = true) : inU l k n = true := by
  unfold inU
  rw [List.any_eq_true]
  exact ⟨l[j], List.mem_take_iff_getElem.2 ⟨j, by omega, rfl⟩, e⟩
theorem inU_succ {l : List ByteArray} {k : ByteArray} {j : Nat} (h : inU l k j = false) (hj : j < l.length) (e : (l[j].toList == k.toList) = false) : inU l k (j + 1) = false := by
  unfold inU at *
  rw [List.take_succ_eq_append_getElem hj, List.any_append, h, List.any_cons, e]
  rfl

set_option maxHeartbeats 1600000 in
theorem has_any (A : Option Addr) (n c B : Nat) (l : List ByteArray) (k : ByteArray) (hl : l.length = n) (hn : n ≤ 140737488351232) (w : World) (hr : Rd w B A (sv l)) :
    Calls Try.prog 51 #[.slice A n c, .string k] w fun e w' => e = .returned (.bool (inK l k)) ∧ Below w.heap.size w w' := by
  have HL := Lib.hid hl; have HR := Lib.hid hr; clear hl hr
  have HB : inK l k = inU l k n := by unfold inK; rw [HL.out]
  rw [HB]
  clear HB
  obtain ⟨Q, hQ⟩ : ∃ Q, Q = inU l k n := ⟨_, rfl⟩
  rw [← hQ]
  have HQ := Lib.hid hQ; clear hQ
  go_enter Try.func51, Try.ntmps51
  go_wp2_with fail
  go_loopw [9] (fun i wr => ∃ j : Nat, j ≤ n ∧ i = .int .i64 j ∧ wr = w ∧ Hid (inU l k j = false)) (fun i _ => n - (intOf i).toNat)
  case atStart => exact ⟨0, Nat.zero_le _, rfl, rfl, rfl⟩
  case round =>
    obtain ⟨j, hj, rfl, rfl, hU⟩ := hrel
    by_cases hlt : j < n
    · have hjl : j < l.length := by rw [HL.out]; exact hlt
      obtain ⟨b, off, rfl, hb, hcell⟩ := HR.out.at_ (sv_get l j hjl)
      have i1 : (j : Int) < (n : Int) := by omega
      cases he : (l[j].toList == k.toList)
      · have HS := Lib.hid (inU_succ hU.out hjl he)
        clear hU
        go_wp2_with fail
        go_roundw
        case rel => exact ⟨j + 1, by omega, by go_num, by simp, HS⟩
        case measure => simp [intOf]; omega
      · have hz : Q = true := by rw [HQ.out]; exact inU_yes hlt hjl he
        subst hz
        go_wp2_with fail
        go_ret
        exact ⟨by simp, Below.refl _ _⟩
    · have i1 : ¬ (j : Int) < (n : Int) := by omega
      have ej : j = n := by omega
      have hz : Q = false := by rw [HQ.out, ← ej]; exact hU.out
      subst hz
      clear ej
      go_wp2_with fail
      go_ret
      exact ⟨by simp, Below.refl _ _⟩
set_option maxHeartbeats 1600000 in
theorem rhas_any (A : Option Addr) (n c B : Nat) (l : List ByteArray) (k : ByteArray) (hl : l.length = n) (hn : n ≤ 140737488351232) (w : World) (hr : Rd w B A (sv l)) :
    Calls Try.prog 53 #[.slice A n c, .string k] w fun e w' => e = .returned (.bool (inK l k)) ∧ Below w.heap.size w w' := by
  have HL := Lib.hid hl; have HR := Lib.hid hr; clear hl hr
  have HB : inK l k = inU l k n := by unfold inK; rw [HL.out]
  rw [HB]
  clear HB
  obtain ⟨Q, hQ⟩ : ∃ Q, Q = inU l k n := ⟨_, rfl⟩
  rw [← hQ]
  have HQ := Lib.hid hQ; clear hQ
  go_enter Try.func53, Try.ntmps53
  go_wp2_with fail
  go_loopw [5] (fun i wr => ∃ j : Nat, j ≤ n ∧ i = .int .i64 j ∧ wr = w ∧ Hid (inU l k j = false)) (fun i _ => n - (intOf i).toNat)
  case atStart => exact ⟨0, Nat.zero_le _, rfl, rfl, rfl⟩
  case round =>
    obtain ⟨j, hj, rfl, rfl, hU⟩ := hrel
    by_cases hlt : j < n
    · have hjl : j < l.length := by rw [HL.out]; exact hlt
      obtain ⟨b, off, rfl, hb, hcell⟩ := HR.out.at_ (sv_get l j hjl)
      have i1 : (j : Int) < (n : Int) := by omega
      cases he : (l[j].toList == k.toList)
      · have HS := Lib.hid (inU_succ hU.out hjl he)
        clear hU
        go_wp2_with fail
        go_roundw
        case rel => exact ⟨j + 1, by omega, by go_num, by simp, HS⟩
        case measure => simp [intOf]; omega
      · have hz : Q = true := by rw [HQ.out]; exact inU_yes hlt hjl he
        subst hz
        go_wp2_with fail
        go_ret
        exact ⟨by simp, Below.refl _ _⟩
    · have i1 : ¬ (j : Int) < (n : Int) := by omega
      have ej : j = n := by omega
      have hz : Q = false := by rw [HQ.out, ← ej]; exact hU.out
      subst hz
      clear ej
      go_wp2_with fail
      go_ret
      exact ⟨by simp, Below.refl _ _⟩
end Go.Proofs.Ytgikaglmeeeplaa
