/- Walks: slices.Index and slices.Contains on texts, numbers and bools. -/
import Derived.Test.YthigmjcepbgljaaVe2
namespace Go.Proofs.Ythigmjcepbgljaa
open Go.RowKit Go.St
set_option linter.unusedVariables false
set_option linter.unusedSimpArgs false
set_option maxRecDepth 100000

def tyIs (k s : ByteArray) : Bool := k.toList == s.toList
def nmIs (k s : Int) : Bool := k == s
def blIs (k s : Bool) : Bool := k == s
def nv (l : List Int) : List Value := l.map (Value.int .i64)
theorem nv_get (l : List Int) (i : Nat) (h : i < l.length) : (nv l)[i]? = some (.int .i64 l[i]) := by simp [nv, h]
theorem nv_length (l : List Int) : (nv l).length = l.length := by simp [nv]
def lv (l : List Bool) : List Value := l.map Value.bool
theorem lv_get (l : List Bool) (i : Nat) (h : i < l.length) : (lv l)[i]? = some (.bool l[i]) := by simp [lv, h]
theorem lv_length (l : List Bool) : (lv l).length = l.length := by simp [lv]
/-- Where it first stands, if it does. -/
def fstI {α : Type} (p : α → Bool) (l : List α) : Int := if l.any p then (l.findIdx p : Int) else -1
theorem fst_hit {α : Type} {p : α → Bool} {l : List α} {j : Nat} (h : j < l.length) (h0 : (l.take j).any p = false) (e : p l[j] = true) : fstI p l = j := by
  have h1 : l.any p = true := List.any_eq_true.2 ⟨l[j], List.getElem_mem h, e⟩
  unfold fstI
  rw [if_pos h1]
  have : l.findIdx p = j := by
    rw [List.findIdx_eq h]
    refine ⟨e, fun k hk => ?_⟩
    have := List.any_eq_false.1 h0 l[k] (by rw [List.mem_take_iff_getElem]; exact ⟨k, by omega, rfl⟩)
    simpa using this
  rw [this]
theorem fst_no {α : Type} {p : α → Bool} {l : List α} (h : l.any p = false) : fstI p l = -1 := by unfold fstI; rw [h]; rfl
theorem any_step {α : Type} {p : α → Bool} {l : List α} {j : Nat} (h : j < l.length) (h0 : (l.take j).any p = false) (e : p l[j] = false) : (l.take (j + 1)).any p = false := by
  rw [take_snoc l j h, List.any_append, h0]
  simpa using e
theorem fst_nonneg {α : Type} (p : α → Bool) (l : List α) : decide (0 ≤ fstI p l) = l.any p := by
  unfold fstI
  cases h : l.any p
  · rfl
  · exact decide_eq_true (by simp)
set_option maxHeartbeats 400000 in
theorem tindex_any (A : Option Addr) (n c B : Nat) (l : List ByteArray) (hl : l.length = n) (hn : n ≤ 9223372036854775807) (k : ByteArray) (w : World) (hr : Rd w B A (sv l)) :
    Calls Try.prog 59 #[.slice A n c, .string k] w fun e w' => e = .returned (.int .i64 (fstI (tyIs k) l)) ∧ w = w' := by
  have HL := Lib.hid hl; clear hl
  have HR := Lib.hid hr; clear hr
  go_enter Try.func59, Try.ntmps59
  go_wp2_with fail
  go_loop [8] (fun i => ∃ j : Nat, j ≤ n ∧ i = .int .i64 j ∧ Hid ((l.take j).any (tyIs k) = false)) (fun i => n - (intOf i).toNat)
  case atStart => exact ⟨0, Nat.zero_le _, rfl, by unfold Hid; simp⟩
  case round =>
    obtain ⟨j, hj, rfl, hU⟩ := hrel
    by_cases hlt : j < n
    · have hjl : j < l.length := by rw [HL.out]; exact hlt
      obtain ⟨b, off, rfl, hb, hcell⟩ := HR.out.at_ (sv_get l j hjl)
      cases he : tyIs k l[j]
      · have H1 := Lib.hid (any_step hjl hU.out he)
        unfold tyIs at he
        go_wp2
        exact ⟨⟨j + 1, by omega, by go_num, H1⟩, by simp [intOf]; omega⟩
      · have H1 := Lib.hid (fst_hit hjl hU.out he)
        unfold tyIs at he
        go_wp2
        go_ret
        exact ⟨ret_int H1.out.symm, rfl⟩
    · obtain rfl : j = n := by omega
      have h1 := hU.out
      rw [List.take_of_length_le (by have := HL.out; omega)] at h1
      have H1 := Lib.hid (fst_no h1); clear h1
      go_wp2
      go_ret
      exact ⟨ret_int H1.out.symm, rfl⟩
set_option maxHeartbeats 400000 in
theorem nindex_any (A : Option Addr) (n c B : Nat) (l : List Int) (hl : l.length = n) (hn : n ≤ 9223372036854775807) (k : Int) (w : World) (hr : Rd w B A (nv l)) :
    Calls Try.prog 82 #[.slice A n c, .int .i64 k] w fun e w' => e = .returned (.int .i64 (fstI (nmIs k) l)) ∧ w = w' := by
  have HL := Lib.hid hl; clear hl
  have HR := Lib.hid hr; clear hr
  go_enter Try.func82, Try.ntmps82
  go_wp2_with fail
  go_loop [8] (fun i => ∃ j : Nat, j ≤ n ∧ i = .int .i64 j ∧ Hid ((l.take j).any (nmIs k) = false)) (fun i => n - (intOf i).toNat)
  case atStart => exact ⟨0, Nat.zero_le _, rfl, by unfold Hid; simp⟩
  case round =>
    obtain ⟨j, hj, rfl, hU⟩ := hrel
    by_cases hlt : j < n
    · have hjl : j < l.length := by rw [HL.out]; exact hlt
      obtain ⟨b, off, rfl, hb, hcell⟩ := HR.out.at_ (nv_get l j hjl)
      cases he : nmIs k l[j]
      · have H1 := Lib.hid (any_step hjl hU.out he)
        unfold nmIs at he
        go_wp2
        exact ⟨⟨j + 1, by omega, by go_num, H1⟩, by simp [intOf]; omega⟩
      · have H1 := Lib.hid (fst_hit hjl hU.out he)
        unfold nmIs at he
        go_wp2
        go_ret
        exact ⟨ret_int H1.out.symm, rfl⟩
    · obtain rfl : j = n := by omega
      have h1 := hU.out
      rw [List.take_of_length_le (by have := HL.out; omega)] at h1
      have H1 := Lib.hid (fst_no h1); clear h1
      go_wp2
      go_ret
      exact ⟨ret_int H1.out.symm, rfl⟩
set_option maxHeartbeats 400000 in
theorem bindex_any (A : Option Addr) (n c B : Nat) (l : List Bool) (hl : l.length = n) (hn : n ≤ 9223372036854775807) (k : Bool) (w : World) (hr : Rd w B A (lv l)) :
    Calls Try.prog 84 #[.slice A n c, .bool k] w fun e w' => e = .returned (.int .i64 (fstI (blIs k) l)) ∧ w = w' := by
  have HL := Lib.hid hl; clear hl
  have HR := Lib.hid hr; clear hr
  go_enter Try.func84, Try.ntmps84
  go_wp2_with fail
  go_loop [8] (fun i => ∃ j : Nat, j ≤ n ∧ i = .int .i64 j ∧ Hid ((l.take j).any (blIs k) = false)) (fun i => n - (intOf i).toNat)
  case atStart => exact ⟨0, Nat.zero_le _, rfl, by unfold Hid; simp⟩
  case round =>
    obtain ⟨j, hj, rfl, hU⟩ := hrel
    by_cases hlt : j < n
    · have hjl : j < l.length := by rw [HL.out]; exact hlt
      obtain ⟨b, off, rfl, hb, hcell⟩ := HR.out.at_ (lv_get l j hjl)
      cases he : blIs k l[j]
      · have H1 := Lib.hid (any_step hjl hU.out he)
        unfold blIs at he
        go_wp2
        exact ⟨⟨j + 1, by omega, by go_num, H1⟩, by simp [intOf]; omega⟩
      · have H1 := Lib.hid (fst_hit hjl hU.out he)
        unfold blIs at he
        go_wp2
        go_ret
        exact ⟨ret_int H1.out.symm, rfl⟩
    · obtain rfl : j = n := by omega
      have h1 := hU.out
      rw [List.take_of_length_le (by have := HL.out; omega)] at h1
      have H1 := Lib.hid (fst_no h1); clear h1
      go_wp2
      go_ret
      exact ⟨ret_int H1.out.symm, rfl⟩
theorem tcontains_any (A : Option Addr) (n c B : Nat) (l : List ByteArray) (hl : l.length = n) (hn : n ≤ 9223372036854775807) (k : ByteArray) (w : World) (hr : Rd w B A (sv l)) :
    Calls Try.prog 58 #[.slice A n c, .string k] w fun e w' => e = .returned (.bool (l.any (tyIs k))) ∧ w = w' := by
  have H := Lib.hid (tindex_any A n c B l hl hn k w hr); clear hr hl
  have HN := Lib.hid (fst_nonneg (tyIs k) l)
  generalize fstI (tyIs k) l = z at *
  go_enter Try.func58, Try.ntmps58
  go_wp2_with fail
  refine H.out.mono ?_
  rintro e w' ⟨rfl, rfl⟩
  go_wp2
  go_ret
  exact ⟨ret_bool HN.out, rfl⟩
theorem ncontains_any (A : Option Addr) (n c B : Nat) (l : List Int) (hl : l.length = n) (hn : n ≤ 9223372036854775807) (k : Int) (w : World) (hr : Rd w B A (nv l)) :
    Calls Try.prog 57 #[.slice A n c, .int .i64 k] w fun e w' => e = .returned (.bool (l.any (nmIs k))) ∧ w = w' := by
  have H := Lib.hid (nindex_any A n c B l hl hn k w hr); clear hr hl
  have HN := Lib.hid (fst_nonneg (nmIs k) l)
  generalize fstI (nmIs k) l = z at *
  go_enter Try.func57, Try.ntmps57
  go_wp2_with fail
  refine H.out.mono ?_
  rintro e w' ⟨rfl, rfl⟩
  go_wp2
  go_ret
  exact ⟨ret_bool HN.out, rfl⟩
theorem bcontains_any (A : Option Addr) (n c B : Nat) (l : List Bool) (hl : l.length = n) (hn : n ≤ 9223372036854775807) (k : Bool) (w : World) (hr : Rd w B A (lv l)) :
    Calls Try.prog 62 #[.slice A n c, .bool k] w fun e w' => e = .returned (.bool (l.any (blIs k))) ∧ w = w' := by
  have H := Lib.hid (bindex_any A n c B l hl hn k w hr); clear hr hl
  have HN := Lib.hid (fst_nonneg (blIs k) l)
  generalize fstI (blIs k) l = z at *
  go_enter Try.func62, Try.ntmps62
  go_wp2_with fail
  refine H.out.mono ?_
  rintro e w' ⟨rfl, rfl⟩
  go_wp2
  go_ret
  exact ⟨ret_bool HN.out, rfl⟩
end Go.Proofs.Ythigmjcepbgljaa
