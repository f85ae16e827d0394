/- Walk: the document's memtable is made. -/
import Derived.Test.YtjhgbdeadkoegaaMc
namespace Go.Proofs.Ytjhgbdeadkoegaa
open Go.RowKit Go.St Go.Shelf Go.Maps
set_option linter.unusedVariables false
set_option linter.unusedSimpArgs false
set_option maxRecDepth 100000

set_option maxHeartbeats 1600000 in
theorem dnew_any (K : Option Addr) (k c B : Nat) (hs : List Int) (hl : hs.length = k) (hk : k ≤ 1000000) (w : World) (hr : Rd w B K (nv hs)) (hB : B ≤ w.heap.size) :
    Calls Try.prog 26 #[.slice K k c] w fun e w' => ((okH hs = false ∧ e = .returned (.tuple #[.pointer none, .int .i64 2])) ∨ (okH hs = true ∧ ∃ R, e = .returned (.tuple #[.pointer (some ⟨R, 0, none⟩), .int .i64 0]) ∧ Dt w' (fun g => w.heap.size ≤ g ∧ g < w'.heap.size) R hs [])) ∧ Below w.heap.size w w' := by
  have HL := Lib.hid hl
  have HR := Lib.hid hr
  clear hl hr
  go_enter Try.func26, Try.ntmps26
  go_wp2_with fail
  go_loopw [4] (fun s4 wr => ∃ i : Nat, s4 = .int .i64 (i : Int) ∧ i ≤ k ∧ Hid (∀ (j : Nat) (x : Int), j < i → hs[j]? = some x → 1 ≤ x ∧ x ≤ 12) ∧ wr = w) (fun s4 _ => k - (intOf s4).toNat)
  case atStart => exact ⟨0, rfl, Nat.zero_le _, Lib.hid (fun j x h => by omega), rfl⟩
  case round =>
    obtain ⟨i, rfl, hi, HA, rfl⟩ := hrel
    obtain ⟨w, rfl⟩ : ∃ x, x = wr := ⟨_, rfl⟩
    by_cases hlt : i < k
    · obtain ⟨x, hx⟩ : ∃ x, hs[i]? = some x := ⟨_, List.getElem?_eq_getElem (by rw [HL.out]; exact hlt)⟩
      obtain ⟨b, o, eA, hb, hc⟩ := HR.out.at_ (nv_get hx)
      subst eA
      have HX := Lib.hid hx
      have i1 : (i : Int) < (k : Int) := by omega
      have i0 : (0 : Int) ≤ (i : Int) := by omega
      have zb : b < w.heap.size := by omega
      clear hx
      by_cases h1 : x < 1
      · have HO := Lib.hid (okH_bad HX.out (by omega))
        have e1 : decide (x < 1) = true := decide_eq_true h1
        go_wp2_with fail
        go_ret2
        exact ⟨.inl ⟨HO.out, rfl⟩, Below.refl _ _⟩
      have e1 : decide (x < 1) = false := decide_eq_false h1
      by_cases h2 : 12 < x
      · have HO := Lib.hid (okH_bad HX.out (by omega))
        have e2 : decide (12 < x) = true := decide_eq_true h2
        go_wp2_with fail
        go_ret2
        exact ⟨.inl ⟨HO.out, rfl⟩, Below.refl _ _⟩
      have e2 : decide (12 < x) = false := decide_eq_false h2
      have HA9 : Hid (∀ (j : Nat) (x : Int), j < i + 1 → hs[j]? = some x → 1 ≤ x ∧ x ≤ 12) := Lib.hid (fun j y h3 h4 => by
        rcases Nat.lt_or_ge j i with h | h
        · exact HA.out j y h h4
        · have e : j = i := by omega
          subst e
          rw [HX.out] at h4
          injection h4 with h4
          omega)
      go_wp2_with fail
      go_roundw
      case rel => exact ⟨i + 1, by go_num, by omega, HA9, (by first | rfl | trivial)⟩
      case measure => simp [intOf]; omega
    · have i1 : ¬ (i : Int) < (k : Int) := by omega
      have HO : Hid (okH hs = true) := Lib.hid (okH_yes (fun j x hj => HA.out j x (by have := (List.getElem?_eq_some_iff.1 hj).1; have := HL.out; omega) hj))
      clear hlt HA
      go_wp2_with (at_builtin; refine wpList_app styI (.tmp 23) (.tmp 24) rfl rfl w.heap.size (World.ownsRow_lit w #[] 0 (Nat.le_refl _) (by decide) rfl) rfl k c (Rd.alloc HR.out hB _) rfl (by rw [nv_length, HL.out, Nat.mul_one]) (nv_one _) (by unfold maxLen; omega) (by omega) (by simp) ?_; intro v1 w1 own1 gr1 nil1 at1; obtain ⟨A', c', rfl, -, r1⟩ := own_sl own1)
      have B1 : Below w.heap.size w w1 := ((Below.refl _ _).alloc (Nat.le_refl _) _).grown gr1 (by simp) (fun g e => by simp [Value.ownBlock] at e; omega)
      have hal : Below w1.heap.size w1 (w1.alloc (.cells #[.bool true, .slice A' (0 + k) c', .slice none 0 0, .slice none 0 0] 59)) := (Below.refl _ _).alloc (Nat.le_refl _) _
      have X1 := BxV.new w1 #[.bool true, .slice A' (0 + k) c', .slice none 0 0, .slice none 0 0] 59
      have hown := fun g h => own1.lt g h
      have hk2 := HL.out
      rw [Nat.zero_add] at X1 hal hown
      have r2 : Rd (w1.alloc (.cells #[.bool true, .slice A' k c', .slice none 0 0, .slice none 0 0] 59)) (w1.alloc (.cells #[.bool true, .slice A' k c', .slice none 0 0, .slice none 0 0] 59)).heap.size A' (nv hs) := by
        have r3 : Rd w1 w1.heap.size A' (nv hs) := by simpa using r1
        exact (r3.below hal).more hal.size
      go_ret2
      refine ⟨.inr ⟨HO.out, w1.heap.size, by simp, A', c', none, 0, none, 0, by rw [hk2]; exact X1, r2, Rd.nil, Rd.nil, ⟨B1.size, X1.lt⟩, fun g o e => ?_, fun g o e => (by cases e), fun g o e => (by cases e), Nat.le_refl _, Nat.le_refl _, fun o e => (by have := (hown w1.heap.size (by rw [e]; rfl)).2; omega)⟩, B1.trans (hal.mono B1.size)⟩
      have h7 := hown g (by rw [e]; rfl)
      have h8 := hal.size
      exact ⟨h7.1, Nat.lt_of_lt_of_le h7.2 h8⟩
end Go.Proofs.Ytjhgbdeadkoegaa
