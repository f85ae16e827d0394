/- Plain law: a burst within one frame is found. -/
import Derived.Test.YtmfkngijgellhaaO
namespace Go.Proofs.Ytmfkngijgellhaa
set_option linter.unusedVariables false

theorem turnBit_app (x y : List UInt8) (p : Nat) : CrcM.turnBit (x ++ y) p = if p < 8 * x.length then CrcM.turnBit x p ++ y else x ++ CrcM.turnBit y (p - 8 * x.length) := by
  unfold CrcM.turnBit
  apply List.ext_getElem?
  intro j
  split
  · rename_i h
    rw [List.getElem?_modify]
    rcases Nat.lt_or_ge j x.length with hj | hj
    · rw [List.getElem?_append_left hj, List.getElem?_append_left (by simpa using hj), List.getElem?_modify]
    · rw [List.getElem?_append_right hj, List.getElem?_append_right (by simpa using hj), List.length_modify]
      have : ¬ p / 8 = j := by omega
      simp [this]
  · rename_i h
    rw [List.getElem?_modify, show p % 8 = (p - 8 * x.length) % 8 by omega]
    rcases Nat.lt_or_ge j x.length with hj | hj
    · rw [List.getElem?_append_left hj, List.getElem?_append_left hj]
      have : ¬ p / 8 = j := by omega
      simp [this]
    · rw [List.getElem?_append_right hj, List.getElem?_append_right hj, List.getElem?_modify]
      by_cases he : p / 8 = j
      · have : (p - 8 * x.length) / 8 = j - x.length := by omega
        simp [he, this]
      · have : ¬ (p - 8 * x.length) / 8 = j - x.length := by omega
        simp [he, this]
/-- A burst ahead of the border. -/
theorem turnTo_left (x y : List UInt8) (a t : Nat) : ∀ k, a + k ≤ 8 * x.length → CrcM.turnTo (x ++ y) a t k = CrcM.turnTo x a t k ++ y := by
  intro k
  induction k with
  | zero => intro _; rfl
  | succ k ih =>
    intro h
    unfold CrcM.turnTo
    rw [ih (by omega)]
    split
    · rw [turnBit_app, if_pos (by rw [CrcM.turnTo_length]; omega)]
    · rfl
/-- A burst behind the border. -/
theorem turnTo_right (x y : List UInt8) (a t : Nat) (h : 8 * x.length ≤ a) : ∀ k, CrcM.turnTo (x ++ y) a t k = x ++ CrcM.turnTo y (a - 8 * x.length) t k := by
  intro k
  induction k with
  | zero => rfl
  | succ k ih =>
    unfold CrcM.turnTo
    rw [ih]
    split
    · rw [turnBit_app, if_neg (by omega), show a + k - 8 * x.length = a - 8 * x.length + k by omega]
    · rfl
/-- A burst over the border. -/
theorem turnTo_over (x y : List UInt8) (a t s : Nat) (h : a + s = 8 * x.length) : ∀ k, CrcM.turnTo (x ++ y) a t (s + k) = CrcM.turnTo x a t s ++ CrcM.turnTo y 0 (t / 2 ^ s) k := by
  intro k
  induction k with
  | zero => rw [Nat.add_zero, turnTo_left x y a t s (by omega)]; rfl
  | succ k ih =>
    rw [← Nat.add_assoc, CrcM.turnTo, CrcM.turnTo, ih, Nat.testBit_div_two_pow, Nat.add_comm k s]
    split
    · rw [turnBit_app, if_neg (by rw [CrcM.turnTo_length]; omega), CrcM.turnTo_length, show a + (s + k) - 8 * x.length = 0 + k by omega]
    · rfl
theorem turnTo_mod (x : List UInt8) (a t s : Nat) : ∀ k, k ≤ s → CrcM.turnTo x a t k = CrcM.turnTo x a (t % 2 ^ s) k := by
  intro k
  induction k with
  | zero => intro _; rfl
  | succ k ih =>
    intro h
    unfold CrcM.turnTo
    rw [ih (by omega), Nat.testBit_mod_two_pow, decide_eq_true (by omega), Bool.true_and]
theorem turnTo_none (x : List UInt8) (a : Nat) : ∀ k, CrcM.turnTo x a 0 k = x := by
  intro k
  induction k with
  | zero => rfl
  | succ k ih =>
    unfold CrcM.turnTo
    rw [ih, Nat.zero_testBit]
    simp

theorem of4_le32 (n : Nat) (hn : n < 4294967296) (tl : List UInt8) : of4 (CrcM.le32 n ++ tl) = n := by
  simp only [CrcM.le32, List.cons_append, of4, CrcM.toNat_ofNat]
  omega

/-- Sealed bytes with a burst in them are no sealed ones. -/
theorem notOpen_burst (l : List UInt8) (a t k : Nat) (hk : a + k ≤ 8 * (l.length + 4)) (hb : t < 2 ^ k) (hb2 : t < 4294967296) (h0 : t ≠ 0) : isOpen (CrcM.turnTo (CrcM.sealed l) a t k) = false := by
  have h := CrcM.altered_burst l a t k hk hb hb2 h0
  unfold isOpen
  rw [CrcM.turnTo_length, CrcM.sealed_length, Nat.add_sub_cancel, decide_eq_false (p := CrcM.sealed _ = _) h, Bool.and_false]
theorem isOpen_sealed (l : List UInt8) : isOpen (CrcM.sealed l) = true := by
  unfold isOpen
  have e : (CrcM.sealed l).take ((CrcM.sealed l).length - 4) = l := by rw [CrcM.sealed_length, Nat.add_sub_cancel, CrcM.sealed, List.take_left']; rfl
  rw [e, CrcM.sealed_length]
  simp
theorem openL_sealed (l : List UInt8) : openL (CrcM.sealed l) = l := by
  unfold openL
  rw [if_pos (isOpen_sealed l), CrcM.sealed_length, Nat.add_sub_cancel, CrcM.sealed, List.take_left']
  rfl

/-- Reading a head that is good, and a body. -/
theorem readE_head (n : Nat) (hn : n ≤ 1048576) (y behind : List UInt8) (hy : y.length = n + 4) :
    rdSize (CrcM.sealed (CrcM.le32 n) ++ y ++ behind) = n ∧ bodyOf (CrcM.sealed (CrcM.le32 n) ++ y ++ behind) = y ∧ readE (CrcM.sealed (CrcM.le32 n) ++ y ++ behind) = if isOpen y = false then 6 else 0 := by
  have h8 : (CrcM.sealed (CrcM.le32 n)).length = 8 := rfl
  have hs : rdSize (CrcM.sealed (CrcM.le32 n) ++ y ++ behind) = n := by
    unfold rdSize CrcM.sealed
    rw [List.append_assoc, List.append_assoc]
    exact of4_le32 n (by omega) _
  have hb : bodyOf (CrcM.sealed (CrcM.le32 n) ++ y ++ behind) = y := by
    unfold bodyOf
    rw [hs, List.append_assoc, List.drop_left' h8, List.take_left' hy]
  refine ⟨hs, hb, ?_⟩
  have ht : (CrcM.sealed (CrcM.le32 n) ++ y ++ behind).take 8 = CrcM.sealed (CrcM.le32 n) := by rw [List.append_assoc, List.take_left' h8]
  have hl : (CrcM.sealed (CrcM.le32 n) ++ y ++ behind).length = n + 12 + behind.length := by rw [List.length_append, List.length_append, h8, hy]; omega
  unfold readE
  rw [ht, hs, hb, hl, isOpen_sealed, if_neg (by omega), if_neg (by simp), if_neg (by omega), if_neg (by omega)]

theorem readE_frame (r behind : List UInt8) (hr : r.length ≤ 1048576) : readE (frameL r ++ behind) = 0 ∧ readN (frameL r ++ behind) = r.length + 12 ∧ readL (frameL r ++ behind) = r := by
  have h := readE_head r.length hr (CrcM.sealed r) behind (CrcM.sealed_length r)
  have e : CrcM.sealed (CrcM.le32 r.length) ++ CrcM.sealed r ++ behind = frameL r ++ behind := rfl
  rw [e] at h
  obtain ⟨h1, h2, h3⟩ := h
  rw [isOpen_sealed] at h3
  have h3 : readE (frameL r ++ behind) = 0 := h3
  refine ⟨h3, ?_, ?_⟩
  · rw [readN, if_pos h3, h1]
  · rw [readL, if_pos h3, h2, openL_sealed]

/-- The theorem of the stage. -/
theorem burst_found (r behind : List UInt8) (hr : r.length ≤ 1048576) (a t k : Nat) (hk : a + k ≤ 8 * (r.length + 12)) (hb : t < 2 ^ k) (hb2 : t < 4294967296) (h0 : t ≠ 0) : readE (CrcM.turnTo (frameL r) a t k ++ behind) = 6 := by
  have h8 : (CrcM.sealed (CrcM.le32 r.length)).length = 8 := rfl
  have headBad : ∀ (x y : List UInt8), x.length = 8 → 4 ≤ y.length → isOpen x = false → readE (x ++ y ++ behind) = 6 := fun x y hx hy ho => by
    unfold readE
    rw [List.append_assoc, List.take_left' hx, ho, if_neg (by rw [List.length_append, hx]; omega), if_pos rfl]
  have bodyBad : ∀ y : List UInt8, y.length = r.length + 4 → isOpen y = false → readE (CrcM.sealed (CrcM.le32 r.length) ++ y ++ behind) = 6 := fun y hy ho => by
    rw [(readE_head r.length hr y behind hy).2.2, if_pos ho]
  unfold frameL
  by_cases hright : 64 ≤ a
  · rw [turnTo_right _ _ a t (by rw [h8]; omega), h8]
    exact bodyBad _ (by rw [CrcM.turnTo_length, CrcM.sealed_length]) (notOpen_burst r (a - 64) t k (by omega) hb hb2 h0)
  · by_cases hleft : a + k ≤ 64
    · rw [turnTo_left _ _ a t k (by rw [h8]; omega)]
      exact headBad _ _ (by rw [CrcM.turnTo_length, h8]) (by rw [CrcM.sealed_length]; omega) (notOpen_burst _ a t k (by rw [CrcM.le32_length]; omega) hb hb2 h0)
    · obtain ⟨s, hs⟩ : ∃ s, a + s = 64 := ⟨64 - a, by omega⟩
      obtain ⟨j, rfl⟩ : ∃ j, k = s + j := ⟨k - s, by omega⟩
      rw [turnTo_over _ _ a t s (by rw [h8]; omega) j]
      by_cases hz : t % 2 ^ s = 0
      · have e1 : CrcM.turnTo (CrcM.sealed (CrcM.le32 r.length)) a t s = CrcM.sealed (CrcM.le32 r.length) := by
          rw [turnTo_mod _ a t s s (Nat.le_refl _), hz, turnTo_none]
        rw [e1]
        have hq : t / 2 ^ s ≠ 0 := fun h => by
          have := Nat.div_add_mod t (2 ^ s)
          rw [h, hz] at this
          omega
        have hql : t / 2 ^ s < 2 ^ j := by
          rw [Nat.div_lt_iff_lt_mul (Nat.two_pow_pos s), ← Nat.pow_add, Nat.add_comm]
          exact hb
        exact bodyBad _ (by rw [CrcM.turnTo_length, CrcM.sealed_length]) (notOpen_burst r 0 _ j (by omega) hql (Nat.lt_of_le_of_lt (Nat.div_le_self _ _) hb2) hq)
      · rw [turnTo_mod _ a t s s (Nat.le_refl _)]
        exact headBad _ _ (by rw [CrcM.turnTo_length, h8]) (by rw [CrcM.turnTo_length, CrcM.sealed_length]; omega)
          (notOpen_burst _ a _ s (by rw [CrcM.le32_length]; omega) (Nat.mod_lt _ (Nat.two_pow_pos s)) (Nat.lt_of_le_of_lt (Nat.mod_le _ _) hb2) hz)
end Go.Proofs.Ytmfkngijgellhaa
