/- Plain law of numbers of a few bytes: written, read. -/
import Derived.Test.YtmcpjpkidcbgiaaBase
namespace Go.Proofs.Ytmcpjpkidcbgiaa
open Go.RowKit Go.St
set_option linter.unusedVariables false
set_option linter.unusedSimpArgs false

/-- A number's bytes. -/
def uv (x : Nat) : List UInt8 := if h : x < 128 then [UInt8.ofNat x] else UInt8.ofNat (x % 128 + 128) :: uv (x / 128)
termination_by x
decreasing_by omega
theorem uv_lt {x : Nat} (h : x < 128) : uv x = [UInt8.ofNat x] := by rw [uv, dif_pos h]
theorem uv_ge {x : Nat} (h : ¬ x < 128) : uv x = UInt8.ofNat (x % 128 + 128) :: uv (x / 128) := by rw [uv, dif_neg h]
/-- The number that bytes begin with, from a place on; how many bytes it has. -/
def rdN : Nat → List UInt8 → Option (Nat × Nat)
  | _, [] => none
  | n, c :: r => if 10 ≤ n then none else if (n = 9 ∧ 1 < c.toNat) ∨ (0 < n ∧ c.toNat = 0) then none else if c.toNat < 128 then some (c.toNat, 1) else (rdN (n + 1) r).map (fun p => (c.toNat % 128 + 128 * p.1, p.2 + 1))
def rdU (bs : List UInt8) : Option (Nat × Nat) := rdN 0 bs
def smU (bs : List UInt8) (most : Int) : Option (Nat × Nat) := (rdU bs).bind (fun p => if 0 ≤ most ∧ (p.1 : Int) ≤ most then some p else none)

theorem uv_pos (x : Nat) : 0 < (uv x).length := by
  by_cases h : x < 128
  · rw [uv_lt h]; simp
  · rw [uv_ge h]; simp
theorem uv_len : ∀ (k x : Nat), x < 128 ^ (k + 1) → (uv x).length ≤ k + 1
  | 0, x, h => by rw [uv_lt (by simpa using h)]; simp
  | k + 1, x, h => by
    by_cases h1 : x < 128
    · rw [uv_lt h1]; simp
    · rw [uv_ge h1, List.length_cons]
      have := uv_len k (x / 128) (by rw [Nat.div_lt_iff_lt_mul (by omega), ← Nat.pow_succ]; exact h)
      omega
theorem uv_len10 {x : Nat} (h : x < 18446744073709551616) : (uv x).length ≤ 10 := uv_len 9 x (by rw [show (128 : Nat) ^ (9 + 1) = 1180591620717411303424 by decide]; omega)
theorem rdN_sound : ∀ (bs : List UInt8) (n v k : Nat), rdN n bs = some (v, k) → bs.take k = uv v ∧ k ≤ bs.length ∧ (0 < n → 0 < v) ∧ n + k ≤ 10 ∧ v < 2 ^ (64 - 7 * n)
  | [], n, v, k, h => by simp [rdN] at h
  | c :: r, n, v, k, h => by
    rw [rdN] at h
    split at h
    · cases h
    rename_i h10
    split at h
    · cases h
    rename_i hc
    split at h
    · rename_i hlt
      injection h with h
      injection h with h1 h2
      subst h1 h2
      refine ⟨by rw [uv_lt hlt]; simp, by simp, fun hn => ?_, by omega, ?_⟩
      · rcases Nat.eq_zero_or_pos c.toNat with h0 | h0
        · exact absurd (.inr ⟨hn, h0⟩) hc
        · exact h0
      · by_cases h9 : n = 9
        · subst h9
          have : ¬ 1 < c.toNat := fun h => hc (.inl ⟨rfl, h⟩)
          show c.toNat < 2
          omega
        · have h8 : 2 ^ 8 ≤ 2 ^ (64 - 7 * n) := Nat.pow_le_pow_right (by omega) (by omega)
          omega
    · rename_i hge
      cases hr : rdN (n + 1) r with
      | none => rw [hr] at h; cases h
      | some p =>
        obtain ⟨v', k'⟩ := p
        rw [hr] at h
        simp only [Option.map_some, Option.some.injEq, Prod.mk.injEq] at h
        obtain ⟨h1, h2⟩ := h
        obtain ⟨i1, i2, i3, i4, i5⟩ := rdN_sound r (n + 1) v' k' hr
        have hp := i3 (by omega)
        have hcl := c.toNat_lt
        subst h1 h2
        refine ⟨?_, by simp only [List.length_cons]; omega, fun _ => by omega, by omega, ?_⟩
        · rw [uv_ge (by omega), List.take_succ_cons, i1]
          congr 1
          · apply UInt8.toNat_inj.1
            rw [UInt8.toNat_ofNat']
            omega
          · congr 1
            omega
        · have e : 64 - 7 * n = (64 - 7 * (n + 1)) + 7 := by omega
          rw [e, Nat.pow_add]
          omega
theorem rdN_uv (r : List UInt8) : ∀ (v n : Nat), n ≤ 9 → v < 2 ^ (64 - 7 * n) → (0 < n → 0 < v) → rdN n (uv v ++ r) = some (v, (uv v).length) := by
  intro v
  induction v using Nat.strongRecOn with
  | _ v ih =>
    intro n hn hv h0
    by_cases h : v < 128
    · rw [uv_lt h, List.cons_append, rdN, if_neg (by omega)]
      have e : (UInt8.ofNat v).toNat = v := by rw [UInt8.toNat_ofNat']; omega
      rw [e, if_neg, if_pos h]
      · simp
      · rintro (⟨h9, h1⟩ | ⟨h1, h2⟩)
        · subst h9
          have : v < 2 := hv
          omega
        · have := h0 h1
          omega
    · have e : (UInt8.ofNat (v % 128 + 128)).toNat = v % 128 + 128 := by rw [UInt8.toNat_ofNat']; omega
      have hn8 : n ≤ 8 := by
        rcases Nat.lt_or_ge n 9 with h1 | h1
        · omega
        · have : n = 9 := by omega
          subst this
          have : v < 2 := hv
          omega
      rw [uv_ge h, List.cons_append, rdN, if_neg (by omega), e, if_neg (show ¬ ((n = 9 ∧ 1 < v % 128 + 128) ∨ (0 < n ∧ v % 128 + 128 = 0)) by omega), if_neg (show ¬ (v % 128 + 128 < 128) by omega)]
      rw [ih (v / 128) (by omega) (n + 1) (by omega) ?_ (by omega)]
      · simp only [Option.map_some, List.length_cons, Option.some.injEq, Prod.mk.injEq]
        exact ⟨by clear e hv ih h0 hn hn8 h; omega, trivial⟩
      · have e2 : 64 - 7 * n = (64 - 7 * (n + 1)) + 7 := by omega
        rw [e2, Nat.pow_add] at hv
        rw [Nat.div_lt_iff_lt_mul (by omega)]
        exact hv
theorem rdU_uv {v : Nat} (h : v < 18446744073709551616) (r : List UInt8) : rdU (uv v ++ r) = some (v, (uv v).length) := rdN_uv r v 0 (by omega) (by simpa using h) (by omega)
theorem rdU_sound {bs : List UInt8} {v k : Nat} (h : rdU bs = some (v, k)) : bs.take k = uv v ∧ k ≤ bs.length ∧ k ≤ 10 ∧ v < 18446744073709551616 := by
  obtain ⟨h1, h2, -, h4, h5⟩ := rdN_sound bs 0 v k h
  exact ⟨h1, h2, by omega, by simpa using h5⟩
theorem rdU_len {bs : List UInt8} {v k : Nat} (h : rdU bs = some (v, k)) : k = (uv v).length := by
  obtain ⟨h1, h2, -, -⟩ := rdU_sound h
  rw [← h1, List.length_take]
  omega
theorem rdU_take {bs : List UInt8} {v k : Nat} (h : bs.take k = uv v) (hk : k ≤ bs.length) (hv : v < 18446744073709551616) : rdU bs = some (v, k) := by
  have e : bs = uv v ++ bs.drop k := by rw [← h, List.take_append_drop]
  have hl : (uv v).length = k := by rw [← h, List.length_take]; omega
  rw [e, rdU_uv hv, hl]
theorem smU_sound {bs : List UInt8} {most : Int} {v k : Nat} (h : smU bs most = some (v, k)) : rdU bs = some (v, k) ∧ 0 ≤ most ∧ (v : Int) ≤ most := by
  unfold smU at h
  cases hr : rdU bs with
  | none => rw [hr] at h; cases h
  | some p =>
    rw [hr, Option.bind_some] at h
    split at h
    · rename_i hm
      injection h with h
      subst h
      exact ⟨rfl, hm⟩
    · cases h
theorem smU_uv {v : Nat} (h : v < 18446744073709551616) {most : Int} (hm : (v : Int) ≤ most) (r : List UInt8) : smU (uv v ++ r) most = some (v, (uv v).length) := by
  unfold smU
  rw [rdU_uv h, Option.bind_some, if_pos ⟨by omega, hm⟩]

/-- What bytes say as a number. -/
def vlU : List UInt8 → Nat
  | [] => 0
  | c :: r => c.toNat % 128 + 128 * vlU r
theorem vlU_uv (x : Nat) : vlU (uv x) = x := by
  induction x using Nat.strongRecOn with
  | _ x ih =>
    by_cases h : x < 128
    · rw [uv_lt h]
      simp only [vlU, UInt8.toNat_ofNat']
      omega
    · rw [uv_ge h, vlU, ih _ (by omega), UInt8.toNat_ofNat']
      omega
/-- The document's way: the first so many bytes that are the bytes of what they say. -/
def rdT (bs : List UInt8) (n : Nat) : Bool := decide (uv (vlU (bs.take n) % 18446744073709551616) = bs.take n)
theorem rdT_yes {bs : List UInt8} {n : Nat} (hn : n ≤ bs.length) (h : rdT bs n = true) : rdU bs = some (vlU (bs.take n) % 18446744073709551616, n) :=
  rdU_take (of_decide_eq_true h).symm hn (Nat.mod_lt _ (by decide))
theorem rdT_none {bs : List UInt8} (h : ∀ n, 1 ≤ n → n ≤ bs.length → n ≤ 10 → rdT bs n = false) : rdU bs = none := by
  cases hr : rdU bs with
  | none => rfl
  | some p =>
    obtain ⟨v, k⟩ := p
    obtain ⟨h1, h2, h3, h4⟩ := rdU_sound hr
    have hk : 1 ≤ k := by rw [rdU_len hr]; exact uv_pos v
    have := h k hk h2 h3
    unfold rdT at this
    rw [h1, vlU_uv, Nat.mod_eq_of_lt h4] at this
    simp at this
end Go.Proofs.Ytmcpjpkidcbgiaa
