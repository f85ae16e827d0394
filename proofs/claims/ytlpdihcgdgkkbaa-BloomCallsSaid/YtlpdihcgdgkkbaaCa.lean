/- One contract each for making a filter and for two together. -/
import Derived.Test.YtlpdihcgdgkkbaaBo2
import Derived.Test.YtlpdihcgdgkkbaaRof
import Derived.Test.YtlpdihcgdgkkbaaBl
import Derived.Test.YtlpdihcgdgkkbaaBf
namespace Go.Proofs.Ytlpdihcgdgkkbaa
open Go.RowKit Go.St
set_option linter.unusedVariables false
set_option maxRecDepth 100000

def ofE (bits : Int) : Int := if bits < 1 ∨ 16 < bits then 2 else 0
def ofF (l : List ByteArray) (bits : Int) : List UInt8 := if bits < 1 ∨ 16 < bits then [] else bof (brounds bits.toNat) (bsize l.length bits.toNat) (bl l)
theorem ofF_length (l : List ByteArray) (bits : Int) (hn : l.length ≤ 1048576) : (ofF l bits).length ≤ 2097154 := by
  unfold ofF
  split
  · simp
  · rw [bof_length]
    have := bsize_bd l.length bits.toNat hn (by omega)
    omega

theorem of_all (A : Option Addr) (n c B : Nat) (l : List ByteArray) (hl : l.length = n) (hn : n ≤ 1048576) (hks : ∀ s ∈ l, s.size ≤ 9223372036854775807) (bits : Int) (w : World) (hr : Rd w B A (sv l)) (hB : B ≤ w.heap.size) :
    Calls Try.prog 15 #[.slice A n c, .int .i64 bits] w fun e w' => ∃ v, e = .returned (.tuple #[v, .int .i64 (ofE bits)]) ∧ w'.ownsRow w.heap.size 5 1 v (ofF l bits).length (bv (ofF l bits)) ∧ Below w.heap.size w w' := by
  by_cases h : bits < 1 ∨ 16 < bits
  · have e1 : ofE bits = 2 := if_pos h
    have e2 : ofF l bits = [] := if_pos h
    rw [e1, e2]
    refine (of_arg A n c hn bits h w).mono ?_
    rintro e w' ⟨rfl, rfl⟩
    exact ⟨_, rfl, World.ownsRow_nil _ _ _ _, Below.refl _ _⟩
  · have e1 : ofE bits = 0 := if_neg h
    have e2 : ofF l bits = bof (brounds bits.toNat) (bsize l.length bits.toNat) (bl l) := if_neg h
    obtain ⟨b, rfl⟩ := Int.eq_ofNat_of_zero_le (show 0 ≤ bits by omega)
    rw [e1, e2]
    refine (of_any A n c B l hl hn hks b (by omega) (by omega) w hr hB).mono ?_
    rintro e w' ⟨v, rfl, own, hb⟩
    refine ⟨v, rfl, own_eq own ?_ ?_, hb⟩
    · rw [bof_length, hl]; rfl
    · rw [hl]; rfl

theorem rof_all (A : Option Addr) (n c B : Nat) (l : List ByteArray) (hl : l.length = n) (hn : n ≤ 1048576) (hks : ∀ s ∈ l, s.size ≤ 9223372036854775807) (bits : Int) (w : World) (hr : Rd w B A (sv l)) (hB : B ≤ w.heap.size) :
    Calls Try.prog 23 #[.slice A n c, .int .i64 bits] w fun e w' => ∃ v, e = .returned (.tuple #[v, .int .i64 (ofE bits)]) ∧ w'.ownsRow w.heap.size 5 1 v (ofF l bits).length (bv (ofF l bits)) ∧ Below w.heap.size w w' := by
  by_cases h : bits < 1 ∨ 16 < bits
  · have e1 : ofE bits = 2 := if_pos h
    have e2 : ofF l bits = [] := if_pos h
    rw [e1, e2]
    refine (rof_arg A n c hn bits h w).mono ?_
    rintro e w' ⟨rfl, rfl⟩
    exact ⟨_, rfl, World.ownsRow_nil _ _ _ _, Below.refl _ _⟩
  · have e1 : ofE bits = 0 := if_neg h
    have e2 : ofF l bits = bof (brounds bits.toNat) (bsize l.length bits.toNat) (bl l) := if_neg h
    obtain ⟨b, rfl⟩ := Int.eq_ofNat_of_zero_le (show 0 ≤ bits by omega)
    rw [e1, e2]
    refine (rof_any A n c B l hl hn hks b (by omega) (by omega) w hr hB).mono ?_
    rintro e w' ⟨v, rfl, own, hb⟩
    refine ⟨v, rfl, own_eq own ?_ ?_, hb⟩
    · rw [bof_length, hl]; rfl
    · rw [hl]; rfl

def bothE (fa fb : List UInt8) : Int := if bchk fa = 5 ∨ bchk fa = 0 ∧ bchk fb = 5 then 5 else if fa.length ≠ fb.length ∨ fa.length = fb.length ∧ fb.getD 0 0 ≠ fa.getD 0 0 then 2 else 0
def bothF (fa fb : List UInt8) : List UInt8 := if bothE fa fb = 0 then orF fa fb else []
theorem bothF_length (fa fb : List UInt8) : (bothF fa fb).length ≤ fa.length := by
  unfold bothF
  split
  · unfold orF; rw [orTo_length]; exact Nat.le_refl _
  · simp

theorem both_all (A A' : Option Addr) (n n' c c' B B' : Nat) (fa fb : List UInt8) (hl : fa.length = n) (hl' : fb.length = n') (hn : n ≤ 140737488355328) (hcc : n' ≤ c')
    (w : World) (hr : Rd w B A (bv fa)) (hr' : Rd w B' A' (bv fb)) (hB : B ≤ w.heap.size) (hB' : B' ≤ w.heap.size) :
    Calls Try.prog 25 #[.slice A n c, .slice A' n' c'] w fun e w' => ∃ v, e = .returned (.tuple #[v, .int .i64 (bothE fa fb)]) ∧ w'.ownsRow w.heap.size 5 1 v (bothF fa fb).length (bv (bothF fa fb)) ∧ Below w.heap.size w w' := by
  by_cases h : bchk fa = 5 ∨ bchk fa = 0 ∧ bchk fb = 5
  · have e1 : bothE fa fb = 5 := if_pos h
    have e2 : bothF fa fb = [] := by unfold bothF; rw [e1]; rfl
    rw [e1, e2]
    refine (both_bad A A' n n' c c' B B' fa fb hl hl' h w hr hr').mono ?_
    rintro e w' ⟨rfl, rfl⟩
    exact ⟨_, rfl, World.ownsRow_nil _ _ _ _, Below.refl _ _⟩
  · have ka : bchk fa = 0 := by rcases bchk_or fa with k | k <;> simp [k] at h ⊢
    have kb : bchk fb = 0 := by rcases bchk_or fb with k | k <;> simp [ka, k] at h ⊢
    by_cases h2 : fa.length ≠ fb.length ∨ fa.length = fb.length ∧ fb.getD 0 0 ≠ fa.getD 0 0
    · have e1 : bothE fa fb = 2 := by unfold bothE; rw [if_neg h, if_pos h2]
      have e2 : bothF fa fb = [] := by unfold bothF; rw [e1]; rfl
      rw [e1, e2]
      refine (both_arg A A' n n' c c' B B' fa fb hl hl' ka kb (by rw [← hl, ← hl']; exact h2) w hr hr' hB hB').mono ?_
      rintro e w' ⟨rfl, hb⟩
      exact ⟨_, rfl, World.ownsRow_nil _ _ _ _, hb⟩
    · have e1 : bothE fa fb = 0 := by unfold bothE; rw [if_neg h, if_neg h2]
      have e2 : bothF fa fb = orF fa fb := by unfold bothF; rw [e1]; rfl
      have hll : fa.length = fb.length := by
        by_cases e : fa.length = fb.length
        · exact e
        · exact absurd (.inl e) h2
      have hh : fb.getD 0 0 = fa.getD 0 0 := by
        by_cases e : fb.getD 0 0 = fa.getD 0 0
        · exact e
        · exact absurd (.inr ⟨hll, e⟩) h2
      obtain rfl : n = n' := by omega
      rw [e1, e2]
      refine (both_any A A' n c c' B B' fa fb hl hl' ka kb hh hn hcc w hr hr' hB hB').mono ?_
      rintro e w' ⟨v, rfl, own, hb⟩
      exact ⟨v, rfl, own_eq own (by unfold orF; rw [orTo_length]; exact hl.symm) rfl, hb⟩

theorem rboth_all (A A' : Option Addr) (n n' c c' B B' : Nat) (fa fb : List UInt8) (hl : fa.length = n) (hl' : fb.length = n') (hn : n ≤ 140737488355328)
    (w : World) (hr : Rd w B A (bv fa)) (hr' : Rd w B' A' (bv fb)) (hB : B ≤ w.heap.size) (hB' : B' ≤ w.heap.size) :
    Calls Try.prog 26 #[.slice A n c, .slice A' n' c'] w fun e w' => ∃ v, e = .returned (.tuple #[v, .int .i64 (bothE fa fb)]) ∧ w'.ownsRow w.heap.size 5 1 v (bothF fa fb).length (bv (bothF fa fb)) ∧ Below w.heap.size w w' := by
  by_cases h : bchk fa = 5 ∨ bchk fa = 0 ∧ bchk fb = 5
  · have e1 : bothE fa fb = 5 := if_pos h
    have e2 : bothF fa fb = [] := by unfold bothF; rw [e1]; rfl
    rw [e1, e2]
    refine (rboth_bad A A' n n' c c' B B' fa fb hl hl' h w hr hr').mono ?_
    rintro e w' ⟨rfl, rfl⟩
    exact ⟨_, rfl, World.ownsRow_nil _ _ _ _, Below.refl _ _⟩
  · have ka : bchk fa = 0 := by rcases bchk_or fa with k | k <;> simp [k] at h ⊢
    have kb : bchk fb = 0 := by rcases bchk_or fb with k | k <;> simp [ka, k] at h ⊢
    by_cases h2 : fa.length ≠ fb.length ∨ fa.length = fb.length ∧ fb.getD 0 0 ≠ fa.getD 0 0
    · have e1 : bothE fa fb = 2 := by unfold bothE; rw [if_neg h, if_pos h2]
      have e2 : bothF fa fb = [] := by unfold bothF; rw [e1]; rfl
      rw [e1, e2]
      refine (rboth_arg A A' n n' c c' B B' fa fb hl hl' ka kb (by rw [← hl, ← hl']; exact h2) w hr hr' hB hB').mono ?_
      rintro e w' ⟨rfl, hb⟩
      exact ⟨_, rfl, World.ownsRow_nil _ _ _ _, hb⟩
    · have e1 : bothE fa fb = 0 := by unfold bothE; rw [if_neg h, if_neg h2]
      have e2 : bothF fa fb = orF fa fb := by unfold bothF; rw [e1]; rfl
      have hll : fa.length = fb.length := by
        by_cases e : fa.length = fb.length
        · exact e
        · exact absurd (.inl e) h2
      have hh : fb.getD 0 0 = fa.getD 0 0 := by
        by_cases e : fb.getD 0 0 = fa.getD 0 0
        · exact e
        · exact absurd (.inr ⟨hll, e⟩) h2
      obtain rfl : n = n' := by omega
      rw [e1, e2]
      refine (rboth_any A A' n c c' B B' fa fb hl hl' ka kb hh hn w hr hr' hB hB').mono ?_
      rintro e w' ⟨v, rfl, own, hb⟩
      exact ⟨v, rfl, own_eq own (by unfold orF; rw [orTo_length]; exact hl.symm) rfl, hb⟩
end Go.Proofs.Ytlpdihcgdgkkbaa
