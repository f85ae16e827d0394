/- The walk of frame.Read. -/
import Derived.Test.YtdmpimgbnhgiaaaZBase
import Derived.Test.YtdmpimgbnhgiaaaChecked
import Derived.WalkKit
import Derived.WalkLawsBesides
import Derived.WalkSpells
import Derived.Handy
import Derived.Lib.Hide
import Derived.Deep.LoopGhost
import Derived.Deep.DeepFit
import Derived.BigQuiet
import Derived.Lib.QuietBelow
import Derived.Deep.RegionHeld3
import Derived.StillTailTactics
import Derived.Deep.RegionWith
import Derived.Lib.EndianBits

namespace CrcM

/-- One shift of the register. -/
def cstep (s : Nat) : Nat := if s % 2 = 1 then (s / 2) ^^^ 2197175160 else s / 2

def citer : Nat → Nat → Nat
  | 0, s => s
  | n + 1, s => citer n (cstep s)

def cbyte (s c : Nat) : Nat := citer 8 (s ^^^ c)

def crun (s : Nat) (l : List UInt8) : Nat := l.foldl (fun s c => cbyte s c.toNat) s

def cmore (sum : Nat) (l : List UInt8) : Nat := 4294967295 - crun (4294967295 - sum) l

theorem citer_add (m n s : Nat) : citer (m + n) s = citer n (citer m s) := by
  induction m generalizing s with
  | zero => simp [citer]
  | succ m ih => rw [Nat.succ_add]; exact ih (cstep s)

theorem citer_last (n s : Nat) : citer (n + 1) s = cstep (citer n s) := by
  rw [citer_add n 1]; rfl

theorem xor_div (a b : Nat) : (a ^^^ b) / 2 = (a / 2) ^^^ (b / 2) := by
  apply Nat.eq_of_testBit_eq
  intro i
  simp [Nat.testBit_xor, ← Nat.testBit_succ]

theorem xor_mod (a b : Nat) : (a ^^^ b) % 2 = (a % 2 + b % 2) % 2 := by
  have h := Nat.xor_mod_two_pow (a := a) (b := b) (n := 1)
  rw [show 2 ^ 1 = 2 from rfl] at h
  rw [h]
  rcases Nat.mod_two_eq_zero_or_one a with ha | ha <;> rcases Nat.mod_two_eq_zero_or_one b with hb | hb <;> rw [ha, hb] <;> rfl

theorem cstep_lt (s : Nat) (h : s < 4294967296) : cstep s < 4294967296 := by
  unfold cstep
  split
  · exact Nat.xor_lt_two_pow (n := 32) (by omega) (by decide)
  · omega

theorem citer_lt (n s : Nat) (h : s < 4294967296) : citer n s < 4294967296 := by
  induction n generalizing s with
  | zero => exact h
  | succ n ih => exact ih _ (cstep_lt s h)

theorem u8_lt (c : UInt8) : c.toNat < 256 := c.toNat_lt

theorem cbyte_lt (s c : Nat) (h : s < 4294967296) (hc : c < 256) : cbyte s c < 4294967296 :=
  citer_lt _ _ (Nat.xor_lt_two_pow (n := 32) (by omega) (by omega))

theorem crun_lt (l : List UInt8) (s : Nat) (h : s < 4294967296) : crun s l < 4294967296 := by
  induction l generalizing s with
  | nil => exact h
  | cons c l ih => exact ih _ (cbyte_lt _ _ h (by have := u8_lt c; omega))

theorem crun_append (s : Nat) (a b : List UInt8) : crun s (a ++ b) = crun (crun s a) b := by
  unfold crun; rw [List.foldl_append]

theorem crun_snoc (s : Nat) (a : List UInt8) (c : UInt8) : crun s (a ++ [c]) = cbyte (crun s a) c.toNat := by
  rw [crun_append]; rfl

theorem cstep_zero : cstep 0 = 0 := by decide
theorem citer_zero (n : Nat) : citer n 0 = 0 := by
  induction n with
  | zero => rfl
  | succ n ih => exact ih

theorem cstep_xor (a b : Nat) : cstep (a ^^^ b) = cstep a ^^^ cstep b := by
  unfold cstep
  rw [xor_mod, xor_div]
  rcases Nat.mod_two_eq_zero_or_one a with ha | ha <;> rcases Nat.mod_two_eq_zero_or_one b with hb | hb <;> simp only [ha, hb] <;> simp
  · rw [Nat.xor_assoc]
  · rw [Nat.xor_assoc, Nat.xor_assoc, Nat.xor_comm (b / 2)]
  · rw [Nat.xor_assoc, ← Nat.xor_assoc 2197175160, Nat.xor_comm 2197175160 (b / 2), Nat.xor_assoc (b / 2), Nat.xor_self, Nat.xor_zero]

theorem citer_xor (n a b : Nat) : citer n (a ^^^ b) = citer n a ^^^ citer n b := by
  induction n generalizing a b with
  | zero => rfl
  | succ n ih => show citer n _ = citer n _ ^^^ citer n _; rw [cstep_xor, ih]

theorem cstep_eq_zero (c : Nat) (h : c < 4294967296) (e : cstep c = 0) : c = 0 := by
  unfold cstep at e
  split at e
  · have h2 : c / 2 = 2197175160 := by
      have := congrArg (· ^^^ 2197175160) e
      simpa [Nat.xor_assoc] using this
    omega
  · omega

theorem citer_eq_zero (n c : Nat) (h : c < 4294967296) (e : citer n c = 0) : c = 0 := by
  induction n generalizing c with
  | zero => exact e
  | succ n ih => exact cstep_eq_zero c h (ih _ (cstep_lt c h) e)

theorem xor_eq_zero {a b : Nat} (h : a ^^^ b = 0) : a = b := by
  have := congrArg (· ^^^ b) h
  simpa [Nat.xor_assoc] using this

theorem citer_inj (n a b : Nat) (ha : a < 4294967296) (hb : b < 4294967296) (e : citer n a = citer n b) : a = b := by
  have h : citer n (a ^^^ b) = 0 := by rw [citer_xor, e, Nat.xor_self]
  exact xor_eq_zero (citer_eq_zero n _ (Nat.xor_lt_two_pow (n := 32) (by omega) (by omega)) h)

/-! ## The sum of a xor -/
theorem not_xor (a : Nat) (h : a < 4294967296) : 4294967295 - a = 4294967295 ^^^ a := by
  apply Nat.eq_of_testBit_eq
  intro i
  have h1 : Nat.testBit 4294967295 i = decide (i < 32) := by
    rw [show 4294967295 = 2 ^ 32 - 1 by decide, Nat.testBit_two_pow_sub_one]
  have h2 := Nat.testBit_two_pow_sub_succ (n := 32) (x := a) (by omega) i
  rw [show 4294967295 - a = 2 ^ 32 - (a + 1) by omega, h2, Nat.testBit_xor, h1]
  by_cases hi : i < 32
  · simp [hi]
  · have : a.testBit i = false := Nat.testBit_lt_two_pow (Nat.lt_of_lt_of_le h (by
      have : 2 ^ 32 ≤ 2 ^ i := Nat.pow_le_pow_right (by omega) (by omega)
      simpa using this))
    simp [hi, this]

theorem cbyte_xor (s t c d : Nat) : cbyte (s ^^^ t) (c ^^^ d) = cbyte s c ^^^ cbyte t d := by
  unfold cbyte
  rw [← citer_xor]
  congr 1
  apply Nat.eq_of_testBit_eq
  intro i
  simp only [Nat.testBit_xor]
  cases s.testBit i <;> cases t.testBit i <;> cases c.testBit i <;> cases d.testBit i <;> rfl

/-- Two lists of bytes, one on the other. -/
def lxor (a b : List UInt8) : List UInt8 := List.zipWith (· ^^^ ·) a b

theorem crun_lxor (a b : List UInt8) (h : a.length = b.length) (s t : Nat) : crun (s ^^^ t) (lxor a b) = crun s a ^^^ crun t b := by
  induction a generalizing b s t with
  | nil =>
    cases b with
    | nil => rfl
    | cons => simp at h
  | cons c a ih =>
    cases b with
    | nil => simp at h
    | cons d b =>
      show crun (cbyte (s ^^^ t) (c ^^^ d).toNat) (lxor a b) = crun (cbyte s c.toNat) a ^^^ crun (cbyte t d.toNat) b
      rw [UInt8.toNat_xor, cbyte_xor]
      exact ih b (by simpa using h) _ _

theorem cmore_xor3 (a b c : List UInt8) (h1 : a.length = b.length) (h2 : b.length = c.length) :
    cmore 0 (lxor (lxor a b) c) = (cmore 0 a ^^^ cmore 0 b) ^^^ cmore 0 c := by
  have hl : ∀ l : List UInt8, cmore 0 l = 4294967295 ^^^ crun 4294967295 l := fun l => by
    unfold cmore; exact not_xor _ (crun_lt l _ (by decide))
  rw [hl, hl, hl, hl]
  have e : (4294967295 : Nat) = (4294967295 ^^^ 4294967295) ^^^ 4294967295 := by decide
  have hr : crun 4294967295 (lxor (lxor a b) c) = (crun 4294967295 a ^^^ crun 4294967295 b) ^^^ crun 4294967295 c := by
    have e1 := crun_lxor (lxor a b) c (by simp [lxor, h1, h2]) (4294967295 ^^^ 4294967295) 4294967295
    have e2 := crun_lxor a b h1 4294967295 4294967295
    rw [e2] at e1
    rw [← e1, ← e]
  rw [hr]
  generalize crun 4294967295 a = x
  generalize crun 4294967295 b = y
  generalize crun 4294967295 c = z
  generalize 4294967295 = k
  apply Nat.eq_of_testBit_eq
  intro i
  simp only [Nat.testBit_xor]
  cases x.testBit i <;> cases y.testBit i <;> cases z.testBit i <;> cases k.testBit i <;> rfl

theorem cmore_lt (s : Nat) (l : List UInt8) : cmore s l < 4294967296 := by unfold cmore; omega

theorem cmore_append (a b : List UInt8) : cmore (cmore 0 a) b = cmore 0 (a ++ b) := by
  unfold cmore
  rw [crun_append]
  have := crun_lt a 4294967295 (by decide)
  congr 2
  show 4294967295 - (4294967295 - crun 4294967295 a) = crun 4294967295 a
  omega


/-! ## Altered bytes -/
theorem cbyte_split (s t c : Nat) : cbyte (s ^^^ t) c = cbyte s c ^^^ citer 8 t := by
  unfold cbyte
  rw [← citer_xor]
  congr 1
  rw [Nat.xor_assoc, Nat.xor_comm t c, ← Nat.xor_assoc]

theorem crun_state (l : List UInt8) (s t : Nat) : crun (s ^^^ t) l = crun s l ^^^ citer (8 * l.length) t := by
  induction l generalizing s t with
  | nil => rfl
  | cons c l ih =>
    show crun (cbyte (s ^^^ t) c.toNat) l = crun (cbyte s c.toNat) l ^^^ citer (8 * (l.length + 1)) t
    rw [cbyte_split, ih, show 8 * (l.length + 1) = 8 + 8 * l.length by omega, citer_add 8]

theorem crun_modify (l : List UInt8) (q : Nat) (c : UInt8) (s : Nat) (h : q < l.length) :
    crun s (l.modify q (· ^^^ c)) = crun s l ^^^ citer (8 * (l.length - q)) c.toNat := by
  induction l generalizing q s with
  | nil => simp at h
  | cons d l ih =>
    cases q with
    | zero =>
      show crun (cbyte s (d ^^^ c).toNat) l = crun (cbyte s d.toNat) l ^^^ citer (8 * (l.length + 1 - 0)) c.toNat
      have e : cbyte s (d ^^^ c).toNat = cbyte s d.toNat ^^^ citer 8 c.toNat := by
        rw [UInt8.toNat_xor]
        unfold cbyte
        rw [← Nat.xor_assoc, citer_xor]
      rw [e, crun_state, show 8 * (l.length + 1 - 0) = 8 + 8 * l.length by omega, citer_add 8]
    | succ q =>
      have h' : q < l.length := by simpa using h
      have := ih q (cbyte s d.toNat) h'
      rw [show (d :: l).length - (q + 1) = l.length - q by simp]
      exact this

theorem citer_pow (i x : Nat) : citer i (x * 2 ^ i) = x := by
  induction i with
  | zero => simp [citer]
  | succ i ih =>
    show citer i (cstep (x * 2 ^ (i + 1))) = x
    have e : cstep (x * 2 ^ (i + 1)) = x * 2 ^ i := by
      unfold cstep
      rw [Nat.pow_succ, ← Nat.mul_assoc]
      rw [if_neg (by omega)]
      omega
    rw [e, ih]

/-- One bit turned. -/
def turnBit (l : List UInt8) (p : Nat) : List UInt8 := l.modify (p / 8) (· ^^^ UInt8.ofNat (2 ^ (p % 8)))

theorem turnBit_length (l : List UInt8) (p : Nat) : (turnBit l p).length = l.length := by simp [turnBit]

theorem ofNat_pow (r : Nat) (h : r < 8) : (UInt8.ofNat (2 ^ r)).toNat = 2 ^ r := by
  have : 2 ^ r < 256 := by
    have := Nat.pow_lt_pow_right (a := 2) (by decide) h
    simpa using this
  simp [UInt8.toNat_ofNat']; omega

theorem crun_turnBit (l : List UInt8) (p s : Nat) (h : p < 8 * l.length) : crun s (turnBit l p) = crun s l ^^^ citer (8 * l.length - p) 1 := by
  unfold turnBit
  rw [crun_modify _ _ _ _ (by omega), ofNat_pow _ (by omega)]
  congr 1
  rw [show 8 * (l.length - p / 8) = p % 8 + (8 * l.length - p) by omega, citer_add]
  congr 1
  have := citer_pow (p % 8) 1
  simpa using this

/-- The bits of a number turned, from a place on. -/
def turnTo (l : List UInt8) (at_ bits : Nat) : Nat → List UInt8
  | 0 => l
  | k + 1 => if bits.testBit k then turnBit (turnTo l at_ bits k) (at_ + k) else turnTo l at_ bits k

theorem turnTo_length (l : List UInt8) (a b k : Nat) : (turnTo l a b k).length = l.length := by
  induction k with
  | zero => rfl
  | succ k ih => unfold turnTo; split <;> simp [turnBit_length, ih]

theorem mod_succ_bit (b k : Nat) : b % 2 ^ (k + 1) = b % 2 ^ k ^^^ (if b.testBit k then 2 ^ k else 0) := by
  apply Nat.eq_of_testBit_eq
  intro i
  rw [Nat.testBit_mod_two_pow, Nat.testBit_xor, Nat.testBit_mod_two_pow]
  by_cases hb : b.testBit k
  · simp only [hb, if_true, Nat.testBit_two_pow]
    by_cases h : i = k
    · subst h; simp [hb]
    · have : ¬ k = i := fun e => h e.symm
      simp only [this, decide_false, Bool.xor_false]
      congr 1
      simp; omega
  · simp only [hb, Bool.false_eq_true, if_false, Nat.zero_testBit, Bool.xor_false]
    by_cases h : i = k
    · subst h; simp [hb]
    · congr 1; simp; omega

theorem crun_turnTo (l : List UInt8) (at_ bits k s : Nat) (h : at_ + k ≤ 8 * l.length) :
    crun s (turnTo l at_ bits k) = crun s l ^^^ citer (8 * l.length - at_) (bits % 2 ^ k) := by
  induction k with
  | zero => simp [turnTo, Nat.mod_one, citer_zero]
  | succ k ih =>
    rw [mod_succ_bit, citer_xor]
    unfold turnTo
    split
    · rename_i hb
      rw [crun_turnBit _ _ _ (by rw [turnTo_length]; omega), ih (by omega), turnTo_length, Nat.xor_assoc]
      congr 2
      rw [show 8 * l.length - at_ = k + (8 * l.length - (at_ + k)) by omega, citer_add]
      have := citer_pow k 1
      rw [Nat.one_mul] at this
      rw [this]
    · rw [ih (by omega), citer_zero, Nat.xor_zero]

/-! ## What is sealed -/
def le32 (x : Nat) : List UInt8 := [UInt8.ofNat x, UInt8.ofNat (x / 256), UInt8.ofNat (x / 65536), UInt8.ofNat (x / 16777216)]
def sealed (l : List UInt8) : List UInt8 := l ++ le32 (cmore 0 l)

theorem le32_length (x : Nat) : (le32 x).length = 4 := rfl
theorem sealed_length (l : List UInt8) : (sealed l).length = l.length + 4 := by simp [sealed, le32_length]

theorem xor_low (a b : Nat) (k : Nat) (ha : a < 2 ^ k) : a ^^^ (b * 2 ^ k) = a + b * 2 ^ k := by
  rw [Nat.mul_comm b, Nat.add_comm, Nat.two_pow_add_eq_or_of_lt ha]
  apply Nat.eq_of_testBit_eq
  intro i
  rw [Nat.testBit_xor, Nat.testBit_or, Nat.testBit_two_pow_mul]
  by_cases h : k ≤ i
  · have : a.testBit i = false := Nat.testBit_lt_two_pow (Nat.lt_of_lt_of_le ha (Nat.pow_le_pow_right (by omega) h))
    simp [this]
  · simp [h]

theorem crun_four (s : Nat) (a b c d : UInt8) : crun s [a, b, c, d] = citer 32 (s ^^^ (a.toNat + b.toNat * 256 + c.toNat * 65536 + d.toNat * 16777216)) := by
  have ha := u8_lt a
  have hb := u8_lt b
  have hc := u8_lt c
  have hd := u8_lt d
  have e1 := xor_low a.toNat b.toNat 8 (by omega)
  have e2 := xor_low (a.toNat + b.toNat * 2 ^ 8) c.toNat 16 (by omega)
  have e3 := xor_low (a.toNat + b.toNat * 2 ^ 8 + c.toNat * 2 ^ 16) d.toNat 24 (by omega)
  have e : a.toNat + b.toNat * 256 + c.toNat * 65536 + d.toNat * 16777216 = ((a.toNat ^^^ (b.toNat * 2 ^ 8)) ^^^ (c.toNat * 2 ^ 16)) ^^^ (d.toNat * 2 ^ 24) := by
    rw [e1, e2, e3]
  rw [e]
  show cbyte (cbyte (cbyte (cbyte s a.toNat) b.toNat) c.toNat) d.toNat = _
  unfold cbyte
  have p1 := citer_pow 8 b.toNat
  have p2 := citer_pow 16 c.toNat
  have p3 := citer_pow 24 d.toNat
  have k1 : citer 8 (s ^^^ a.toNat) ^^^ b.toNat = citer 8 (s ^^^ (a.toNat ^^^ (b.toNat * 2 ^ 8))) := by
    rw [← Nat.xor_assoc, citer_xor 8 (s ^^^ a.toNat), p1]
  rw [k1, ← citer_add 8 8]
  have k2 : citer (8 + 8) (s ^^^ (a.toNat ^^^ (b.toNat * 2 ^ 8))) ^^^ c.toNat = citer 16 (s ^^^ ((a.toNat ^^^ (b.toNat * 2 ^ 8)) ^^^ (c.toNat * 2 ^ 16))) := by
    conv => rhs; rw [← Nat.xor_assoc s, citer_xor, p2]
  rw [k2, ← citer_add 16 8]
  have k3 : citer (16 + 8) (s ^^^ ((a.toNat ^^^ (b.toNat * 2 ^ 8)) ^^^ (c.toNat * 2 ^ 16))) ^^^ d.toNat = citer 24 (s ^^^ (((a.toNat ^^^ (b.toNat * 2 ^ 8)) ^^^ (c.toNat * 2 ^ 16)) ^^^ (d.toNat * 2 ^ 24))) := by
    conv => rhs; rw [← Nat.xor_assoc s, citer_xor, p3]
  rw [k3, ← citer_add 24 8]

theorem toNat_ofNat (x : Nat) : (UInt8.ofNat x).toNat = x % 256 := by simp [UInt8.toNat_ofNat']

theorem le32_eq (x : Nat) (hx : x < 4294967296) (a b c d : UInt8) :
    [a, b, c, d] = le32 x ↔ a.toNat + b.toNat * 256 + c.toNat * 65536 + d.toNat * 16777216 = x := by
  have ha := u8_lt a
  have hb := u8_lt b
  have hc := u8_lt c
  have hd := u8_lt d
  unfold le32
  simp only [List.cons.injEq, and_true, ← UInt8.toNat_inj, toNat_ofNat]
  constructor
  · rintro ⟨h1, h2, h3, h4⟩
    omega
  · intro h
    refine ⟨by omega, by omega, by omega, by omega⟩

/-- Bytes are sealed ones. -/
def isSealed (l : List UInt8) : Prop := 4 ≤ l.length ∧ sealed (l.take (l.length - 4)) = l

theorem four_of (l : List UInt8) (h : l.length = 4) : ∃ a b c d, l = [a, b, c, d] := by
  match l, h with
  | [a, b, c, d], _ => exact ⟨a, b, c, d, rfl⟩

theorem isSealed_iff (l : List UInt8) (h : 4 ≤ l.length) : sealed (l.take (l.length - 4)) = l ↔ crun 4294967295 l = citer 32 4294967295 := by
  obtain ⟨a, b, c, d, hd⟩ := four_of (l.drop (l.length - 4)) (by simp; omega)
  generalize hp : l.take (l.length - 4) = p
  have hl : l = p ++ [a, b, c, d] := by rw [← hp, ← hd, List.take_append_drop]
  have hs := crun_lt p 4294967295 (by decide)
  rw [hl, crun_append, crun_four]
  unfold sealed
  rw [List.append_right_inj, eq_comm, le32_eq _ (cmore_lt _ _)]
  have ha := u8_lt a
  have hb := u8_lt b
  have hc := u8_lt c
  have hd := u8_lt d
  have e : cmore 0 p = 4294967295 ^^^ crun 4294967295 p := not_xor _ hs
  rw [e]
  generalize hx : a.toNat + b.toNat * 256 + c.toNat * 65536 + d.toNat * 16777216 = x
  have hxl : x < 4294967296 := by omega
  generalize hs' : crun 4294967295 p = s
  rw [hs'] at hs
  constructor
  · rintro rfl
    congr 1
    rw [Nat.xor_comm 4294967295, ← Nat.xor_assoc, Nat.xor_self, Nat.zero_xor]
  · intro h
    have := citer_inj 32 _ _ (Nat.xor_lt_two_pow (n := 32) (by omega) (by omega)) (by decide) h
    rw [← this, Nat.xor_comm s x, Nat.xor_assoc, Nat.xor_self, Nat.xor_zero]

theorem sealed_isSealed (l : List UInt8) : crun 4294967295 (sealed l) = citer 32 4294967295 := by
  refine (isSealed_iff (sealed l) (by rw [sealed_length]; omega)).1 ?_
  rw [sealed_length]
  simp [sealed]

/-- A list that differs from a sealed one by an error that the register sees is no sealed one. -/
theorem not_sealed_of (l m : List UInt8) (x : Nat) (n : Nat) (hm : 4 ≤ m.length) (hx : x < 4294967296) (h0 : x ≠ 0)
    (h : crun 4294967295 m = crun 4294967295 (sealed l) ^^^ citer n x) : sealed (m.take (m.length - 4)) ≠ m := by
  intro e
  have h1 := (isSealed_iff m hm).1 e
  rw [sealed_isSealed, h1] at h
  have h2 : citer n x = 0 := by
    have := congrArg (citer 32 4294967295 ^^^ ·) h
    simp only [← Nat.xor_assoc, Nat.xor_self, Nat.zero_xor] at this
    exact this.symm
  exact h0 (citer_eq_zero n x hx h2)

/-- One byte altered. -/
theorem altered_byte (l : List UInt8) (q : Nat) (c : UInt8) (hq : q < l.length + 4) (hc : c ≠ 0) :
    sealed (((sealed l).modify q (· ^^^ c)).take (l.length)) ≠ (sealed l).modify q (· ^^^ c) := by
  have h := not_sealed_of l ((sealed l).modify q (· ^^^ c)) c.toNat (8 * ((sealed l).length - q)) (by simp [sealed_length]) (by have := u8_lt c; omega)
    (fun e => hc (UInt8.toNat_inj.1 (by simpa using e))) (crun_modify _ _ _ _ (by rw [sealed_length]; exact hq))
  simpa [sealed_length] using h

/-- A burst of at most 32 bits. -/
theorem altered_burst (l : List UInt8) (at_ bits k : Nat) (hk : at_ + k ≤ 8 * (l.length + 4)) (hb : bits < 2 ^ k) (hb2 : bits < 4294967296) (h0 : bits ≠ 0) :
    sealed ((turnTo (sealed l) at_ bits k).take l.length) ≠ turnTo (sealed l) at_ bits k := by
  have h := not_sealed_of l (turnTo (sealed l) at_ bits k) bits (8 * (sealed l).length - at_) (by rw [turnTo_length, sealed_length]; omega) hb2 h0
    (by rw [crun_turnTo _ _ _ _ _ (by rw [sealed_length]; omega), Nat.mod_eq_of_lt hb])
  simpa [turnTo_length, sealed_length] using h

end CrcM

namespace Go.Proofs.Ytdmpimgbnhgiaaa
open Go.RowKit Go.St
set_option linter.unusedVariables false
set_option linter.unusedSimpArgs false
set_option maxRecDepth 100000

theorem not32 (s : Nat) (h : s < 4294967296) : bits .xor .u32 IntKind.u32.max (s : Int) = ((4294967295 - s : Nat) : Int) := by
  have e : IntKind.u32.max = ((4294967295 : Nat) : Int) := by decide
  rw [e, u32_xor_nat _ _ (by decide) h, CrcM.not_xor s h]
theorem uns32 : IntKind.u32.signed = false := rfl

set_option maxHeartbeats 400000 in
theorem more_any (sum : Nat) (hs : sum < 4294967296) (A : Option Addr) (n c B : Nat) (bs : List UInt8) (hl : bs.length = n) (hn : n ≤ 9223372036854775807) (w : World) (hr : Rd w B A (bv bs)) :
    Calls Try.prog 95 #[.int .u32 (sum : Int), .slice A n c] w fun e w' => e = .returned (.int .u32 (CrcM.cmore sum bs : Nat)) ∧ w = w' := by
  have h0 := not32 sum hs
  have h1 := uns32
  have HL := Lib.hid hl; clear hl
  have HR := Lib.hid hr; clear hr
  go_enter Try.func95, Try.ntmps95
  go_wp2
  clear h0
  go_loop [0, 12] (fun s i => ∃ k : Nat, k ≤ n ∧ i = .int .i64 k ∧ s = .int .u32 (CrcM.crun (4294967295 - sum) (bs.take k) : Nat)) (fun _ i => n - (intOf i).toNat)
  case atStart => exact ⟨0, Nat.zero_le _, rfl, rfl⟩
  case round =>
    obtain ⟨k, hk, rfl, rfl⟩ := hrel
    have hs1 : CrcM.crun (4294967295 - sum) (bs.take k) < 4294967296 := CrcM.crun_lt _ _ (by omega)
    by_cases hlt : k < n
    · obtain ⟨b, off, rfl, hb, hcell⟩ := HR.out.at_ (bv_get bs k (by rw [HL.out]; exact hlt))
      have hsn : CrcM.crun (4294967295 - sum) (bs.take (k + 1)) = CrcM.cbyte (CrcM.crun (4294967295 - sum) (bs.take k)) (bs[k]'(by rw [HL.out]; exact hlt)).toNat := by
        rw [← CrcM.crun_snoc, take_snoc bs k (by rw [HL.out]; exact hlt)]
      have hb := CrcM.u8_lt (bs[k]'(by rw [HL.out]; exact hlt))
      unfold bt at hcell
      generalize CrcM.crun (4294967295 - sum) (bs.take k) = s at *
      generalize (bs[k]'(by rw [HL.out]; exact hlt)).toNat = v at *
      have HS := Lib.hid hsn; clear hsn
      have e1 : ((v : Int)) % 4294967296 = (v : Int) := by omega
      have e2 := u32_xor_nat s v hs1 (by omega)
      go_wp2
      have hx : s ^^^ v < 4294967296 := Nat.xor_lt_two_pow (n := 32) (by omega) (by omega)
      clear e1 e2 hcell
      unfold CrcM.cbyte at HS
      generalize s ^^^ v = x at *
      go_loop [0, 20] (fun s i => ∃ j : Nat, j ≤ 8 ∧ i = .int .i64 j ∧ s = .int .u32 (CrcM.citer j x : Nat)) (fun _ i => 8 - (intOf i).toNat)
      case atStart => exact ⟨0, Nat.zero_le _, rfl, rfl⟩
      case round =>
        obtain ⟨j, hj, rfl, rfl⟩ := hrel
        have ht := CrcM.citer_lt j x hx
        have hst := CrcM.citer_last j x
        have HT := Lib.hid hst; clear hst
        by_cases hj8 : j < 8
        · generalize CrcM.citer j x = t at *
          have e3 : bits .and .u32 (t : Int) 1 = ((t % 2 : Nat) : Int) := by
            have := u32_and_nat t 1 ht (by decide); rw [nat_mask1] at this; exact this
          have e4 := u32_xor_nat (t / 2) 2197175160 (by omega) (by decide)
          by_cases hb : t % 2 = 1
          · have e5 : (((t % 2 : Nat) : Int) == 1) = true := by simp; omega
            have HT2 : Hid (CrcM.citer (j + 1) x = (t / 2) ^^^ 2197175160) := by
              unfold Hid; rw [HT.out]; unfold CrcM.cstep; rw [if_pos hb]
            go_wp2
            exact ⟨⟨j + 1, by omega, by go_num, by rw [HT2.out]; exact int_eq e4⟩, by simp [intOf]; omega⟩
          · have e5 : (((t % 2 : Nat) : Int) == 1) = false := by simp; omega
            have HT2 : Hid (CrcM.citer (j + 1) x = t / 2) := by
              unfold Hid; rw [HT.out]; unfold CrcM.cstep; rw [if_neg hb]
            go_wp2
            exact ⟨⟨j + 1, by omega, by go_num, by rw [HT2.out]; go_num⟩, by simp [intOf]; omega⟩
        · obtain rfl : j = 8 := by omega
          go_wp2
          exact ⟨⟨k + 1, by omega, by go_num, by rw [HS.out]⟩, by simp [intOf]; omega⟩
    · obtain rfl : k = n := by omega
      have h0 := not32 _ hs1
      go_wp2
      go_ret
      refine ⟨ret_int ?_, rfl⟩
      rw [List.take_of_length_le (by rw [HL.out]; exact Nat.le_refl _)]
      rfl
end Go.Proofs.Ytdmpimgbnhgiaaa

namespace Go.St
open Go.RowKit

/-- make([]T, n). -/
theorem run_mk {P : Program} {t e : TypeId} {size bytes : Nat} {z : Value} (E : STy P t e size bytes z) (w : World) (base n : Nat) (hb : bytes * n ≤ 281474976710656) (h63 : n ≤ maxLen) (hbase : base ≤ w.heap.size) :
    ∃ w', (Instr.makeSlice t (.int .i64 (n : Int)) (.int .i64 (n : Int))).run P w = .ok (.slice (some ⟨w.heap.size, 0, none⟩) n n) w' ∧
      w'.ownsRow base e size (.slice (some ⟨w.heap.size, 0, none⟩) n n) n (madeCells z.cells (n * size)).toList ∧ w.grownBy w' none := by
  obtain ⟨i, hi, hz, hs, hy⟩ := E.hi
  subst hy
  exact run_make_full w base t e i z size E.ht hi hz hs .i64 .i64 n hb h63 hbase

theorem made_bytes (n : Nat) : (madeCells (Value.cells (.int .u8 0)) (n * 1)).toList = bv (List.replicate n 0) := by
  rw [Nat.mul_one]
  show (madeCells #[.int .u8 0] n).toList = _
  rw [toList_madeCells_one]
  simp [bv, bt]

/-- What stands in a list that is filled from the left. -/
def fill {α : Type} (xs : List α) (z : α) (k : Nat) : List α := xs.take k ++ List.replicate (xs.length - k) z
theorem fill_zero {α : Type} (xs : List α) (z : α) : fill xs z 0 = List.replicate xs.length z := by simp [fill]
theorem fill_all {α : Type} (xs : List α) (z : α) : fill xs z xs.length = xs := by simp [fill]
theorem fill_length {α : Type} (xs : List α) (z : α) (k : Nat) (h : k ≤ xs.length) : (fill xs z k).length = xs.length := by simp [fill]; omega
theorem fill_set {α : Type} (xs : List α) (z : α) (k : Nat) (h : k < xs.length) : (fill xs z k).set k xs[k] = fill xs z (k + 1) := by
  unfold fill
  apply List.ext_getElem?
  intro j
  rw [List.getElem?_set]
  have hl : (xs.take k).length = k := by simp; omega
  by_cases hj : k = j
  · subst hj
    have h1 : k < (xs.take k ++ List.replicate (xs.length - k) z).length := by simp; omega
    rw [if_pos rfl, if_pos h1, List.getElem?_append_left (by simp; omega)]
    simp [h]
  · rw [if_neg hj]
    by_cases hjk : j < k
    · rw [List.getElem?_append_left (by omega), List.getElem?_append_left (by simp; omega)]
      simp [hjk, Nat.lt_succ_of_lt hjk]
    · rw [List.getElem?_append_right (by omega), List.getElem?_append_right (by simp; omega)]
      simp only [List.getElem?_replicate, List.length_take]
      by_cases h2 : j < xs.length
      · rw [if_pos (by omega), if_pos (by omega)]
      · rw [if_neg (by omega), if_neg (by omega)]
end Go.St

namespace Go.Proofs.Ytdmpimgbnhgiaaa
open Go.RowKit Go.St
set_option linter.unusedVariables false
set_option linter.unusedSimpArgs false

set_option maxRecDepth 100000 in
theorem sty22 : STy Try.prog 26 5 1 1 (.int .u8 0) := ⟨Try.underlying26, ⟨_, rfl, by kernel_rfl, by kernel_rfl, by kernel_rfl⟩, rfl, by decide⟩

set_option maxHeartbeats 400000 in
theorem copy_any (A : Option Addr) (n c B : Nat) (bs : List UInt8) (hl : bs.length = n) (hn : n ≤ 140737488355328) (w : World) (hr : Rd w B A (bv bs)) (hB : B ≤ w.heap.size) :
    Calls Try.prog 31 #[.slice A n c] w fun e w' => ∃ v, e = .returned v ∧ w'.ownsRow w.heap.size 5 1 v n (bv bs) ∧ Below w.heap.size w w' ∧ v ≠ .slice none 0 0 := by
  have HL := Lib.hid hl; clear hl
  have HR := Lib.hid hr; clear hr
  go_enter Try.func31, Try.ntmps31
  go_wp2_with (at_builtin; refine wpList_app sty22 (.tmp 3) (.tmp 4) rfl rfl w.heap.size (World.ownsRow_lit w #[] 0 (Nat.le_refl _) (by decide) rfl) rfl n c (Rd.alloc HR.out hB _) rfl (by rw [bv_length, HL.out]; omega) (bv_one _) (by unfold maxLen; omega) (by omega) (by simp) ?_; intro v1 w1 own1 gr1 nil1 at1)
  go_ret
  refine ⟨v1, rfl, by simpa using own1, ?_, fun h => by simpa using nil1.1 h⟩
  exact ((Below.refl _ _).alloc (Nat.le_refl _) _).grown gr1 (by simp) (by simp [Value.ownBlock])

theorem bt_ne {a b : UInt8} (h : a ≠ b) : (((a.toNat : Nat) : Int) != ((b.toNat : Nat) : Int)) = true := by
  rw [bne_iff_ne]
  intro e
  exact h (UInt8.toNat_inj.1 (by omega))
theorem bt_eq {a b : UInt8} (h : a = b) : (((a.toNat : Nat) : Int) != ((b.toNat : Nat) : Int)) = false := by
  subst h
  simp

set_option maxHeartbeats 400000 in
theorem same_any (A A' : Option Addr) (n n' c c' B B' : Nat) (bs bs' : List UInt8) (hl : bs.length = n) (hl' : bs'.length = n') (hn : n ≤ 9223372036854775807) (w : World)
    (hr : Rd w B A (bv bs)) (hr' : Rd w B' A' (bv bs')) :
    Calls Try.prog 13 #[.slice A n c, .slice A' n' c'] w fun e w' => e = .returned (.bool (decide (bs = bs'))) ∧ ∃ m, w' = w.drewN m := by
  have HL := Lib.hid hl; clear hl
  have HL' := Lib.hid hl'; clear hl'
  have HR := Lib.hid hr; clear hr
  have HR' := Lib.hid hr'; clear hr'
  by_cases hnn : n = n'
  · subst hnn
    go_enter Try.func13, Try.ntmps13
    go_wp2
    go_loopw [5] (fun i wr => ∃ k m : Nat, k ≤ n ∧ i = .int .i64 k ∧ wr = w.drewN m ∧ bs.take k = bs'.take k) (fun i _ => n - (intOf i).toNat)
    case atStart => exact ⟨0, 0, Nat.zero_le _, rfl, rfl, rfl⟩
    case round =>
      obtain ⟨k, m, hk, rfl, rfl, htk⟩ := hrel
      have HT := Lib.hid htk; clear htk
      by_cases hlt : k < n
      · obtain ⟨b, off, rfl, hb, hcell⟩ := HR.out.at_ (bv_get bs k (by rw [HL.out]; exact hlt))
        obtain ⟨b', off', rfl, hb', hcell'⟩ := HR'.out.at_ (bv_get bs' k (by rw [HL'.out]; exact hlt))
        have hsn := take_snoc bs k (by rw [HL.out]; exact hlt)
        have hsn' := take_snoc bs' k (by rw [HL'.out]; exact hlt)
        have HS := Lib.hid hsn; clear hsn
        have HS' := Lib.hid hsn'; clear hsn'
        unfold bt at hcell hcell'
        by_cases he : bs[k]'(by rw [HL.out]; exact hlt) = bs'[k]'(by rw [HL'.out]; exact hlt)
        · have e0 := bt_eq he
          have HE := Lib.hid he; clear he
          go_wp2
          go_quiet (fail)
          go_wp2
          exact ⟨⟨k + 1, m + nq, by omega, by go_num, by simp, by rw [HS.out, HS'.out, HT.out, HE.out]⟩, by simp [intOf]; omega⟩
        · have e0 := bt_ne he
          have HE := Lib.hid he; clear he
          go_wp2
          go_quiet (fail)
          go_wp2
          go_ret
          refine ⟨ret_bool ?_, m + nq, by simp⟩
          exact (decide_eq_false (fun h => HE.out (by subst h; rfl))).symm
      · obtain rfl : k = n := by omega
        go_wp2
        go_ret
        refine ⟨ret_bool ?_, m, rfl⟩
        have h1 := HT.out
        rw [List.take_of_length_le (by rw [HL.out]; exact Nat.le_refl _), List.take_of_length_le (by rw [HL'.out]; exact Nat.le_refl _)] at h1
        exact (decide_eq_true h1).symm
  · go_enter Try.func13, Try.ntmps13
    go_wp2
    go_ret
    exact ⟨ret_bool (decide_eq_false (fun h => hnn (by rw [← HL.out, ← HL'.out, h]))).symm, 0, rfl⟩

/-- What stands behind a list that is lent. -/
def lent (bs : List UInt8) : List UInt8 := bs ++ [201, 202, 203]
theorem lent_length (bs : List UInt8) : (lent bs).length = bs.length + 3 := by simp [lent]


/-- append within the capacity. -/
theorem wpList_fit {P : Program} {t e : TypeId} {size bytes : Nat} {z : Value} (E : STy P t e size bytes z) {w : World} {ops : Array Oper} {rest : List Oper} {o : Oper} {a : Act} {Q : Exit → Act → World → Prop} (s x : Operand) (hgd : o.guard = none)
    (ho : o.op = .call { callee := .builtin .append, args := #[s, x], argTypes := #[t, t] })
    (base : Nat) {g n cap : Nat} {xs : List Value} (hown : w.ownsRow base e size (.slice (some ⟨g, 0, none⟩) n cap) n xs) (hs : a.eval s = .slice (some ⟨g, 0, none⟩) n cap)
    (ad : Addr) (m c : Nat) {news : List Value} (hr : ∀ j u, news[j]? = some u → w.cell? (ad.add j) = some u) (hx : a.eval x = .slice (some ad) m c) (hl : news.length = m * size) (h1 : ∀ u ∈ news, u.oneCell' = true) (hroom : n + m ≤ cap)
    (h : ∀ w', w'.ownsRow base e size (.slice (some ⟨g, 0, none⟩) (n + m) cap) (n + m) (xs ++ news) → w.grownBy w' (some g) → wpList P ops Q rest (a.put o.dst (.slice (some ⟨g, 0, none⟩) (n + m) cap)) w') :
    wpList P ops Q (o :: rest) a w := by
  refine wpList_plain hgd fun _ hK => ?_
  obtain ⟨i, hi, hz, hsz, hb⟩ := E.hi
  obtain ⟨w', hrun, h2, h3⟩ := run_append_fits (P := P) w base t o.type e i size E.ht hi hsz g n cap xs hown ad m c news hl hr h1 hroom
  unfold Oper.wp execOp
  simp only [ho, resolve, invoke, builtin, Sem.run_bind, Sem.run_pure, Result.andThen_ok, List.map_toArray, List.map_cons, List.map_nil, hs, hx, hrun]
  exact hK _ _ (h w' h2 h3)

theorem not8 (x : UInt8) : bits .xor .u8 IntKind.u8.max ((x.toNat : Nat) : Int) = (((~~~x).toNat : Nat) : Int) := by
  have e : IntKind.u8.max = (((255 : UInt8).toNat : Nat) : Int) := by decide
  have e2 : (255 : UInt8) ^^^ x = ~~~x := UInt8.neg_one_xor
  rw [e, bt_xor, e2]
theorem not8n (x : UInt8) : bits .xor .u8 IntKind.u8.max ((x.toNat : Nat) : Int) = ((255 - x.toNat : Nat) : Int) := by rw [not8, UInt8.toNat_not]; rfl
theorem bt_notn (x : UInt8) : bt (~~~x) = .int .u8 ((255 - x.toNat : Nat) : Int) := by unfold bt; rw [UInt8.toNat_not]; rfl
theorem uns8 : IntKind.u8.signed = false := rfl

/-- A list of the call's own, cut shorter. -/
theorem own_short {w : World} {base g n m cap : Nat} {e : TypeId} {xs : List Value} (h : w.ownsRow base e 1 (.slice (some ⟨g, 0, none⟩) m cap) m xs) (hn : n ≤ m) : w.ownsRow base e 1 (.slice (some ⟨g, 0, none⟩) n cap) n (xs.take n) := by
  have hl := h.1
  rcases h.2 with ⟨h', _⟩ | ⟨g', cap', cur, h', hb, hg, hnc, hcm, hcs, htake⟩
  · simp at h'
  · simp only [Value.slice.injEq, Option.some.injEq, Addr.mk.injEq, and_true, true_and] at h'
    obtain ⟨rfl, rfl⟩ := h'
    refine ⟨by simp; omega, .inr ⟨g, cap, cur, rfl, hb, hg, by omega, hcm, hcs, ?_⟩⟩
    rw [← htake, List.take_take]
    congr 1
    omega

/-- The length of a slice. -/
def lenV : Value → Nat | .slice _ n _ => n | _ => 0

set_option maxHeartbeats 1000000 in
theorem over_any (g n c base : Nat) (bs : List UInt8) (hl : bs.length = n) (w : World) (hc : c ≤ maxLen) (hnc : n ≤ c) (hown : w.ownsRow base 5 1 (.slice (some ⟨g, 0, none⟩) n c) n (bv bs)) :
    Calls Try.prog 48 #[.slice (some ⟨g, 0, none⟩) n c] w fun e w' => e = .returned (.tuple #[]) ∧ w'.ownsRow base 5 1 (.slice (some ⟨g, 0, none⟩) n c) n (bv (bs.map (~~~ ·))) ∧ w.grownBy w' (some g) := by
  unfold maxLen at hc
  have HL := Lib.hid hl; clear hl
  have hx := not8n
  have hu := uns8
  obtain ⟨ys, hys⟩ : ∃ ys, ys = bs.map (~~~ ·) := ⟨_, rfl⟩
  have hyl : ys.length = n := by rw [hys, List.length_map, HL.out]
  have HY := Lib.hid hys
  have HYL := Lib.hid hyl
  have O0 : Hid (w.ownsRow base 5 1 (.slice (some ⟨g, 0, none⟩) n c) n (bv (ys.take 0 ++ bs.drop 0))) := hown
  rw [← hys]
  clear hown hys hyl
  go_enter Try.func48, Try.ntmps48
  go_wp2
  go_loopw [3] (fun i wr => ∃ k : Nat, k ≤ n ∧ i = .int .i64 k ∧ wr.ownsRow base 5 1 (.slice (some ⟨g, 0, none⟩) n c) n (bv (ys.take k ++ bs.drop k)) ∧ w.grownBy wr (some g)) (fun i _ => n - (intOf i).toNat)
  case atStart => exact ⟨0, Nat.zero_le _, rfl, O0.out, World.grownBy.refl _ _⟩
  case round =>
    obtain ⟨k, hk, rfl, hown, hgr⟩ := hrel
    clear O0
    have OW := Lib.hid hown; clear hown
    by_cases hlt : k < n
    · have hkb : k < bs.length := by rw [HL.out]; exact hlt
      have hky : k < ys.length := by rw [HYL.out]; exact hlt
      have hget : (ys.take k ++ bs.drop k)[k]? = some bs[k] := by
        rw [List.getElem?_append_right (by simp; omega)]
        simp [Nat.min_eq_left (Nat.le_of_lt hky)]
      have hcx := OW.out.cellAt k (by omega)
      rw [bv, List.getElem?_map, hget, Option.map_some] at hcx
      have hfx := OW.out.frozenAt k
      have e1 := hx bs[k]
      have hset : (ys.take k ++ bs.drop k).set k ys[k] = ys.take (k + 1) ++ bs.drop (k + 1) := by
        rw [List.set_append_right _ _ (by simp; omega), List.drop_eq_getElem_cons hkb, take_snoc ys k hky, List.length_take, Nat.min_eq_left (Nat.le_of_lt hky), Nat.sub_self, List.set_cons_zero, List.append_assoc]
        rfl
      have hyk : ys[k] = ~~~bs[k] := by
        have h := HY.out
        subst h
        simp
      have HS := Lib.hid hset; clear hset
      have HK := Lib.hid hyk; clear hyk
      clear hx hget
      unfold bt at hcx
      have i1 : (k : Int) < (n : Int) := by omega
      go_wp2
      have o2 := (OW.out.stored k (bt ys[k])).1
      have g2 := (OW.out.stored k (bt ys[k])).2
      rw [bv_set, HS.out] at o2
      have ev : bt ys[k] = .int .u8 ((255 - bs[k].toNat : Nat) : Int) := by rw [HK.out, bt_notn]
      rw [ev] at o2 g2
      exact ⟨⟨k + 1, by omega, by go_num, o2, hgr.trans g2⟩, by simp [intOf]; omega⟩
    · obtain rfl : k = n := by omega
      have o2 : wr.ownsRow base 5 1 (.slice (some ⟨g, 0, none⟩) k c) (k + 0) (bv (ys ++ List.replicate 0 99)) := by
        have h := OW.out
        rw [List.take_of_length_le (l := ys) (by rw [HYL.out]; exact Nat.le_refl _), List.drop_of_length_le (by rw [HL.out]; exact Nat.le_refl _)] at h
        exact h
      have O2 := Lib.hid o2; clear o2 OW
      clear hx
      go_wp2
      go_loopw [0] (fun v wr => ∃ j : Nat, k + j ≤ c ∧ v = .slice (some ⟨g, 0, none⟩) (k + j) c ∧ wr.ownsRow base 5 1 (.slice (some ⟨g, 0, none⟩) (k + j) c) (k + j) (bv (ys ++ List.replicate j 99)) ∧ w.grownBy wr (some g)) (fun v _ => c - lenV v)
      case atStart => exact ⟨0, hnc, rfl, O2.out, hgr⟩
      case round =>
        rename_i wz _
        obtain ⟨j, hj, rfl, hown, hgr2⟩ := hrel
        clear O2 hgr
        by_cases hlt2 : k + j < c
        · go_wp2_with (at_builtin; refine wpList_fit sty22 (.tmp 24) (.tmp 25) rfl rfl base (hown.alloc _) rfl ⟨wr.heap.size, 0, none⟩ 1 1 (cell_one_new _ _ _) rfl rfl (by simp [Value.oneCell']) (by omega) ?_; intro w6 own6 gr6)
          refine ⟨⟨j + 1, by omega, rfl, own_eq own6 rfl ?_, ?_⟩, by simp [lenV]; omega⟩
          · rw [List.replicate_succ', ← List.append_assoc, bv_append _ [99]]; rfl
          · exact (hgr2.trans (World.grownBy_alloc _ _ _)).trans gr6
        · have hjc : k + j = c := by omega
          have o9 := own_short hown (show k ≤ k + j by omega)
          go_wp2
          go_returns
          refine ⟨rfl, own_eq o9 rfl ?_, hgr2⟩
          simp [bv, HYL.out]
end Go.Proofs.Ytdmpimgbnhgiaaa

namespace Go.Proofs.Ytdmpimgbnhgiaaa
open Go.RowKit Go.St
set_option linter.unusedVariables false
set_option linter.unusedSimpArgs false
set_option maxRecDepth 100000

set_option maxHeartbeats 400000 in
theorem sum_any (A : Option Addr) (n c B : Nat) (bs : List UInt8) (hl : bs.length = n) (hn : n ≤ 9223372036854775807) (w : World) (hr : Rd w B A (bv bs)) :
    Calls Try.prog 93 #[.slice A n c] w fun e w' => e = .returned (.int .u32 (CrcM.cmore 0 bs : Nat)) ∧ w = w' := by
  have HL := Lib.hid hl; clear hl
  have HR := Lib.hid hr; clear hr
  go_enter Try.func93, Try.ntmps93
  go_wp2_with (go_at_call 95; refine (more_any 0 (by decide) A n c B bs HL.out hn _ HR.out).mono ?_; rintro e w' ⟨rfl, rfl⟩)
  go_ret
  exact ⟨rfl, rfl⟩

set_option maxHeartbeats 400000 in
theorem sealed_any (A : Option Addr) (n c B : Nat) (bs : List UInt8) (hl : bs.length = n) (hn : n + 4 ≤ 140737488355328) (w : World) (hr : Rd w B A (bv bs)) (hB : B ≤ w.heap.size) :
    Calls Try.prog 84 #[.slice A n c] w fun e w' => ∃ v, e = .returned v ∧ w'.ownsRow w.heap.size 5 1 v (n + 4) (bv (CrcM.sealed bs)) ∧ Below w.heap.size w w' := by
  have HL := Lib.hid hl; clear hl
  have HR := Lib.hid hr; clear hr
  go_enter Try.func84, Try.ntmps84
  go_wp2_with (first
    | (at_builtin; refine wpList_app sty22 _ (.tmp 6) rfl rfl w.heap.size (World.ownsRow_nil w _ _ _) rfl n c HR.out rfl (by rw [bv_length, HL.out]; omega) (bv_one _) (by unfold maxLen; omega) (by omega) (Nat.le_refl _) ?_; intro v1 w1 own1 gr1 nil1 at1)
    | (go_at_call 93; refine (sum_any A n c B bs HL.out (by omega) _ (HR.out.grown gr1 hB (by simp [Value.ownBlock]))).mono ?_; rintro e w' ⟨rfl, rfl⟩))
  have hs := CrcM.cmore_lt 0 bs
  have hb1 : Below w.heap.size w w1 := (Below.refl _ _).grown gr1 (Nat.le_refl _) (by simp [Value.ownBlock])
  clear nil1 at1
  have HO : Hid (w1.ownsRow w.heap.size 5 1 v1 (n + 0) (bv bs ++ bv ((CrcM.le32 (CrcM.cmore 0 bs)).take 0))) := own_eq own1 (by omega) (by simp [bv])
  clear own1
  generalize hsum : CrcM.cmore 0 bs = s at *
  have HS := Lib.hid hsum; clear hsum
  go_loopw [3, 5] (fun v i wr => ∃ k : Nat, k ≤ 4 ∧ i = .int .i64 k ∧ wr.ownsRow w.heap.size 5 1 v (n + k) (bv bs ++ bv ((CrcM.le32 s).take k)) ∧ Below w.heap.size w wr) (fun _ i _ => 4 - (intOf i).toNat)
  case atStart => exact ⟨0, Nat.zero_le _, rfl, HO.out, hb1⟩
  case round =>
    obtain ⟨k, hk, rfl, hown, hbw⟩ := hrel
    clear hb1 HO
    by_cases hk4 : k < 4
    · rcases (by omega : k = 0 ∨ k = 1 ∨ k = 2 ∨ k = 3) with rfl | rfl | rfl | rfl
      all_goals
        go_wp2_with (at_builtin; refine wpList_app sty22 (.tmp 14) (.tmp 20) rfl rfl w.heap.size (hown.alloc _) rfl 1 1 (rd_one _ _ _) rfl rfl (by simp [Value.oneCell']) (by unfold maxLen; omega) (by omega) (by have := hbw.size; simp; omega) ?_; intro v2 w2 own2 gr2 nil2 at2)
      · refine ⟨⟨0 + 1, by omega, by go_num, own_eq own2 (by omega) ?_, ((hbw.alloc hbw.size _).grown gr2 (by have := hbw.size; simp; omega) (fun g hg => (hown.lt g hg).1))⟩, by simp [intOf]⟩
        simp [bv, CrcM.le32, bt_ofNat]
      · refine ⟨⟨1 + 1, by omega, by go_num, own_eq own2 (by omega) ?_, ((hbw.alloc hbw.size _).grown gr2 (by have := hbw.size; simp; omega) (fun g hg => (hown.lt g hg).1))⟩, by simp [intOf]⟩
        simp [bv, CrcM.le32, bt_ofNat]
      · refine ⟨⟨2 + 1, by omega, by go_num, own_eq own2 (by omega) ?_, ((hbw.alloc hbw.size _).grown gr2 (by have := hbw.size; simp; omega) (fun g hg => (hown.lt g hg).1))⟩, by simp [intOf]⟩
        simp [bv, CrcM.le32, bt_ofNat]
      · refine ⟨⟨3 + 1, by omega, by go_num, own_eq own2 (by omega) ?_, ((hbw.alloc hbw.size _).grown gr2 (by have := hbw.size; simp; omega) (fun g hg => (hown.lt g hg).1))⟩, by simp [intOf]⟩
        simp [bv, CrcM.le32, bt_ofNat]
        omega
    · obtain rfl : k = 4 := by omega
      go_wp2
      go_ret
      exact ⟨_, rfl, own_eq hown (by omega) (by rw [← bv_append, ← HS.out]; rfl), hbw⟩
end Go.Proofs.Ytdmpimgbnhgiaaa

namespace Go.Proofs.Ytdmpimgbnhgiaaa
open Go.RowKit Go.St
set_option linter.unusedVariables false
set_option linter.unusedSimpArgs false
set_option maxRecDepth 100000

set_option maxHeartbeats 400000 in
theorem turned_any (s c : Nat) (hs : s < 4294967296) (hc : c < 256) (w : World) :
    Calls Try.prog 96 #[.int .u32 (s : Int), .int .u8 (c : Int)] w fun e w' => e = .returned (.int .u32 (CrcM.cbyte s c : Nat)) ∧ w = w' := by
  have e1 : ((c : Int)) % 4294967296 = (c : Int) := by omega
  have e2 := u32_xor_nat s c hs (by omega)
  have hx : s ^^^ c < 4294967296 := Nat.xor_lt_two_pow (n := 32) (by omega) (by omega)
  go_enter Try.func96, Try.ntmps96
  go_wp2
  clear e1 e2
  have HD : Hid (CrcM.cbyte s c = CrcM.citer 8 (s ^^^ c)) := rfl
  generalize s ^^^ c = x at *
  go_loop [0, 5] (fun s i => ∃ j : Nat, j ≤ 8 ∧ i = .int .i64 j ∧ s = .int .u32 (CrcM.citer j x : Nat)) (fun _ i => 8 - (intOf i).toNat)
  case atStart => exact ⟨0, Nat.zero_le _, rfl, rfl⟩
  case round =>
    obtain ⟨j, hj, rfl, rfl⟩ := hrel
    have ht := CrcM.citer_lt j x hx
    have hst := CrcM.citer_last j x
    have HT := Lib.hid hst; clear hst
    by_cases hj8 : j < 8
    · generalize CrcM.citer j x = t at *
      have e4 := u32_xor_nat (t / 2) 2197175160 (by omega) (by decide)
      by_cases hb : t % 2 = 1
      · have e5 : (((t : Nat) : Int) % 2 == 1) = true := by simp; omega
        have HT2 : Hid (CrcM.citer (j + 1) x = (t / 2) ^^^ 2197175160) := by
          unfold Hid; rw [HT.out]; unfold CrcM.cstep; rw [if_pos hb]
        go_wp2
        exact ⟨⟨j + 1, by omega, by go_num, by rw [HT2.out]; exact int_eq e4⟩, by simp [intOf]; omega⟩
      · have e5 : (((t : Nat) : Int) % 2 == 1) = false := by simp; omega
        have HT2 : Hid (CrcM.citer (j + 1) x = t / 2) := by
          unfold Hid; rw [HT.out]; unfold CrcM.cstep; rw [if_neg hb]
        go_wp2
        exact ⟨⟨j + 1, by omega, by go_num, by rw [HT2.out]; go_num⟩, by simp [intOf]; omega⟩
    · obtain rfl : j = 8 := by omega
      go_wp2
      go_ret
      exact ⟨ret_int (by rw [HD.out]), rfl⟩

set_option maxHeartbeats 400000 in
theorem rmore_any (sum : Nat) (hs : sum < 4294967296) (A : Option Addr) (n c B : Nat) (bs : List UInt8) (hl : bs.length = n) (hn : n ≤ 9223372036854775807) (w : World) (hr : Rd w B A (bv bs)) :
    Calls Try.prog 94 #[.int .u32 (sum : Int), .slice A n c] w fun e w' => e = .returned (.int .u32 (CrcM.cmore sum bs : Nat)) ∧ w = w' := by
  have h0 := not32 sum hs
  have h1 := uns32
  have HL := Lib.hid hl; clear hl
  have HR := Lib.hid hr; clear hr
  go_enter Try.func94, Try.ntmps94
  go_wp2
  clear h0
  go_loop [5, 6] (fun s i => ∃ k : Nat, k ≤ n ∧ i = .int .i64 k ∧ s = .int .u32 (CrcM.crun (4294967295 - sum) (bs.take k) : Nat)) (fun _ i => n - (intOf i).toNat)
  case atStart => exact ⟨0, Nat.zero_le _, rfl, rfl⟩
  case round =>
    obtain ⟨k, hk, rfl, rfl⟩ := hrel
    have hs1 : CrcM.crun (4294967295 - sum) (bs.take k) < 4294967296 := CrcM.crun_lt _ _ (by omega)
    by_cases hlt : k < n
    · obtain ⟨b, off, rfl, hb, hcell⟩ := HR.out.at_ (bv_get bs k (by rw [HL.out]; exact hlt))
      have hsn : CrcM.crun (4294967295 - sum) (bs.take (k + 1)) = CrcM.cbyte (CrcM.crun (4294967295 - sum) (bs.take k)) (bs[k]'(by rw [HL.out]; exact hlt)).toNat := by
        rw [← CrcM.crun_snoc, take_snoc bs k (by rw [HL.out]; exact hlt)]
      have hb := CrcM.u8_lt (bs[k]'(by rw [HL.out]; exact hlt))
      unfold bt at hcell
      generalize CrcM.crun (4294967295 - sum) (bs.take k) = s at *
      generalize (bs[k]'(by rw [HL.out]; exact hlt)).toNat = v at *
      have HS := Lib.hid hsn; clear hsn
      go_wp2_with fail
      refine (turned_any s v hs1 hb _).mono ?_
      rintro e w' ⟨rfl, rfl⟩
      go_wp2
      exact ⟨⟨k + 1, by omega, by go_num, by rw [HS.out]⟩, by simp [intOf]; omega⟩
    · obtain rfl : k = n := by omega
      have h0 := not32 _ hs1
      go_wp2
      go_ret
      refine ⟨ret_int ?_, rfl⟩
      rw [List.take_of_length_le (by rw [HL.out]; exact Nat.le_refl _)]
      rfl

set_option maxHeartbeats 400000 in
theorem rsum_any (A : Option Addr) (n c B : Nat) (bs : List UInt8) (hl : bs.length = n) (hn : n ≤ 9223372036854775807) (w : World) (hr : Rd w B A (bv bs)) :
    Calls Try.prog 87 #[.slice A n c] w fun e w' => e = .returned (.int .u32 (CrcM.cmore 0 bs : Nat)) ∧ w = w' := by
  have HL := Lib.hid hl; clear hl
  have HR := Lib.hid hr; clear hr
  go_enter Try.func87, Try.ntmps87
  go_wp2_with (go_at_call 94; refine (rmore_any 0 (by decide) A n c B bs HL.out hn _ HR.out).mono ?_; rintro e w' ⟨rfl, rfl⟩)
  go_ret
  exact ⟨rfl, rfl⟩

/-- Four cells that were just laid. -/
theorem rd_lit (w : World) (cs : Array Value) (t : TypeId) : Rd (w.alloc (.cells cs t)) (w.heap.size + 1) (some ⟨w.heap.size, 0, none⟩) cs.toList := fun _ => by
  refine ⟨w.heap.size, 0, rfl, by omega, fun i v hv => ?_⟩
  rw [World.cell?_alloc_at _ _ _ _ rfl]
  simpa using hv

set_option maxHeartbeats 400000 in
theorem rsealed_any (A : Option Addr) (n c B : Nat) (bs : List UInt8) (hl : bs.length = n) (hn : n + 4 ≤ 140737488355328) (w : World) (hr : Rd w B A (bv bs)) (hB : B ≤ w.heap.size) :
    Calls Try.prog 76 #[.slice A n c] w fun e w' => ∃ v, e = .returned v ∧ w'.ownsRow w.heap.size 5 1 v (n + 4) (bv (CrcM.sealed bs)) ∧ Below w.heap.size w w' := by
  have hs := CrcM.cmore_lt 0 bs
  have HL := Lib.hid hl; clear hl
  have HR := Lib.hid hr; clear hr
  go_enter Try.func76, Try.ntmps76
  go_wp2_with fail
  refine (rsum_any A n c B bs HL.out (by omega) _ HR.out).mono ?_
  rintro e w' ⟨rfl, rfl⟩
  generalize hsum : CrcM.cmore 0 bs = s at *
  have HS := Lib.hid hsum; clear hsum
  go_wp2_with (first
    | (at_builtin; refine wpList_app sty22 (.tmp 6) (.tmp 7) rfl rfl w.heap.size (World.ownsRow_lit w #[] 0 (Nat.le_refl _) (by decide) rfl) rfl n c (Rd.alloc HR.out hB _) rfl (by rw [bv_length, HL.out]; omega) (bv_one _) (by unfold maxLen; omega) (by omega) (by simp) ?_; intro v1 w1 own1 gr1 nil1 at1)
    | (at_builtin; refine wpList_app sty22 (.tmp 8) (.tmp 20) rfl rfl w.heap.size (own1.alloc _) rfl 4 4 (rd_lit _ _ _) rfl rfl (by simp [Value.oneCell']) (by unfold maxLen; omega) (by omega) (by have := gr1.size; simp at this ⊢; omega) ?_; intro v2 w2 own2 gr2 nil2 at2))
  go_ret
  have hb1 : Below w.heap.size w w1 := ((Below.refl _ _).alloc (Nat.le_refl _) _).grown gr1 (by simp) (by simp [Value.ownBlock])
  refine ⟨_, rfl, own_eq own2 (by omega) ?_, (hb1.alloc hb1.size _).grown gr2 (by have := hb1.size; simp; omega) (fun g hg => (own1.lt g hg).1)⟩
  have e : CrcM.sealed bs = bs ++ CrcM.le32 s := by unfold CrcM.sealed; rw [HS.out]
  rw [e]
  simp [bv, CrcM.le32, bt_ofNat]
  omega
end Go.Proofs.Ytdmpimgbnhgiaaa

namespace Go.Proofs.Ytdmpimgbnhgiaaa
open Go.RowKit Go.St
set_option linter.unusedVariables false
set_option linter.unusedSimpArgs false
set_option maxRecDepth 100000

/-- A record's frame. -/
def frameL (r : List UInt8) : List UInt8 := CrcM.sealed (CrcM.le32 r.length) ++ CrcM.sealed r
theorem frameL_length (r : List UInt8) : (frameL r).length = r.length + 12 := by
  unfold frameL
  rw [List.length_append, CrcM.sealed_length, CrcM.sealed_length, CrcM.le32_length]
  omega

theorem append_long (A A' : Option Addr) (n c n' c' : Nat) (hn : 1048576 < n') (hn' : n' ≤ 9223372036854775807) (w : World) :
    Calls Try.prog 66 #[.slice A n c, .slice A' n' c'] w fun e w' => e = .returned (.tuple #[.slice none 0 0, .int .i64 3]) ∧ w = w' := by
  go_enter Try.func66, Try.ntmps66
  go_wp2
  go_ret2
  exact ⟨rfl, rfl⟩
theorem lit_cells (n : Nat) (hn : n ≤ 1048576) : (#[Value.int .u8 ((n : Int) % 256), .int .u8 ((n : Int) / 256 % 256), .int .u8 ((n : Int) / 65536), .int .u8 ((n : Int) / 16777216)] : Array Value).toList = bv (CrcM.le32 n) := by
  simp [bv, CrcM.le32, bt_ofNat]
  omega
theorem rd_lits (w : World) (cs : Array Value) (t : TypeId) (xs : List Value) (h : cs.toList = xs) : Rd (w.alloc (.cells cs t)) (w.heap.size + 1) (some ⟨w.heap.size, 0, none⟩) xs := by
  subst h
  exact rd_lit w cs t

set_option maxHeartbeats 1000000 in
theorem append_fits (A A' : Option Addr) (n c B n' c' B' : Nat) (bs rs : List UInt8) (hl : bs.length = n) (hl' : rs.length = n') (hn : n + n' + 12 ≤ 140737488355328) (hn' : n' ≤ 1048576) (w : World)
    (hr : Rd w B A (bv bs)) (hB : B ≤ w.heap.size) (hr' : Rd w B' A' (bv rs)) (hB' : B' ≤ w.heap.size) :
    Calls Try.prog 66 #[.slice A n c, .slice A' n' c'] w fun e w' => ∃ v, e = .returned (.tuple #[v, .int .i64 0]) ∧ w'.ownsRow w.heap.size 5 1 v (n + n' + 12) (bv (bs ++ frameL rs)) ∧ Below w.heap.size w w' := by
  have HL := Lib.hid hl; clear hl
  have HL' := Lib.hid hl'; clear hl'
  have HR := Lib.hid hr; clear hr
  have HR' := Lib.hid hr'; clear hr'
  go_enter Try.func66, Try.ntmps66
  go_wp2_with (at_builtin; refine wpList_app sty22 _ (.tmp 12) rfl rfl w.heap.size (World.ownsRow_nil w _ _ _) rfl n c HR.out rfl (by rw [bv_length, HL.out]; omega) (bv_one _) (by unfold maxLen; omega) (by omega) (Nat.le_refl _) ?_; intro v1 w1 own1 gr1 nil1 at1)
  have hb1 : Below w.heap.size w w1 := (Below.refl _ _).grown gr1 (Nat.le_refl _) (by simp [Value.ownBlock])
  have O1 : Hid (w1.ownsRow w.heap.size 5 1 v1 n (bv bs)) := own_eq own1 (by omega) (by simp)
  have R1 := Lib.hid (HR'.out.below (hb1.mono hB'))
  have S1 := hb1.size
  clear own1 gr1 nil1 at1
  have hc4 := lit_cells n' hn'
  have H4 := Lib.hid hc4; clear hc4
  refine (sealed_any _ 4 4 _ (CrcM.le32 n') rfl (by omega) _ (rd_lits _ _ _ _ H4.out) (by simp)).mono ?_
  rintro e w2 ⟨v2, rfl, own2, hb2⟩
  have hb3 : Below w.heap.size w w2 := (hb1.alloc S1 _).trans (hb2.mono (by simp; omega))
  have O2 := Lib.hid (own_keep (O1.out.alloc _) hb2 (Nat.le_refl _))
  have R2 := Lib.hid ((R1.out.alloc (by omega) _).below (hb2.mono (by simp; omega)))
  obtain ⟨A2, c2, rfl, _, _, rd2⟩ := own_rd4 own2
  have D2 := Lib.hid rd2; clear rd2 own2 O1 R1 H4
  have S2 : w.heap.size ≤ w2.heap.size := hb3.size
  clear hb2 hb1 S1
  go_wp2_with (at_builtin; refine wpList_app sty22 (.tmp 14) (.tmp 27) rfl rfl w.heap.size O2.out rfl 8 c2 D2.out rfl (by rw [bv_length, CrcM.sealed_length, CrcM.le32_length]) (bv_one _) (by unfold maxLen; omega) (by omega) S2 ?_; intro v3 w3 own3 gr3 nil3 at3)
  have hb4 : Below w.heap.size w w3 := hb3.grown gr3 S2 (fun g hg => (O2.out.lt g hg).1)
  have R3 := Lib.hid (R2.out.grown gr3 (by omega) (fun g hg => Nat.le_trans hB' (O2.out.lt g hg).1))
  have O3 : Hid (w3.ownsRow w.heap.size 5 1 v3 (n + 8) (bv (bs ++ CrcM.sealed (CrcM.le32 n')))) := own_eq own3 rfl (bv_append _ _).symm
  have S3 : w.heap.size ≤ w3.heap.size := hb4.size
  clear own3 gr3 nil3 at3 O2 R2 D2 hb3
  go_wp2_with fail
  refine (sealed_any A' n' c' _ rs HL'.out (by omega) _ R3.out (by omega)).mono ?_
  rintro e w4 ⟨v4, rfl, own4, hb5⟩
  have hb6 : Below w.heap.size w w4 := hb4.trans (hb5.mono S3)
  have O4 := Lib.hid (own_keep O3.out hb5 (Nat.le_refl _))
  obtain ⟨A4, c4, rfl, _, _, rd4⟩ := own_rd4 own4
  have D4 := Lib.hid rd4; clear rd4 own4 O3 R3 hb5 hb4
  have S4 : w.heap.size ≤ w4.heap.size := hb6.size
  go_wp2_with (at_builtin; refine wpList_app sty22 (.tmp 29) (.tmp 31) rfl rfl w.heap.size O4.out rfl (n' + 4) c4 D4.out rfl (by rw [bv_length, CrcM.sealed_length, HL'.out]; omega) (bv_one _) (by unfold maxLen; omega) (by omega) S4 ?_; intro v5 w5 own5 gr5 nil5 at5)
  go_ret2
  refine ⟨v5, rfl, own_eq own5 (by omega) ?_, hb6.grown gr5 S4 (fun g hg => (O4.out.lt g hg).1)⟩
  rw [← bv_append, frameL, HL'.out, List.append_assoc]
set_option maxHeartbeats 1000000 in
theorem rframe_any (A' : Option Addr) (n' c' B' : Nat) (rs : List UInt8) (hl' : rs.length = n') (hn' : n' ≤ 1048576) (w : World)
    (hr' : Rd w B' A' (bv rs)) (hB' : B' ≤ w.heap.size) :
    Calls Try.prog 43 #[.slice A' n' c'] w fun e w' => ∃ v, e = .returned v ∧ w'.ownsRow w.heap.size 5 1 v (n' + 12) (bv (frameL rs)) ∧ Below w.heap.size w w' := by
  have HL' := Lib.hid hl'; clear hl'
  have HR' := Lib.hid hr'; clear hr'
  go_enter Try.func43, Try.ntmps43
  go_wp2_with fail
  have hc4 := lit_cells n' hn'
  have H4 := Lib.hid hc4; clear hc4
  refine (rsealed_any _ 4 4 _ (CrcM.le32 n') rfl (by omega) _ (rd_lits _ _ _ _ H4.out) (by simp)).mono ?_
  rintro e w2 ⟨v2, rfl, own2, hb2⟩
  have hb3 : Below w.heap.size w w2 := ((Below.refl _ _).alloc (Nat.le_refl _) _).trans (hb2.mono (by simp))
  have O2 : Hid (w2.ownsRow w.heap.size 5 1 v2 8 (bv (CrcM.sealed (CrcM.le32 n')))) := own2.mono (by simp)
  have R2 := Lib.hid ((HR'.out.alloc (by omega) _).below (hb2.mono (by simp; omega)))
  have S2 : w.heap.size ≤ w2.heap.size := hb3.size
  clear own2 H4 hb2
  go_wp2_with fail
  refine (rsealed_any A' n' c' _ rs HL'.out (by omega) _ R2.out (by omega)).mono ?_
  rintro e w4 ⟨v4, rfl, own4, hb5⟩
  have hb6 : Below w.heap.size w w4 := hb3.trans (hb5.mono S2)
  have O4 := Lib.hid (own_keep O2.out hb5 (Nat.le_refl _))
  obtain ⟨A4, c4, rfl, _, _, rd4⟩ := own_rd4 own4
  have D4 := Lib.hid rd4; clear rd4 own4 O2 R2 hb5 hb3
  have S4 : w.heap.size ≤ w4.heap.size := hb6.size
  go_wp2_with (at_builtin; refine wpList_app sty22 (.tmp 20) (.tmp 22) rfl rfl w.heap.size O4.out rfl (n' + 4) c4 D4.out rfl (by rw [bv_length, CrcM.sealed_length, HL'.out]; omega) (bv_one _) (by unfold maxLen; omega) (by omega) S4 ?_; intro v5 w5 own5 gr5 nil5 at5)
  go_ret
  refine ⟨v5, rfl, own_eq own5 (by omega) ?_, hb6.grown gr5 S4 (fun g hg => (O4.out.lt g hg).1)⟩
  rw [← bv_append, frameL, HL'.out]
end Go.Proofs.Ytdmpimgbnhgiaaa

namespace Go.Proofs.Ytdmpimgbnhgiaaa
open Go.RowKit Go.St
set_option linter.unusedVariables false
set_option linter.unusedSimpArgs false
set_option maxRecDepth 100000

set_option maxHeartbeats 400000 in
theorem opened_short (A : Option Addr) (n c : Nat) (hn : n < 4) (w : World) :
    Calls Try.prog 89 #[.slice A n c] w fun e w' => e = .returned (.tuple #[.slice none 0 0, .bool false]) ∧ ∃ m, w' = w.drewN m := by
  have hd : decide (((n : Nat) : Int) - 4 < 0) = true := by simp; omega
  go_enter Try.func89, Try.ntmps89
  go_wp2
  go_quiet (fail)
  go_wp2
  go_ret2
  exact ⟨rfl, nq, rfl⟩
set_option maxHeartbeats 1000000 in
theorem opened_yes (A : Option Addr) (m c B : Nat) (bs : List UInt8) (hl : bs.length = m + 4) (hn : m + 4 ≤ 140737488355328) (hc : m + 4 ≤ c) (hs : CrcM.sealed (bs.take m) = bs) (w : World) (hr : Rd w B A (bv bs)) (hB : B ≤ w.heap.size) :
    Calls Try.prog 89 #[.slice A (m + 4) c] w fun e w' => ∃ v, e = .returned (.tuple #[v, .bool true]) ∧ w'.ownsRow w.heap.size 5 1 v m (bv (bs.take m)) ∧ Below w.heap.size w w' := by
  have hbe : (CrcM.sealed (List.take m bs) == bs) = true := by rw [hs]; exact beq_self_eq_true _
  clear hs
  have HL := Lib.hid hl; clear hl
  have HR := Lib.hid hr; clear hr
  have b1 : (0 : Int) ≤ (m : Int) := by omega
  have b2 : (m : Int) ≤ (c : Int) := by omega
  have b3 : decide ((m : Int) < 0) = false := by simp
  go_enter Try.func89, Try.ntmps89
  go_wp2
  have hc0 := conv_str (w := w.drew) 26 9 5 (m + 4) c Try.underlying26 Try.underlying5 Try.underlying9 (show Rd w.drew B A (bv bs) from HR.out) HL.out
  go_region_with (first | (go_at_call 84; refine (sealed_any A m c B (bs.take m) (by simp [HL.out]) (by omega) _ (by have := HR.out.take m; rwa [bv, ← List.map_take] at this) (by simp; omega)).mono ?_; rintro e w2 ⟨v2, rfl, own2, hb2⟩; obtain ⟨A2, c2, rfl, hr2⟩ := own_rd own2; have hcv := conv_str 26 9 5 (m + 4) c2 Try.underlying26 Try.underlying5 Try.underlying9 hr2 (by rw [CrcM.sealed_length]; simp [HL.out]); have hcw := conv_str 26 9 5 (m + 4) c Try.underlying26 Try.underlying5 Try.underlying9 (Rd.below (show Rd w.drew B A (bv bs) from HR.out) (hb2.mono hB)) HL.out))
  all_goals
    clear hcv hcw hc0 hr2 own2
    have hb3 : Below w.heap.size w w2 := (Below.refl _ _).drew.trans hb2
    clear hb2
    go_wp2_with (at_builtin; refine wpList_app sty22 _ (.tmp 22) rfl rfl w.heap.size (World.ownsRow_nil w2 _ _ _) rfl m c (news := bv (bs.take m)) (by have := (HR.out.below (hb3.mono hB)).take m; rwa [bv, ← List.map_take] at this) rfl (by rw [bv_length]; simp [HL.out]) (bv_one _) (by unfold maxLen; omega) (by omega) hb3.size ?_; intro v4 w4 own4 gr4 nil4 at4)
    go_ret2
    exact ⟨v4, rfl, own_eq own4 (by omega) rfl, hb3.grown gr4 hb3.size (by simp [Value.ownBlock])⟩

set_option maxHeartbeats 1000000 in
theorem opened_no (A : Option Addr) (m c B : Nat) (bs : List UInt8) (hl : bs.length = m + 4) (hn : m + 4 ≤ 140737488355328) (hc : m + 4 ≤ c) (hs : CrcM.sealed (bs.take m) ≠ bs) (w : World) (hr : Rd w B A (bv bs)) (hB : B ≤ w.heap.size) :
    Calls Try.prog 89 #[.slice A (m + 4) c] w fun e w' => e = .returned (.tuple #[.slice none 0 0, .bool false]) ∧ Below w.heap.size w w' := by
  have hbe : (CrcM.sealed (List.take m bs) == bs) = false := beq_eq_false_iff_ne.2 hs
  clear hs
  have HL := Lib.hid hl; clear hl
  have HR := Lib.hid hr; clear hr
  have b1 : (0 : Int) ≤ (m : Int) := by omega
  have b2 : (m : Int) ≤ (c : Int) := by omega
  have b3 : decide ((m : Int) < 0) = false := by simp
  go_enter Try.func89, Try.ntmps89
  go_wp2
  have hc0 := conv_str (w := w.drew) 26 9 5 (m + 4) c Try.underlying26 Try.underlying5 Try.underlying9 (show Rd w.drew B A (bv bs) from HR.out) HL.out
  go_region_with (first | (go_at_call 84; refine (sealed_any A m c B (bs.take m) (by simp [HL.out]) (by omega) _ (by have := HR.out.take m; rwa [bv, ← List.map_take] at this) (by simp; omega)).mono ?_; rintro e w2 ⟨v2, rfl, own2, hb2⟩; obtain ⟨A2, c2, rfl, hr2⟩ := own_rd own2; have hcv := conv_str 26 9 5 (m + 4) c2 Try.underlying26 Try.underlying5 Try.underlying9 hr2 (by rw [CrcM.sealed_length]; simp [HL.out]); have hcw := conv_str 26 9 5 (m + 4) c Try.underlying26 Try.underlying5 Try.underlying9 (Rd.below (show Rd w.drew B A (bv bs) from HR.out) (hb2.mono hB)) HL.out))
  all_goals
    clear hcv hcw hc0 hr2 own2
    have hb3 : Below w.heap.size w w2 := (Below.refl _ _).drew.trans hb2
    clear hb2
    go_wp2
    go_ret2
    exact ⟨rfl, hb3⟩
/-- Are bytes sealed ones? -/
def isOpen (bs : List UInt8) : Bool := decide (4 ≤ bs.length) && decide (CrcM.sealed (bs.take (bs.length - 4)) = bs)
/-- What stands ahead of the seal; nothing where there is none. -/
def openL (bs : List UInt8) : List UInt8 := if isOpen bs then bs.take (bs.length - 4) else []

theorem opened_any (A : Option Addr) (n c B : Nat) (bs : List UInt8) (hl : bs.length = n) (hn : n ≤ 140737488355328) (hc : n ≤ c) (w : World) (hr : Rd w B A (bv bs)) (hB : B ≤ w.heap.size) :
    Calls Try.prog 89 #[.slice A n c] w fun e w' => ∃ v, e = .returned (.tuple #[v, .bool (isOpen bs)]) ∧ w'.ownsRow w.heap.size 5 1 v (openL bs).length (bv (openL bs)) ∧ Below w.heap.size w w' := by
  by_cases h4 : 4 ≤ n
  · obtain ⟨m, rfl⟩ : ∃ m, n = m + 4 := ⟨n - 4, by omega⟩
    have e1 : bs.length - 4 = m := by omega
    by_cases hs : CrcM.sealed (bs.take m) = bs
    · have ho : isOpen bs = true := by unfold isOpen; rw [e1, decide_eq_true (by omega), decide_eq_true hs]; rfl
      have hx : openL bs = bs.take m := by unfold openL; rw [if_pos ho, e1]
      refine (opened_yes A m c B bs hl hn hc hs w hr hB).mono fun e w' ⟨v, he, ho', hb⟩ => ⟨v, by rw [ho]; exact he, ?_, hb⟩
      rw [hx]
      exact own_eq ho' (by simp; omega) rfl
    · have ho : isOpen bs = false := by unfold isOpen; rw [e1, decide_eq_false hs]; simp
      have hx : openL bs = [] := by unfold openL; rw [ho]; rfl
      refine (opened_no A m c B bs hl hn hc hs w hr hB).mono fun e w' ⟨he, hb⟩ => ⟨_, by rw [ho]; exact he, ?_, hb⟩
      rw [hx]
      exact World.ownsRow_nil _ _ _ _
  · have ho : isOpen bs = false := by unfold isOpen; rw [decide_eq_false (by omega)]; rfl
    have hx : openL bs = [] := by unfold openL; rw [ho]; rfl
    refine (opened_short A n c (by omega) w).mono fun e w' ⟨he, q, hw⟩ => ⟨_, by rw [ho]; exact he, ?_, ?_⟩
    · rw [hx]
      exact World.ownsRow_nil _ _ _ _
    · subst hw
      exact ⟨rfl, rfl, rfl, Nat.le_refl _, fun _ _ => rfl⟩
end Go.Proofs.Ytdmpimgbnhgiaaa

namespace Go.Proofs.Ytdmpimgbnhgiaaa
open Go.RowKit Go.St
set_option linter.unusedVariables false
set_option linter.unusedSimpArgs false
set_option maxRecDepth 100000

/-- The number that four bytes say. -/
def of4 : List UInt8 → Nat
  | a :: b :: c :: d :: _ => a.toNat + b.toNat * 256 + c.toNat * 65536 + d.toNat * 16777216
  | _ => 0
/-- The size that a frame's head says. -/
def rdSize (bs : List UInt8) : Nat := of4 bs
def bodyOf (bs : List UInt8) : List UInt8 := (bs.drop 8).take (rdSize bs + 4)
/-- What reading some bytes answers: the error's number. -/
def readE (bs : List UInt8) : Int :=
  if bs.length < 8 then 4
  else if isOpen (bs.take 8) = false then 6
  else if 1048576 < rdSize bs then 6
  else if bs.length < rdSize bs + 12 then 4
  else if isOpen (bodyOf bs) = false then 6
  else 0
def readN (bs : List UInt8) : Nat := if readE bs = 0 then rdSize bs + 12 else 0
def readL (bs : List UInt8) : List UInt8 := if readE bs = 0 then openL (bodyOf bs) else []

/-- What the contract of both says. -/
def RdPost (bs : List UInt8) (w : World) (e : Ending) (w' : World) : Prop :=
  ∃ v, e = .returned (.tuple #[v, .int .i64 (readN bs : Nat), .int .i64 (readE bs)]) ∧ w'.ownsRow w.heap.size 5 1 v (readL bs).length (bv (readL bs)) ∧ Below w.heap.size w w'

theorem rdPost_no {bs : List UInt8} {w w' : World} {e : Ending} (k : Int) (hk : k ≠ 0) (hr : readE bs = k) (he : e = .returned (.tuple #[.slice none 0 0, .int .i64 0, .int .i64 k])) (hb : Below w.heap.size w w') : RdPost bs w e w' := by
  subst hr
  refine ⟨_, by rw [readN, if_neg hk]; exact he, ?_, hb⟩
  rw [readL, if_neg hk]
  exact World.ownsRow_nil _ _ _ _

theorem openL_head (bs : List UInt8) (h8 : 8 ≤ bs.length) (ho : isOpen (bs.take 8) = true) : openL (bs.take 8) = bs.take 4 := by
  unfold openL
  rw [if_pos ho, List.take_take, List.length_take]
  congr 1
  omega
theorem openL_body (bs : List UInt8) (h : rdSize bs + 12 ≤ bs.length) (ho : isOpen (bodyOf bs) = true) : (openL (bodyOf bs)).length = rdSize bs := by
  unfold openL
  rw [if_pos ho]
  unfold bodyOf
  simp
  omega

set_option maxHeartbeats 1000000 in
theorem fread_any (A : Option Addr) (n c B : Nat) (bs : List UInt8) (hl : bs.length = n) (hn : n ≤ 140737488355328) (hc : n ≤ c) (w : World) (hr : Rd w B A (bv bs)) (hB : B ≤ w.heap.size) :
    Calls Try.prog 78 #[.slice A n c] w (RdPost bs w) := by
  by_cases h8 : n < 8
  · go_enter Try.func78, Try.ntmps78
    go_wp2
    go_ret3
    exact rdPost_no 4 (by decide) (by unfold readE; rw [if_pos (by omega)]) rfl (Below.refl _ _)
  have HL := Lib.hid hl
  have HR := Lib.hid hr; clear hr
  have i0 : (8 : Int) ≤ (n : Int) := by omega
  have i1 : (8 : Int) ≤ (c : Int) := by omega
  have hl8 : (bs.take 8).length = 8 := by rw [List.length_take]; omega
  have R8 : Hid (Rd w B A (bv (bs.take 8))) := by
    have := HR.out.take 8
    rwa [bv, ← List.map_take] at this
  have H8 := Lib.hid hl8; clear hl8
  clear hl
  cases ho : isOpen (bs.take 8) with
  | false =>
    have HO := Lib.hid ho; clear ho
    go_enter Try.func78, Try.ntmps78
    go_wp2_with fail
    refine (opened_any A 8 c B (bs.take 8) H8.out (by omega) (by omega) w R8.out hB).mono ?_
    rintro e w1 ⟨v1, rfl, own1, hb1⟩
    rw [HO.out]
    go_wp2
    go_ret3
    exact rdPost_no 6 (by decide) (by unfold readE; rw [if_neg (by rw [HL.out]; omega), if_pos HO.out]) rfl hb1
  | true =>
    obtain ⟨x0, x1, x2, x3, tl, hbs⟩ : ∃ x0 x1 x2 x3 tl, bs = x0 :: x1 :: x2 :: x3 :: tl := by
      match bs, HL.out with
      | x0 :: x1 :: x2 :: x3 :: tl, _ => exact ⟨x0, x1, x2, x3, tl, rfl⟩
      | [_, _, _], h => simp at h; omega
      | [_, _], h => simp at h; omega
      | [_], h => simp at h; omega
      | [], h => simp at h; omega
    have e4 : bs.take 4 = [x0, x1, x2, x3] := by rw [hbs]; rfl
    have hsz : rdSize bs = x0.toNat + x1.toNat * 256 + x2.toNat * 65536 + x3.toNat * 16777216 := by rw [hbs]; rfl
    have HSZ := Lib.hid hsz; clear hsz hbs
    have E4 := Lib.hid e4; clear e4
    have HO := Lib.hid ho; clear ho
    go_enter Try.func78, Try.ntmps78
    go_wp2_with fail
    refine (opened_any A 8 c B (bs.take 8) H8.out (by omega) (by omega) w R8.out hB).mono ?_
    rintro e w1 ⟨v1, rfl, own1, hb1⟩
    rw [openL_head bs (by rw [HL.out]; omega) HO.out, E4.out] at own1
    rw [HO.out]
    have own1 : w1.ownsRow w.heap.size 5 1 v1 4 (bv [x0, x1, x2, x3]) := own1
    obtain ⟨g1, c1, rfl, hnc1, hcm1, hg1, hg2⟩ := own_blk own1 (by omega)
    have k0 := own1.cellAt 0 (by omega)
    have k1 := own1.cellAt 1 (by omega)
    have k2 := own1.cellAt 2 (by omega)
    have k3 := own1.cellAt 3 (by omega)
    simp only [bv, bt, List.map_cons, List.getElem?_cons_zero, List.getElem?_cons_succ] at k0 k1 k2 k3
    have RR := Lib.hid (HR.out.below (hb1.mono hB))
    have S1 := hb1.size
    have l0 := x0.toNat_lt
    have l1 := x1.toNat_lt
    have l2 := x2.toNat_lt
    have l3 := x3.toNat_lt
    generalize x0.toNat = y0 at *
    generalize x1.toNat = y1 at *
    generalize x2.toNat = y2 at *
    generalize x3.toNat = y3 at *
    have m0 : (y0 : Int) % 4294967296 = (y0 : Int) := by omega
    have m1 : (y1 : Int) % 4294967296 = (y1 : Int) := by omega
    have m2 : (y2 : Int) % 4294967296 = (y2 : Int) := by omega
    have m3 : (y3 : Int) % 4294967296 = (y3 : Int) := by omega
    have t1 : (y1 : Int) * 256 % 4294967296 = (y1 : Int) * 256 := by omega
    have t2 : (y2 : Int) * 65536 % 4294967296 = (y2 : Int) * 65536 := by omega
    have t3 : (y3 : Int) * 16777216 % 4294967296 = (y3 : Int) * 16777216 := by omega
    have b1 := u32_or8 (y0 : Int) ((y1 : Int) * 256) (by omega) (by omega) (by omega) (by omega) (by omega)
    have b2 := u32_or16 ((y0 : Int) + (y1 : Int) * 256) ((y2 : Int) * 65536) (by omega) (by omega) (by omega) (by omega) (by omega)
    have b3 := u32_or24 ((y0 : Int) + (y1 : Int) * 256 + (y2 : Int) * 65536) ((y3 : Int) * 16777216) (by omega) (by omega) (by omega) (by omega) (by omega)
    have hu := uns32
    clear own1 hnc1 hcm1
    go_wp2
    go_quiet (fail)
    clear k0 k1 k2 k3 b1 b2 b3 t1 t2 t3 m0 m1 m2 m3
    have hs : (y0 : Int) + (y1 : Int) * 256 + (y2 : Int) * 65536 + (y3 : Int) * 16777216 = (rdSize bs : Nat) := by rw [HSZ.out]; omega
    rw [hs]
    have hz : rdSize bs < 4294967296 := by rw [HSZ.out]; omega
    clear hs HSZ l0 l1 l2 l3
    have hb2 : Below w.heap.size w (w1.drewN nq) := ⟨hb1.os, hb1.tape, hb1.output, hb1.size, hb1.block⟩
    by_cases hbig : 1048576 < rdSize bs
    · go_wp2
      go_ret3
      exact rdPost_no 6 (by decide) (by unfold readE; rw [if_neg (by rw [HL.out]; omega), if_neg (by rw [HO.out]; simp), if_pos hbig]) rfl hb2
    by_cases hsh : n < rdSize bs + 12
    · go_wp2
      go_ret3
      exact rdPost_no 4 (by decide) (by unfold readE; rw [if_neg (by rw [HL.out]; omega), if_neg (by rw [HO.out]; simp), if_neg hbig, if_pos (by rw [HL.out]; exact hsh)]) rfl hb2
    have hbl : (bodyOf bs).length = rdSize bs + 4 := by unfold bodyOf; rw [List.length_take, List.length_drop, HL.out]; omega
    obtain ⟨b, o, rfl, hbB, _⟩ := RR.out.at_ (bv_get bs 0 (by rw [HL.out]; omega))
    have RB : Hid (Rd (w1.drewN nq) B (some ⟨b, o + 8, none⟩) (bv (bodyOf bs))) := by
      have := ((RR.out.drop 8 (cap := c) (by rw [bv_length, HL.out]; exact hc)).take (rdSize bs + 4))
      rw [if_neg (by omega), bv, ← List.map_drop, ← List.map_take] at this
      exact this
    have HBL := Lib.hid hbl; clear hbl
    have S2 : w.heap.size ≤ (w1.drewN nq).heap.size := S1
    generalize w1.drewN nq = w2 at *
    go_wp2_with fail
    have en : 8 + rdSize bs - 4 = rdSize bs + 4 := by omega
    rw [en]
    refine (opened_any _ (rdSize bs + 4) (c - 8) _ (bodyOf bs) HBL.out (by omega) (by omega) _ RB.out (by omega)).mono ?_
    rintro e w3 ⟨v3, rfl, own3, hb3⟩
    have hb4 : Below w.heap.size w w3 := hb2.trans (hb3.mono S2)
    have O3 : Hid (w3.ownsRow w.heap.size 5 1 v3 (openL (bodyOf bs)).length (bv (openL (bodyOf bs)))) := own3.mono S2
    clear own3 hb3 hb2
    cases hop : isOpen (bodyOf bs) with
    | false =>
      have HP := Lib.hid hop; clear hop
      go_wp2
      go_ret3
      exact rdPost_no 6 (by decide) (by unfold readE; rw [if_neg (by rw [HL.out]; omega), if_neg (by rw [HO.out]; simp), if_neg hbig, if_neg (by rw [HL.out]; exact hsh), if_pos HP.out]) rfl hb4
    | true =>
      have HP := Lib.hid hop; clear hop
      have hE : readE bs = 0 := by unfold readE; rw [if_neg (by rw [HL.out]; omega), if_neg (by rw [HO.out]; simp), if_neg hbig, if_neg (by rw [HL.out]; exact hsh), if_neg (by rw [HP.out]; simp)]
      have HE := Lib.hid hE; clear hE
      go_wp2
      go_ret3
      refine ⟨v3, ?_, ?_, hb4⟩
      · rw [readN, if_pos HE.out, HE.out, show ((rdSize bs + 12 : Nat) : Int) = ((8 : Int) + (rdSize bs : Nat) + 4) by omega]
        rfl
      · rw [readL, if_pos HE.out]
        exact O3.out
end Go.Proofs.Ytdmpimgbnhgiaaa
