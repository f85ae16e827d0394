/- Plain facts on the 32-bit register of a reflected checksum: linear, injective, bursts. No program in sight. -/
namespace CrcM

/-- One shift of the register. -/
def cstep (s : Nat) : Nat := if s % 2 = 1 then (s / 2) ^^^ 2197175160 else s / 2

def citer : Nat → Nat → Nat
  | 0, s => s
  | n + 1, s => citer n (cstep s)

def cbyte (s c : Nat) : Nat := citer 8 (s ^^^ c)

def crun (s : Nat) (l : List UInt8) : Nat := l.foldl (fun s c => cbyte s c.toNat) s

def cmore (sum : Nat) (l : List UInt8) : Nat := 4294967295 - crun (4294967295 - sum) l

theorem citer_add (m n s : Nat) : citer (m + n) s = citer n (citer m s) := by
  induction m generalizing s with
  | zero => simp [citer]
  | succ m ih => rw [Nat.succ_add]; exact ih (cstep s)

theorem citer_last (n s : Nat) : citer (n + 1) s = cstep (citer n s) := by
  rw [citer_add n 1]; rfl

theorem xor_div (a b : Nat) : (a ^^^ b) / 2 = (a / 2) ^^^ (b / 2) := by
  apply Nat.eq_of_testBit_eq
  intro i
  simp [Nat.testBit_xor, ← Nat.testBit_succ]

theorem xor_mod (a b : Nat) : (a ^^^ b) % 2 = (a % 2 + b % 2) % 2 := by
  have h := Nat.xor_mod_two_pow (a := a) (b := b) (n := 1)
  rw [show 2 ^ 1 = 2 from rfl] at h
  rw [h]
  rcases Nat.mod_two_eq_zero_or_one a with ha | ha <;> rcases Nat.mod_two_eq_zero_or_one b with hb | hb <;> rw [ha, hb] <;> rfl

theorem cstep_lt (s : Nat) (h : s < 4294967296) : cstep s < 4294967296 := by
  unfold cstep
  split
  · exact Nat.xor_lt_two_pow (n := 32) (by omega) (by decide)
  · omega

theorem citer_lt (n s : Nat) (h : s < 4294967296) : citer n s < 4294967296 := by
  induction n generalizing s with
  | zero => exact h
  | succ n ih => exact ih _ (cstep_lt s h)

theorem u8_lt (c : UInt8) : c.toNat < 256 := c.toNat_lt

theorem cbyte_lt (s c : Nat) (h : s < 4294967296) (hc : c < 256) : cbyte s c < 4294967296 :=
  citer_lt _ _ (Nat.xor_lt_two_pow (n := 32) (by omega) (by omega))

theorem crun_lt (l : List UInt8) (s : Nat) (h : s < 4294967296) : crun s l < 4294967296 := by
  induction l generalizing s with
  | nil => exact h
  | cons c l ih => exact ih _ (cbyte_lt _ _ h (by have := u8_lt c; omega))

theorem crun_append (s : Nat) (a b : List UInt8) : crun s (a ++ b) = crun (crun s a) b := by
  unfold crun; rw [List.foldl_append]

theorem crun_snoc (s : Nat) (a : List UInt8) (c : UInt8) : crun s (a ++ [c]) = cbyte (crun s a) c.toNat := by
  rw [crun_append]; rfl

theorem cstep_zero : cstep 0 = 0 := by decide
theorem citer_zero (n : Nat) : citer n 0 = 0 := by
  induction n with
  | zero => rfl
  | succ n ih => exact ih

theorem cstep_xor (a b : Nat) : cstep (a ^^^ b) = cstep a ^^^ cstep b := by
  unfold cstep
  rw [xor_mod, xor_div]
  rcases Nat.mod_two_eq_zero_or_one a with ha | ha <;> rcases Nat.mod_two_eq_zero_or_one b with hb | hb <;> simp only [ha, hb] <;> simp
  · rw [Nat.xor_assoc]
  · rw [Nat.xor_assoc, Nat.xor_assoc, Nat.xor_comm (b / 2)]
  · rw [Nat.xor_assoc, ← Nat.xor_assoc 2197175160, Nat.xor_comm 2197175160 (b / 2), Nat.xor_assoc (b / 2), Nat.xor_self, Nat.xor_zero]

theorem citer_xor (n a b : Nat) : citer n (a ^^^ b) = citer n a ^^^ citer n b := by
  induction n generalizing a b with
  | zero => rfl
  | succ n ih => show citer n _ = citer n _ ^^^ citer n _; rw [cstep_xor, ih]

theorem cstep_eq_zero (c : Nat) (h : c < 4294967296) (e : cstep c = 0) : c = 0 := by
  unfold cstep at e
  split at e
  · have h2 : c / 2 = 2197175160 := by
      have := congrArg (· ^^^ 2197175160) e
      simpa [Nat.xor_assoc] using this
    omega
  · omega

theorem citer_eq_zero (n c : Nat) (h : c < 4294967296) (e : citer n c = 0) : c = 0 := by
  induction n generalizing c with
  | zero => exact e
  | succ n ih => exact cstep_eq_zero c h (ih _ (cstep_lt c h) e)

theorem xor_eq_zero {a b : Nat} (h : a ^^^ b = 0) : a = b := by
  have := congrArg (· ^^^ b) h
  simpa [Nat.xor_assoc] using this

theorem citer_inj (n a b : Nat) (ha : a < 4294967296) (hb : b < 4294967296) (e : citer n a = citer n b) : a = b := by
  have h : citer n (a ^^^ b) = 0 := by rw [citer_xor, e, Nat.xor_self]
  exact xor_eq_zero (citer_eq_zero n _ (Nat.xor_lt_two_pow (n := 32) (by omega) (by omega)) h)

/-! ## The sum of a xor -/
theorem not_xor (a : Nat) (h : a < 4294967296) : 4294967295 - a = 4294967295 ^^^ a := by
  apply Nat.eq_of_testBit_eq
  intro i
  have h1 : Nat.testBit 4294967295 i = decide (i < 32) := by
    rw [show 4294967295 = 2 ^ 32 - 1 by decide, Nat.testBit_two_pow_sub_one]
  have h2 := Nat.testBit_two_pow_sub_succ (n := 32) (x := a) (by omega) i
  rw [show 4294967295 - a = 2 ^ 32 - (a + 1) by omega, h2, Nat.testBit_xor, h1]
  by_cases hi : i < 32
  · simp [hi]
  · have : a.testBit i = false := Nat.testBit_lt_two_pow (Nat.lt_of_lt_of_le h (by
      have : 2 ^ 32 ≤ 2 ^ i := Nat.pow_le_pow_right (by omega) (by omega)
      simpa using this))
    simp [hi, this]

theorem cbyte_xor (s t c d : Nat) : cbyte (s ^^^ t) (c ^^^ d) = cbyte s c ^^^ cbyte t d := by
  unfold cbyte
  rw [← citer_xor]
  congr 1
  apply Nat.eq_of_testBit_eq
  intro i
  simp only [Nat.testBit_xor]
  cases s.testBit i <;> cases t.testBit i <;> cases c.testBit i <;> cases d.testBit i <;> rfl

/-- Two lists of bytes, one on the other. -/
def lxor (a b : List UInt8) : List UInt8 := List.zipWith (· ^^^ ·) a b

theorem crun_lxor (a b : List UInt8) (h : a.length = b.length) (s t : Nat) : crun (s ^^^ t) (lxor a b) = crun s a ^^^ crun t b := by
  induction a generalizing b s t with
  | nil =>
    cases b with
    | nil => rfl
    | cons => simp at h
  | cons c a ih =>
    cases b with
    | nil => simp at h
    | cons d b =>
      show crun (cbyte (s ^^^ t) (c ^^^ d).toNat) (lxor a b) = crun (cbyte s c.toNat) a ^^^ crun (cbyte t d.toNat) b
      rw [UInt8.toNat_xor, cbyte_xor]
      exact ih b (by simpa using h) _ _

theorem cmore_xor3 (a b c : List UInt8) (h1 : a.length = b.length) (h2 : b.length = c.length) :
    cmore 0 (lxor (lxor a b) c) = (cmore 0 a ^^^ cmore 0 b) ^^^ cmore 0 c := by
  have hl : ∀ l : List UInt8, cmore 0 l = 4294967295 ^^^ crun 4294967295 l := fun l => by
    unfold cmore; exact not_xor _ (crun_lt l _ (by decide))
  rw [hl, hl, hl, hl]
  have e : (4294967295 : Nat) = (4294967295 ^^^ 4294967295) ^^^ 4294967295 := by decide
  have hr : crun 4294967295 (lxor (lxor a b) c) = (crun 4294967295 a ^^^ crun 4294967295 b) ^^^ crun 4294967295 c := by
    have e1 := crun_lxor (lxor a b) c (by simp [lxor, h1, h2]) (4294967295 ^^^ 4294967295) 4294967295
    have e2 := crun_lxor a b h1 4294967295 4294967295
    rw [e2] at e1
    rw [← e1, ← e]
  rw [hr]
  generalize crun 4294967295 a = x
  generalize crun 4294967295 b = y
  generalize crun 4294967295 c = z
  generalize 4294967295 = k
  apply Nat.eq_of_testBit_eq
  intro i
  simp only [Nat.testBit_xor]
  cases x.testBit i <;> cases y.testBit i <;> cases z.testBit i <;> cases k.testBit i <;> rfl

theorem cmore_lt (s : Nat) (l : List UInt8) : cmore s l < 4294967296 := by unfold cmore; omega

theorem cmore_append (a b : List UInt8) : cmore (cmore 0 a) b = cmore 0 (a ++ b) := by
  unfold cmore
  rw [crun_append]
  have := crun_lt a 4294967295 (by decide)
  congr 2
  show 4294967295 - (4294967295 - crun 4294967295 a) = crun 4294967295 a
  omega


/-! ## Altered bytes -/
theorem cbyte_split (s t c : Nat) : cbyte (s ^^^ t) c = cbyte s c ^^^ citer 8 t := by
  unfold cbyte
  rw [← citer_xor]
  congr 1
  rw [Nat.xor_assoc, Nat.xor_comm t c, ← Nat.xor_assoc]

theorem crun_state (l : List UInt8) (s t : Nat) : crun (s ^^^ t) l = crun s l ^^^ citer (8 * l.length) t := by
  induction l generalizing s t with
  | nil => rfl
  | cons c l ih =>
    show crun (cbyte (s ^^^ t) c.toNat) l = crun (cbyte s c.toNat) l ^^^ citer (8 * (l.length + 1)) t
    rw [cbyte_split, ih, show 8 * (l.length + 1) = 8 + 8 * l.length by omega, citer_add 8]

theorem crun_modify (l : List UInt8) (q : Nat) (c : UInt8) (s : Nat) (h : q < l.length) :
    crun s (l.modify q (· ^^^ c)) = crun s l ^^^ citer (8 * (l.length - q)) c.toNat := by
  induction l generalizing q s with
  | nil => simp at h
  | cons d l ih =>
    cases q with
    | zero =>
      show crun (cbyte s (d ^^^ c).toNat) l = crun (cbyte s d.toNat) l ^^^ citer (8 * (l.length + 1 - 0)) c.toNat
      have e : cbyte s (d ^^^ c).toNat = cbyte s d.toNat ^^^ citer 8 c.toNat := by
        rw [UInt8.toNat_xor]
        unfold cbyte
        rw [← Nat.xor_assoc, citer_xor]
      rw [e, crun_state, show 8 * (l.length + 1 - 0) = 8 + 8 * l.length by omega, citer_add 8]
    | succ q =>
      have h' : q < l.length := by simpa using h
      have := ih q (cbyte s d.toNat) h'
      rw [show (d :: l).length - (q + 1) = l.length - q by simp]
      exact this

theorem citer_pow (i x : Nat) : citer i (x * 2 ^ i) = x := by
  induction i with
  | zero => simp [citer]
  | succ i ih =>
    show citer i (cstep (x * 2 ^ (i + 1))) = x
    have e : cstep (x * 2 ^ (i + 1)) = x * 2 ^ i := by
      unfold cstep
      rw [Nat.pow_succ, ← Nat.mul_assoc]
      rw [if_neg (by omega)]
      omega
    rw [e, ih]

/-- One bit turned. -/
def turnBit (l : List UInt8) (p : Nat) : List UInt8 := l.modify (p / 8) (· ^^^ UInt8.ofNat (2 ^ (p % 8)))

theorem turnBit_length (l : List UInt8) (p : Nat) : (turnBit l p).length = l.length := by simp [turnBit]

theorem ofNat_pow (r : Nat) (h : r < 8) : (UInt8.ofNat (2 ^ r)).toNat = 2 ^ r := by
  have : 2 ^ r < 256 := by
    have := Nat.pow_lt_pow_right (a := 2) (by decide) h
    simpa using this
  simp [UInt8.toNat_ofNat']; omega

theorem crun_turnBit (l : List UInt8) (p s : Nat) (h : p < 8 * l.length) : crun s (turnBit l p) = crun s l ^^^ citer (8 * l.length - p) 1 := by
  unfold turnBit
  rw [crun_modify _ _ _ _ (by omega), ofNat_pow _ (by omega)]
  congr 1
  rw [show 8 * (l.length - p / 8) = p % 8 + (8 * l.length - p) by omega, citer_add]
  congr 1
  have := citer_pow (p % 8) 1
  simpa using this

/-- The bits of a number turned, from a place on. -/
def turnTo (l : List UInt8) (at_ bits : Nat) : Nat → List UInt8
  | 0 => l
  | k + 1 => if bits.testBit k then turnBit (turnTo l at_ bits k) (at_ + k) else turnTo l at_ bits k

theorem turnTo_length (l : List UInt8) (a b k : Nat) : (turnTo l a b k).length = l.length := by
  induction k with
  | zero => rfl
  | succ k ih => unfold turnTo; split <;> simp [turnBit_length, ih]

theorem mod_succ_bit (b k : Nat) : b % 2 ^ (k + 1) = b % 2 ^ k ^^^ (if b.testBit k then 2 ^ k else 0) := by
  apply Nat.eq_of_testBit_eq
  intro i
  rw [Nat.testBit_mod_two_pow, Nat.testBit_xor, Nat.testBit_mod_two_pow]
  by_cases hb : b.testBit k
  · simp only [hb, if_true, Nat.testBit_two_pow]
    by_cases h : i = k
    · subst h; simp [hb]
    · have : ¬ k = i := fun e => h e.symm
      simp only [this, decide_false, Bool.xor_false]
      congr 1
      simp; omega
  · simp only [hb, Bool.false_eq_true, if_false, Nat.zero_testBit, Bool.xor_false]
    by_cases h : i = k
    · subst h; simp [hb]
    · congr 1; simp; omega

theorem crun_turnTo (l : List UInt8) (at_ bits k s : Nat) (h : at_ + k ≤ 8 * l.length) :
    crun s (turnTo l at_ bits k) = crun s l ^^^ citer (8 * l.length - at_) (bits % 2 ^ k) := by
  induction k with
  | zero => simp [turnTo, Nat.mod_one, citer_zero]
  | succ k ih =>
    rw [mod_succ_bit, citer_xor]
    unfold turnTo
    split
    · rename_i hb
      rw [crun_turnBit _ _ _ (by rw [turnTo_length]; omega), ih (by omega), turnTo_length, Nat.xor_assoc]
      congr 2
      rw [show 8 * l.length - at_ = k + (8 * l.length - (at_ + k)) by omega, citer_add]
      have := citer_pow k 1
      rw [Nat.one_mul] at this
      rw [this]
    · rw [ih (by omega), citer_zero, Nat.xor_zero]

/-! ## What is sealed -/
def le32 (x : Nat) : List UInt8 := [UInt8.ofNat x, UInt8.ofNat (x / 256), UInt8.ofNat (x / 65536), UInt8.ofNat (x / 16777216)]
def sealed (l : List UInt8) : List UInt8 := l ++ le32 (cmore 0 l)

theorem le32_length (x : Nat) : (le32 x).length = 4 := rfl
theorem sealed_length (l : List UInt8) : (sealed l).length = l.length + 4 := by simp [sealed, le32_length]

theorem xor_low (a b : Nat) (k : Nat) (ha : a < 2 ^ k) : a ^^^ (b * 2 ^ k) = a + b * 2 ^ k := by
  rw [Nat.mul_comm b, Nat.add_comm, Nat.two_pow_add_eq_or_of_lt ha]
  apply Nat.eq_of_testBit_eq
  intro i
  rw [Nat.testBit_xor, Nat.testBit_or, Nat.testBit_two_pow_mul]
  by_cases h : k ≤ i
  · have : a.testBit i = false := Nat.testBit_lt_two_pow (Nat.lt_of_lt_of_le ha (Nat.pow_le_pow_right (by omega) h))
    simp [this]
  · simp [h]

theorem crun_four (s : Nat) (a b c d : UInt8) : crun s [a, b, c, d] = citer 32 (s ^^^ (a.toNat + b.toNat * 256 + c.toNat * 65536 + d.toNat * 16777216)) := by
  have ha := u8_lt a
  have hb := u8_lt b
  have hc := u8_lt c
  have hd := u8_lt d
  have e1 := xor_low a.toNat b.toNat 8 (by omega)
  have e2 := xor_low (a.toNat + b.toNat * 2 ^ 8) c.toNat 16 (by omega)
  have e3 := xor_low (a.toNat + b.toNat * 2 ^ 8 + c.toNat * 2 ^ 16) d.toNat 24 (by omega)
  have e : a.toNat + b.toNat * 256 + c.toNat * 65536 + d.toNat * 16777216 = ((a.toNat ^^^ (b.toNat * 2 ^ 8)) ^^^ (c.toNat * 2 ^ 16)) ^^^ (d.toNat * 2 ^ 24) := by
    rw [e1, e2, e3]
  rw [e]
  show cbyte (cbyte (cbyte (cbyte s a.toNat) b.toNat) c.toNat) d.toNat = _
  unfold cbyte
  have p1 := citer_pow 8 b.toNat
  have p2 := citer_pow 16 c.toNat
  have p3 := citer_pow 24 d.toNat
  have k1 : citer 8 (s ^^^ a.toNat) ^^^ b.toNat = citer 8 (s ^^^ (a.toNat ^^^ (b.toNat * 2 ^ 8))) := by
    rw [← Nat.xor_assoc, citer_xor 8 (s ^^^ a.toNat), p1]
  rw [k1, ← citer_add 8 8]
  have k2 : citer (8 + 8) (s ^^^ (a.toNat ^^^ (b.toNat * 2 ^ 8))) ^^^ c.toNat = citer 16 (s ^^^ ((a.toNat ^^^ (b.toNat * 2 ^ 8)) ^^^ (c.toNat * 2 ^ 16))) := by
    conv => rhs; rw [← Nat.xor_assoc s, citer_xor, p2]
  rw [k2, ← citer_add 16 8]
  have k3 : citer (16 + 8) (s ^^^ ((a.toNat ^^^ (b.toNat * 2 ^ 8)) ^^^ (c.toNat * 2 ^ 16))) ^^^ d.toNat = citer 24 (s ^^^ (((a.toNat ^^^ (b.toNat * 2 ^ 8)) ^^^ (c.toNat * 2 ^ 16)) ^^^ (d.toNat * 2 ^ 24))) := by
    conv => rhs; rw [← Nat.xor_assoc s, citer_xor, p3]
  rw [k3, ← citer_add 24 8]

theorem toNat_ofNat (x : Nat) : (UInt8.ofNat x).toNat = x % 256 := by simp [UInt8.toNat_ofNat']

theorem le32_eq (x : Nat) (hx : x < 4294967296) (a b c d : UInt8) :
    [a, b, c, d] = le32 x ↔ a.toNat + b.toNat * 256 + c.toNat * 65536 + d.toNat * 16777216 = x := by
  have ha := u8_lt a
  have hb := u8_lt b
  have hc := u8_lt c
  have hd := u8_lt d
  unfold le32
  simp only [List.cons.injEq, and_true, ← UInt8.toNat_inj, toNat_ofNat]
  constructor
  · rintro ⟨h1, h2, h3, h4⟩
    omega
  · intro h
    refine ⟨by omega, by omega, by omega, by omega⟩

/-- Bytes are sealed ones. -/
def isSealed (l : List UInt8) : Prop := 4 ≤ l.length ∧ sealed (l.take (l.length - 4)) = l

theorem four_of (l : List UInt8) (h : l.length = 4) : ∃ a b c d, l = [a, b, c, d] := by
  match l, h with
  | [a, b, c, d], _ => exact ⟨a, b, c, d, rfl⟩

theorem isSealed_iff (l : List UInt8) (h : 4 ≤ l.length) : sealed (l.take (l.length - 4)) = l ↔ crun 4294967295 l = citer 32 4294967295 := by
  obtain ⟨a, b, c, d, hd⟩ := four_of (l.drop (l.length - 4)) (by simp; omega)
  generalize hp : l.take (l.length - 4) = p
  have hl : l = p ++ [a, b, c, d] := by rw [← hp, ← hd, List.take_append_drop]
  have hs := crun_lt p 4294967295 (by decide)
  rw [hl, crun_append, crun_four]
  unfold sealed
  rw [List.append_right_inj, eq_comm, le32_eq _ (cmore_lt _ _)]
  have ha := u8_lt a
  have hb := u8_lt b
  have hc := u8_lt c
  have hd := u8_lt d
  have e : cmore 0 p = 4294967295 ^^^ crun 4294967295 p := not_xor _ hs
  rw [e]
  generalize hx : a.toNat + b.toNat * 256 + c.toNat * 65536 + d.toNat * 16777216 = x
  have hxl : x < 4294967296 := by omega
  generalize hs' : crun 4294967295 p = s
  rw [hs'] at hs
  constructor
  · rintro rfl
    congr 1
    rw [Nat.xor_comm 4294967295, ← Nat.xor_assoc, Nat.xor_self, Nat.zero_xor]
  · intro h
    have := citer_inj 32 _ _ (Nat.xor_lt_two_pow (n := 32) (by omega) (by omega)) (by decide) h
    rw [← this, Nat.xor_comm s x, Nat.xor_assoc, Nat.xor_self, Nat.xor_zero]

theorem sealed_isSealed (l : List UInt8) : crun 4294967295 (sealed l) = citer 32 4294967295 := by
  refine (isSealed_iff (sealed l) (by rw [sealed_length]; omega)).1 ?_
  rw [sealed_length]
  simp [sealed]

/-- A list that differs from a sealed one by an error that the register sees is no sealed one. -/
theorem not_sealed_of (l m : List UInt8) (x : Nat) (n : Nat) (hm : 4 ≤ m.length) (hx : x < 4294967296) (h0 : x ≠ 0)
    (h : crun 4294967295 m = crun 4294967295 (sealed l) ^^^ citer n x) : sealed (m.take (m.length - 4)) ≠ m := by
  intro e
  have h1 := (isSealed_iff m hm).1 e
  rw [sealed_isSealed, h1] at h
  have h2 : citer n x = 0 := by
    have := congrArg (citer 32 4294967295 ^^^ ·) h
    simp only [← Nat.xor_assoc, Nat.xor_self, Nat.zero_xor] at this
    exact this.symm
  exact h0 (citer_eq_zero n x hx h2)

/-- One byte altered. -/
theorem altered_byte (l : List UInt8) (q : Nat) (c : UInt8) (hq : q < l.length + 4) (hc : c ≠ 0) :
    sealed (((sealed l).modify q (· ^^^ c)).take (l.length)) ≠ (sealed l).modify q (· ^^^ c) := by
  have h := not_sealed_of l ((sealed l).modify q (· ^^^ c)) c.toNat (8 * ((sealed l).length - q)) (by simp [sealed_length]) (by have := u8_lt c; omega)
    (fun e => hc (UInt8.toNat_inj.1 (by simpa using e))) (crun_modify _ _ _ _ (by rw [sealed_length]; exact hq))
  simpa [sealed_length] using h

/-- A burst of at most 32 bits. -/
theorem altered_burst (l : List UInt8) (at_ bits k : Nat) (hk : at_ + k ≤ 8 * (l.length + 4)) (hb : bits < 2 ^ k) (hb2 : bits < 4294967296) (h0 : bits ≠ 0) :
    sealed ((turnTo (sealed l) at_ bits k).take l.length) ≠ turnTo (sealed l) at_ bits k := by
  have h := not_sealed_of l (turnTo (sealed l) at_ bits k) bits (8 * (sealed l).length - at_) (by rw [turnTo_length, sealed_length]; omega) hb2 h0
    (by rw [crun_turnTo _ _ _ _ _ (by rw [sealed_length]; omega), Nat.mod_eq_of_lt hb])
  simpa [turnTo_length, sealed_length] using h

end CrcM
