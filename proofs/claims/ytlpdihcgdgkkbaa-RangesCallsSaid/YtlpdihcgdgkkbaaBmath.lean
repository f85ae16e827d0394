/- Filters in plain Lean. -/
namespace Go.St

def hmul : Nat := 1099511628211
def hmod : Nat := 18446744073709551616
def hini : Nat := 14695981039346656037
def hstep (h c : Nat) : Nat := ((h ^^^ c) * hmul) % hmod
def hrun (h : Nat) (l : List UInt8) : Nat := l.foldl (fun h c => hstep h c.toNat) h
def bhash (l : List UInt8) : Nat := hrun hini l
theorem hmod_pos : 0 < hmod := by unfold hmod; omega
theorem hini_lt : hini < hmod := by unfold hini hmod; omega
theorem hstep_lt (h c : Nat) : hstep h c < hmod := by unfold hstep; exact Nat.mod_lt _ hmod_pos
theorem hrun_nil (h : Nat) : hrun h [] = h := rfl
theorem hrun_cons (h : Nat) (c : UInt8) (l : List UInt8) : hrun h (c :: l) = hrun (hstep h c.toNat) l := by unfold hrun; rw [List.foldl_cons]
theorem hrun_snoc (h : Nat) (l : List UInt8) (c : UInt8) : hrun h (l ++ [c]) = hstep (hrun h l) c.toNat := by unfold hrun; rw [List.foldl_append, List.foldl_cons, List.foldl_nil]
theorem hrun_lt (l : List UInt8) : ∀ h, h < hmod → hrun h l < hmod := by
  induction l with
  | nil => intro h hh; rw [hrun_nil]; exact hh
  | cons c l ih => intro h _; rw [hrun_cons]; exact ih _ (hstep_lt _ _)
theorem bhash_lt (l : List UInt8) : bhash l < hmod := by unfold bhash; exact hrun_lt l _ hini_lt

/-- A key's bit of round i, of m. -/
def bplace (h i m : Nat) : Nat := ((h % 4294967296 + i * (h / 4294967296 ||| 1)) % hmod) % m
theorem bplace_lt (h i m : Nat) (hm : 0 < m) : bplace h i m < m := Nat.mod_lt _ hm

/-- The rounds' bits of a key's hash. -/
def bplaces (h k m : Nat) : List Nat := (List.range k).map fun i => bplace h i m
/-- Is a bit set? (The list: how many rounds, then the bits.) -/
def bget (f : List UInt8) (p : Nat) : Bool := (f.getD (1 + p / 8) 0).toNat / 2 ^ (p % 8) % 2 == 1
/-- A bit, set. -/
def bset (f : List UInt8) (p : Nat) : List UInt8 := f.modify (1 + p / 8) (· ||| UInt8.ofNat (2 ^ (p % 8)))
def bkey (f : List UInt8) (key : List UInt8) : List UInt8 := (bplaces (bhash key) (f.getD 0 0).toNat (8 * (f.length - 1))).foldl bset f
def ball (f : List UInt8) (key : List UInt8) : Bool := (bplaces (bhash key) (f.getD 0 0).toNat (8 * (f.length - 1))).all (bget f)

theorem bset_length (f : List UInt8) (p : Nat) : (bset f p).length = f.length := by simp [bset]
theorem bset_head (f : List UInt8) (p : Nat) : (bset f p).getD 0 0 = f.getD 0 0 := by
  unfold bset
  rw [List.getD_eq_getElem?_getD, List.getD_eq_getElem?_getD, List.getElem?_modify]
  simp
theorem or_bit (x : UInt8) (j i : Nat) (hj : j < 8) : (x ||| UInt8.ofNat (2 ^ j)).toNat / 2 ^ i % 2 = if i = j then 1 else x.toNat / 2 ^ i % 2 := by
  rw [UInt8.toNat_or, UInt8.toNat_ofNat', ← Nat.toNat_testBit, ← Nat.toNat_testBit, Nat.testBit_or]
  have e : 2 ^ j % 2 ^ 8 = 2 ^ j := Nat.mod_eq_of_lt (Nat.pow_lt_pow_right (by omega) hj)
  rw [e, Nat.testBit_two_pow]
  by_cases h : i = j
  · subst h; simp
  · have h2 : ¬ j = i := fun k => h k.symm
    simp [h, h2]
theorem bget_bset (f : List UInt8) (p q : Nat) (hp : 1 + p / 8 < f.length) : bget (bset f p) q = (bget f q || q == p) := by
  unfold bget bset
  rw [List.getD_eq_getElem?_getD, List.getD_eq_getElem?_getD, List.getElem?_modify]
  by_cases h : 1 + p / 8 = 1 + q / 8
  · simp only [h, if_true]
    have hq : 1 + q / 8 < f.length := by omega
    rw [List.getElem?_eq_getElem hq]
    simp only [Option.map_eq_map, Option.map_some, Option.getD_some]
    rw [or_bit _ _ _ (Nat.mod_lt _ (by omega))]
    by_cases e : q = p
    · subst e; simp
    · have h2 : ¬ q % 8 = p % 8 := by omega
      rw [if_neg h2]
      simp [e]
  · have e : ¬ q = p := by rintro rfl; exact h rfl
    have h2 : ¬ p / 8 = q / 8 := by omega
    simp [e, h2]
theorem bsets_length (l : List Nat) : ∀ f, (l.foldl bset f).length = f.length := by
  induction l with
  | nil => intro f; rfl
  | cons p l ih => intro f; rw [List.foldl_cons, ih, bset_length]
theorem bsets_head (l : List Nat) : ∀ f, (l.foldl bset f).getD 0 0 = f.getD 0 0 := by
  induction l with
  | nil => intro f; rfl
  | cons p l ih => intro f; rw [List.foldl_cons, ih, bset_head]
theorem bsets_get (l : List Nat) : ∀ f, (∀ p ∈ l, 1 + p / 8 < f.length) → ∀ q, bget (l.foldl bset f) q = (bget f q || l.contains q) := by
  induction l with
  | nil => intro f _ q; simp
  | cons p l ih =>
    intro f hf q
    rw [List.foldl_cons, ih _ (fun p' hp' => by rw [bset_length]; exact hf p' (by simp [hp'])), bget_bset _ _ _ (hf p (by simp))]
    rw [List.contains_cons, Bool.or_assoc]
theorem bkey_length (f key : List UInt8) : (bkey f key).length = f.length := bsets_length _ _
theorem bkey_head (f key : List UInt8) : (bkey f key).getD 0 0 = f.getD 0 0 := bsets_head _ _
theorem bplaces_mem {h k m q : Nat} (hm : 0 < m) (hq : q ∈ bplaces h k m) : q < m := by
  obtain ⟨i, _, rfl⟩ := List.mem_map.1 hq
  exact bplace_lt _ _ _ hm
theorem bkey_get (f key : List UInt8) (hf : 2 ≤ f.length) (q : Nat) : bget (bkey f key) q = (bget f q || (bplaces (bhash key) (f.getD 0 0).toNat (8 * (f.length - 1))).contains q) :=
  bsets_get _ _ (fun p hp => by have := bplaces_mem (by omega) hp; omega) q
/-- What a filter has it keeps, whatever key is added. -/
theorem ball_bkey (f key x : List UInt8) (hf : 2 ≤ f.length) (h : ball f x = true) : ball (bkey f key) x = true := by
  unfold ball at *
  rw [bkey_head, bkey_length]
  rw [List.all_eq_true] at *
  intro q hq
  rw [bkey_get f key hf, h q hq, Bool.true_or]
theorem ball_self (f key : List UInt8) (hf : 2 ≤ f.length) : ball (bkey f key) key = true := by
  unfold ball
  rw [bkey_head, bkey_length, List.all_eq_true]
  intro q hq
  rw [bkey_get f key hf]
  have : (bplaces (bhash key) (f.getD 0 0).toNat (8 * (f.length - 1))).contains q = true := by simpa using hq
  rw [this, Bool.or_true]
/-- A filter of keys, of so many rounds and bytes. -/
def bnew (k size : Nat) : List UInt8 := UInt8.ofNat k :: List.replicate size 0
def bof (k size : Nat) (keys : List (List UInt8)) : List UInt8 := keys.foldl bkey (bnew k size)
theorem bfold_length (keys : List (List UInt8)) : ∀ f, (keys.foldl bkey f).length = f.length := by
  induction keys with
  | nil => intro f; rfl
  | cons p l ih => intro f; rw [List.foldl_cons, ih, bkey_length]
theorem bfold_head (keys : List (List UInt8)) : ∀ f, (keys.foldl bkey f).getD 0 0 = f.getD 0 0 := by
  induction keys with
  | nil => intro f; rfl
  | cons p l ih => intro f; rw [List.foldl_cons, ih, bkey_head]
theorem bof_length (k size : Nat) (keys : List (List UInt8)) : (bof k size keys).length = size + 1 := by unfold bof; rw [bfold_length]; simp [bnew]
theorem bof_head (k size : Nat) (keys : List (List UInt8)) : (bof k size keys).getD 0 0 = UInt8.ofNat k := by unfold bof; rw [bfold_head]; rfl
theorem bfold_keep (keys : List (List UInt8)) : ∀ f x, 2 ≤ f.length → ball f x = true → ball (keys.foldl bkey f) x = true := by
  induction keys with
  | nil => intro f x _ h; exact h
  | cons p l ih => intro f x hf h; exact ih _ x (by rw [bkey_length]; exact hf) (ball_bkey f p x hf h)
theorem bfold_all (keys : List (List UInt8)) : ∀ f, 2 ≤ f.length → ∀ x ∈ keys, ball (keys.foldl bkey f) x = true := by
  induction keys with
  | nil => intro f _ x hx; cases hx
  | cons p l ih =>
    intro f hf x hx
    rw [List.foldl_cons]
    rcases List.mem_cons.1 hx with rfl | h
    · exact bfold_keep l _ _ (by rw [bkey_length]; exact hf) (ball_self f x hf)
    · exact ih _ (by rw [bkey_length]; exact hf) x h
/-- A filter never says no to a key that it has. -/
theorem bof_all (k size : Nat) (hs : 1 ≤ size) (keys : List (List UInt8)) : ∀ x ∈ keys, ball (bof k size keys) x = true :=
  bfold_all keys _ (by simp [bnew]; omega)
end Go.St
