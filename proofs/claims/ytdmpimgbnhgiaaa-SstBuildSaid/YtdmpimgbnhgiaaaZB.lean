/- Walks: a filter is made. -/
import Derived.Test.YtdmpimgbnhgiaaaZBase
import Derived.Test.YtdmpimgbnhgiaaaZK
import Derived.Test.YtdmpimgbnhgiaaaZT
import Derived.Test.YtdmpimgbnhgiaaaChecked
import Derived.WalkSpells
import Derived.Handy
import Derived.Lib.Hide
import Derived.Deep.LoopGhost
import Derived.BigQuiet

namespace Go.St

def hmul : Nat := 1099511628211
def hmod : Nat := 18446744073709551616
def hini : Nat := 14695981039346656037
def hstep (h c : Nat) : Nat := ((h ^^^ c) * hmul) % hmod
def hrun (h : Nat) (l : List UInt8) : Nat := l.foldl (fun h c => hstep h c.toNat) h
def bhash (l : List UInt8) : Nat := hrun hini l
theorem hmod_pos : 0 < hmod := by unfold hmod; omega
theorem hini_lt : hini < hmod := by unfold hini hmod; omega
theorem hstep_lt (h c : Nat) : hstep h c < hmod := by unfold hstep; exact Nat.mod_lt _ hmod_pos
theorem hrun_nil (h : Nat) : hrun h [] = h := rfl
theorem hrun_cons (h : Nat) (c : UInt8) (l : List UInt8) : hrun h (c :: l) = hrun (hstep h c.toNat) l := by unfold hrun; rw [List.foldl_cons]
theorem hrun_snoc (h : Nat) (l : List UInt8) (c : UInt8) : hrun h (l ++ [c]) = hstep (hrun h l) c.toNat := by unfold hrun; rw [List.foldl_append, List.foldl_cons, List.foldl_nil]
theorem hrun_lt (l : List UInt8) : ∀ h, h < hmod → hrun h l < hmod := by
  induction l with
  | nil => intro h hh; rw [hrun_nil]; exact hh
  | cons c l ih => intro h _; rw [hrun_cons]; exact ih _ (hstep_lt _ _)
theorem bhash_lt (l : List UInt8) : bhash l < hmod := by unfold bhash; exact hrun_lt l _ hini_lt

/-- A key's bit of round i, of m. -/
def bplace (h i m : Nat) : Nat := ((h % 4294967296 + i * (h / 4294967296 ||| 1)) % hmod) % m
theorem bplace_lt (h i m : Nat) (hm : 0 < m) : bplace h i m < m := Nat.mod_lt _ hm

/-- The rounds' bits of a key's hash. -/
def bplaces (h k m : Nat) : List Nat := (List.range k).map fun i => bplace h i m
/-- Is a bit set? (The list: how many rounds, then the bits.) -/
def bget (f : List UInt8) (p : Nat) : Bool := (f.getD (1 + p / 8) 0).toNat / 2 ^ (p % 8) % 2 == 1
/-- A bit, set. -/
def bset (f : List UInt8) (p : Nat) : List UInt8 := f.modify (1 + p / 8) (· ||| UInt8.ofNat (2 ^ (p % 8)))
def bkey (f : List UInt8) (key : List UInt8) : List UInt8 := (bplaces (bhash key) (f.getD 0 0).toNat (8 * (f.length - 1))).foldl bset f
def ball (f : List UInt8) (key : List UInt8) : Bool := (bplaces (bhash key) (f.getD 0 0).toNat (8 * (f.length - 1))).all (bget f)

theorem bset_length (f : List UInt8) (p : Nat) : (bset f p).length = f.length := by simp [bset]
theorem bset_head (f : List UInt8) (p : Nat) : (bset f p).getD 0 0 = f.getD 0 0 := by
  unfold bset
  rw [List.getD_eq_getElem?_getD, List.getD_eq_getElem?_getD, List.getElem?_modify]
  simp
theorem or_bit (x : UInt8) (j i : Nat) (hj : j < 8) : (x ||| UInt8.ofNat (2 ^ j)).toNat / 2 ^ i % 2 = if i = j then 1 else x.toNat / 2 ^ i % 2 := by
  rw [UInt8.toNat_or, UInt8.toNat_ofNat', ← Nat.toNat_testBit, ← Nat.toNat_testBit, Nat.testBit_or]
  have e : 2 ^ j % 2 ^ 8 = 2 ^ j := Nat.mod_eq_of_lt (Nat.pow_lt_pow_right (by omega) hj)
  rw [e, Nat.testBit_two_pow]
  by_cases h : i = j
  · subst h; simp
  · have h2 : ¬ j = i := fun k => h k.symm
    simp [h, h2]
theorem bget_bset (f : List UInt8) (p q : Nat) (hp : 1 + p / 8 < f.length) : bget (bset f p) q = (bget f q || q == p) := by
  unfold bget bset
  rw [List.getD_eq_getElem?_getD, List.getD_eq_getElem?_getD, List.getElem?_modify]
  by_cases h : 1 + p / 8 = 1 + q / 8
  · simp only [h, if_true]
    have hq : 1 + q / 8 < f.length := by omega
    rw [List.getElem?_eq_getElem hq]
    simp only [Option.map_eq_map, Option.map_some, Option.getD_some]
    rw [or_bit _ _ _ (Nat.mod_lt _ (by omega))]
    by_cases e : q = p
    · subst e; simp
    · have h2 : ¬ q % 8 = p % 8 := by omega
      rw [if_neg h2]
      simp [e]
  · have e : ¬ q = p := by rintro rfl; exact h rfl
    have h2 : ¬ p / 8 = q / 8 := by omega
    simp [e, h2]
theorem bsets_length (l : List Nat) : ∀ f, (l.foldl bset f).length = f.length := by
  induction l with
  | nil => intro f; rfl
  | cons p l ih => intro f; rw [List.foldl_cons, ih, bset_length]
theorem bsets_head (l : List Nat) : ∀ f, (l.foldl bset f).getD 0 0 = f.getD 0 0 := by
  induction l with
  | nil => intro f; rfl
  | cons p l ih => intro f; rw [List.foldl_cons, ih, bset_head]
theorem bsets_get (l : List Nat) : ∀ f, (∀ p ∈ l, 1 + p / 8 < f.length) → ∀ q, bget (l.foldl bset f) q = (bget f q || l.contains q) := by
  induction l with
  | nil => intro f _ q; simp
  | cons p l ih =>
    intro f hf q
    rw [List.foldl_cons, ih _ (fun p' hp' => by rw [bset_length]; exact hf p' (by simp [hp'])), bget_bset _ _ _ (hf p (by simp))]
    rw [List.contains_cons, Bool.or_assoc]
theorem bkey_length (f key : List UInt8) : (bkey f key).length = f.length := bsets_length _ _
theorem bkey_head (f key : List UInt8) : (bkey f key).getD 0 0 = f.getD 0 0 := bsets_head _ _
theorem bplaces_mem {h k m q : Nat} (hm : 0 < m) (hq : q ∈ bplaces h k m) : q < m := by
  obtain ⟨i, _, rfl⟩ := List.mem_map.1 hq
  exact bplace_lt _ _ _ hm
theorem bkey_get (f key : List UInt8) (hf : 2 ≤ f.length) (q : Nat) : bget (bkey f key) q = (bget f q || (bplaces (bhash key) (f.getD 0 0).toNat (8 * (f.length - 1))).contains q) :=
  bsets_get _ _ (fun p hp => by have := bplaces_mem (by omega) hp; omega) q
/-- What a filter has it keeps, whatever key is added. -/
theorem ball_bkey (f key x : List UInt8) (hf : 2 ≤ f.length) (h : ball f x = true) : ball (bkey f key) x = true := by
  unfold ball at *
  rw [bkey_head, bkey_length]
  rw [List.all_eq_true] at *
  intro q hq
  rw [bkey_get f key hf, h q hq, Bool.true_or]
theorem ball_self (f key : List UInt8) (hf : 2 ≤ f.length) : ball (bkey f key) key = true := by
  unfold ball
  rw [bkey_head, bkey_length, List.all_eq_true]
  intro q hq
  rw [bkey_get f key hf]
  have : (bplaces (bhash key) (f.getD 0 0).toNat (8 * (f.length - 1))).contains q = true := by simpa using hq
  rw [this, Bool.or_true]
/-- A filter of keys, of so many rounds and bytes. -/
def bnew (k size : Nat) : List UInt8 := UInt8.ofNat k :: List.replicate size 0
def bof (k size : Nat) (keys : List (List UInt8)) : List UInt8 := keys.foldl bkey (bnew k size)
theorem bfold_length (keys : List (List UInt8)) : ∀ f, (keys.foldl bkey f).length = f.length := by
  induction keys with
  | nil => intro f; rfl
  | cons p l ih => intro f; rw [List.foldl_cons, ih, bkey_length]
theorem bfold_head (keys : List (List UInt8)) : ∀ f, (keys.foldl bkey f).getD 0 0 = f.getD 0 0 := by
  induction keys with
  | nil => intro f; rfl
  | cons p l ih => intro f; rw [List.foldl_cons, ih, bkey_head]
theorem bof_length (k size : Nat) (keys : List (List UInt8)) : (bof k size keys).length = size + 1 := by unfold bof; rw [bfold_length]; simp [bnew]
theorem bof_head (k size : Nat) (keys : List (List UInt8)) : (bof k size keys).getD 0 0 = UInt8.ofNat k := by unfold bof; rw [bfold_head]; rfl
theorem bfold_keep (keys : List (List UInt8)) : ∀ f x, 2 ≤ f.length → ball f x = true → ball (keys.foldl bkey f) x = true := by
  induction keys with
  | nil => intro f x _ h; exact h
  | cons p l ih => intro f x hf h; exact ih _ x (by rw [bkey_length]; exact hf) (ball_bkey f p x hf h)
theorem bfold_all (keys : List (List UInt8)) : ∀ f, 2 ≤ f.length → ∀ x ∈ keys, ball (keys.foldl bkey f) x = true := by
  induction keys with
  | nil => intro f _ x hx; cases hx
  | cons p l ih =>
    intro f hf x hx
    rw [List.foldl_cons]
    rcases List.mem_cons.1 hx with rfl | h
    · exact bfold_keep l _ _ (by rw [bkey_length]; exact hf) (ball_self f x hf)
    · exact ih _ (by rw [bkey_length]; exact hf) x h
/-- A filter never says no to a key that it has. -/
theorem bof_all (k size : Nat) (hs : 1 ≤ size) (keys : List (List UInt8)) : ∀ x ∈ keys, ball (bof k size keys) x = true :=
  bfold_all keys _ (by simp [bnew]; omega)
end Go.St

namespace Go.Proofs.Ytdmpimgbnhgiaaa
open Go.RowKit Go.St
set_option linter.unusedVariables false
set_option linter.unusedSimpArgs false

theorem hini_val : (14695981039346656037 : Int) = ((hini : Nat) : Int) := by unfold hini; rfl
theorem wrapn (a : Nat) : IntKind.u64.wrap (a : Int) = ((a % hmod : Nat) : Int) := by
  unfold hmod
  simp [IntKind.wrap, IntKind.signed, IntKind.bits]
theorem wrap_mul (a : Nat) : IntKind.u64.wrap ((a : Int) * 1099511628211) = (((a * hmul) % hmod : Nat) : Int) := by
  rw [← wrapn]
  unfold hmul
  congr 1
set_option maxHeartbeats 400000 in
theorem hash_any (s : ByteArray) (hs : s.size ≤ 9223372036854775807) (w : World) : Calls Try.prog 70 #[.string s] w fun e w' => e = .returned (.int .u64 (bhash s.data.toList : Nat)) ∧ w = w' := by
  go_enter Try.func70, Try.ntmps70
  go_wp2
  go_loop [3, 7] (fun h i => ∃ k : Nat, k ≤ s.size ∧ i = .int .i64 k ∧ h = .int .u64 (hrun hini (s.data.toList.take k) : Nat)) (fun _ i => s.size - (intOf i).toNat)
  case atStart => exact ⟨0, Nat.zero_le _, rfl, by rw [hini_val]; rfl⟩
  case round =>
    obtain ⟨k, hk, rfl, rfl⟩ := hrel
    have hl : hrun hini (s.data.toList.take k) < hmod := hrun_lt _ _ hini_lt
    by_cases hlt : k < s.size
    · have hsn : hrun hini (s.data.toList.take (k + 1)) = hstep (hrun hini (s.data.toList.take k)) (s[k]).toNat := by
        rw [← hrun_snoc, take_snoc s.data.toList k (by simpa using hlt)]; rfl
      have HS := Lib.hid hsn; clear hsn
      have HL := Lib.hid hl; clear hl
      generalize hrun hini (s.data.toList.take k) = h at *
      have hc : (s[k]).toNat < 256 := (s[k]).toNat_lt
      have e1 := u64_xor_nat h (s[k]).toNat (by have := HL.out; unfold hmod at this; exact this) (by omega)
      have E1 := Lib.hid e1; clear e1
      go_wp2
      exact ⟨⟨k + 1, by omega, by go_num, by rw [HS.out, E1.out]; exact int_eq (wrap_mul _)⟩, by simp [intOf]; omega⟩
    · obtain rfl : k = s.size := by omega
      go_wp2
      go_ret
      refine ⟨ret_int ?_, rfl⟩
      rw [List.take_of_length_le (by simp)]
      rfl
set_option maxHeartbeats 400000 in
theorem rhash_any (s : ByteArray) (hs : s.size ≤ 9223372036854775807) (w : World) : Calls Try.prog 88 #[.string s] w fun e w' => e = .returned (.int .u64 (bhash s.data.toList : Nat)) ∧ w = w' := by
  go_enter Try.func88, Try.ntmps88
  go_wp2
  go_loop [3, 4] (fun h i => ∃ k : Nat, k ≤ s.size ∧ i = .int .i64 k ∧ h = .int .u64 (hrun hini (s.data.toList.take k) : Nat)) (fun _ i => s.size - (intOf i).toNat)
  case atStart => exact ⟨0, Nat.zero_le _, rfl, by rw [hini_val]; rfl⟩
  case round =>
    obtain ⟨k, hk, rfl, rfl⟩ := hrel
    have hl : hrun hini (s.data.toList.take k) < hmod := hrun_lt _ _ hini_lt
    by_cases hlt : k < s.size
    · have hsn : hrun hini (s.data.toList.take (k + 1)) = hstep (hrun hini (s.data.toList.take k)) (s[k]).toNat := by
        rw [← hrun_snoc, take_snoc s.data.toList k (by simpa using hlt)]; rfl
      have HS := Lib.hid hsn; clear hsn
      have HL := Lib.hid hl; clear hl
      generalize hrun hini (s.data.toList.take k) = h at *
      have hc : (s[k]).toNat < 256 := (s[k]).toNat_lt
      have e1 := u64_xor_nat h (s[k]).toNat (by have := HL.out; unfold hmod at this; exact this) (by omega)
      have E1 := Lib.hid e1; clear e1
      go_wp2
      exact ⟨⟨k + 1, by omega, by go_num, by rw [HS.out, E1.out]; exact int_eq (wrap_mul _)⟩, by simp [intOf]; omega⟩
    · obtain rfl : k = s.size := by omega
      go_wp2
      go_ret
      refine ⟨ret_int ?_, rfl⟩
      rw [List.take_of_length_le (by simp)]
      rfl

theorem or1_val (h : Nat) (hh : h < hmod) : bits .or .u64 ((h : Int) / 4294967296) 1 = ((h / 4294967296 ||| 1 : Nat) : Int) := by
  have e : (h : Int) / 4294967296 = ((h / 4294967296 : Nat) : Int) := by omega
  have h2 : h / 4294967296 < 18446744073709551616 := by unfold hmod at hh; omega
  rw [e]
  exact u64_or_nat _ 1 h2 (by omega)
theorem and32_val (h : Nat) (hh : h < hmod) : bits .and .u64 (h : Int) 4294967295 = ((h % 4294967296 : Nat) : Int) := by
  have h2 := u64_and_nat h 4294967295 (by unfold hmod at hh; exact hh) (by omega)
  rw [show h &&& 4294967295 = h % 4294967296 from Nat.and_two_pow_sub_one_eq_mod h 32] at h2
  exact h2
theorem bit_val (h i m : Nat) (hm : 0 < m) (hm2 : m < 4294967296) :
    wrap64 ((IntKind.u64.wrap (((h % 4294967296 : Nat) : Int) + IntKind.u64.wrap ((i : Int) * ((h / 4294967296 ||| 1 : Nat) : Int)))).tmod (m : Int)) = ((bplace h i m : Nat) : Int) := by
  have e1 : (i : Int) * ((h / 4294967296 ||| 1 : Nat) : Int) = ((i * (h / 4294967296 ||| 1) : Nat) : Int) := (Int.natCast_mul _ _).symm
  rw [e1, wrapn]
  have e2 : ((h % 4294967296 : Nat) : Int) + ((i * (h / 4294967296 ||| 1) % hmod : Nat) : Int) = ((h % 4294967296 + i * (h / 4294967296 ||| 1) % hmod : Nat) : Int) := (Int.natCast_add _ _).symm
  rw [e2, wrapn, Nat.add_mod_mod]
  unfold bplace
  generalize (h % 4294967296 + i * (h / 4294967296 ||| 1)) % hmod = x
  have e3 : ((x : Nat) : Int).tmod (m : Int) = ((x % m : Nat) : Int) := by
    rw [Int.tmod_eq_emod_of_nonneg (by omega)]; rfl
  rw [e3]
  have := Nat.mod_lt x hm
  exact IntWalk.wrap64_in _ ⟨by omega, by omega⟩

set_option maxHeartbeats 400000 in
theorem bit_any (h i m : Nat) (hh : h < hmod) (hi : i < 256) (hm : 0 < m) (hm2 : m < 4294967296) (w : World) :
    Calls Try.prog 71 #[.int .u64 (h : Int), .int .i64 (i : Int), .int .i64 (m : Int)] w fun e w' => e = .returned (.int .i64 (bplace h i m : Nat)) ∧ w = w' := by
  have e1 := or1_val h hh
  have e2 := and32_val h hh
  have e3 := bit_val h i m hm hm2
  have E1 := Lib.hid e1; have E2 := Lib.hid e2; have E3 := Lib.hid e3
  have HH := Lib.hid hh; clear hh e1 e2 e3
  go_enter Try.func71, Try.ntmps71
  go_wp2
  go_ret
  refine ⟨ret_int ?_, rfl⟩
  rw [E1.out, E2.out]
  exact E3.out

/-- Whether bytes are a filter. -/
def bchk (l : List UInt8) : Int := if 2 ≤ l.length ∧ 1 ≤ (l.getD 0 0).toNat ∧ (l.getD 0 0).toNat ≤ 12 then 0 else 5
set_option maxHeartbeats 400000 in
theorem bcheck_any (A : Option Addr) (n c B : Nat) (l : List UInt8) (hl : l.length = n) (w : World) (hr : Rd w B A (bv l)) :
    Calls Try.prog 52 #[.slice A n c] w fun e w' => e = .returned (.int .i64 (bchk l)) ∧ w = w' := by
  by_cases h2 : n < 2
  · have hc : bchk l = 5 := by unfold bchk; rw [if_neg (by omega)]
    have HC := Lib.hid hc; clear hc hl
    go_enter Try.func52, Try.ntmps52
    go_wp2
    go_ret
    exact ⟨ret_int HC.out.symm, rfl⟩
  · obtain ⟨b, off, rfl, hb, hcell⟩ := hr.at_ (bv_get l 0 (by omega))
    have hg : l.getD 0 0 = l[0]'(by omega) := by simp [List.getD, show 0 < l.length by omega]
    unfold bt at hcell
    rw [Nat.add_zero] at hcell
    have hc : bchk l = if 1 ≤ (l[0]'(by omega)).toNat ∧ (l[0]'(by omega)).toNat ≤ 12 then 0 else 5 := by
      unfold bchk
      rw [hg]
      by_cases h : 1 ≤ (l[0]'(by omega)).toNat ∧ (l[0]'(by omega)).toNat ≤ 12
      · rw [if_pos ⟨by omega, h⟩, if_pos h]
      · rw [if_neg (fun k => h k.2), if_neg h]
    generalize (l[0]'(by omega)).toNat = x at *
    have HC := Lib.hid hc; clear hc hg hr hl
    have h3 : 2 ≤ n := by omega
    clear h2
    go_enter Try.func52, Try.ntmps52
    go_wp2
    all_goals
      go_ret
      refine ⟨ret_int ?_, rfl⟩
      rw [HC.out]
      split <;> first | rfl | omega
end Go.Proofs.Ytdmpimgbnhgiaaa

namespace Go.Proofs.Ytdmpimgbnhgiaaa
open Go.RowKit Go.St
set_option linter.unusedVariables false
set_option linter.unusedSimpArgs false

def hasB (f : List UInt8) (key : List UInt8) : Bool := decide (bchk f = 0) && ball f key
theorem bchk_ok {f : List UInt8} (h : bchk f = 0) : 2 ≤ f.length ∧ 1 ≤ (f.getD 0 0).toNat ∧ (f.getD 0 0).toNat ≤ 12 := by
  unfold bchk at h
  split at h
  · assumption
  · cases h
theorem bv_getD (f : List UInt8) (i : Nat) (h : i < f.length) : (bv f)[i]? = some (.int .u8 ((f.getD i 0).toNat : Nat)) := by
  rw [bv_get f i h]
  simp [bt, List.getD, h]
theorem and1_u8 (x j : Nat) (hx : x < 256) : (bits .and .u8 ((x : Int) / 2 ^ j) 1 == 0) = !(x / 2 ^ j % 2 == 1) := by
  have h1 : (x : Int) / 2 ^ j = ((x / 2 ^ j : Nat) : Int) := by simp
  have h3 := u8_and_nat (x / 2 ^ j) 1 (Nat.lt_of_le_of_lt (Nat.div_le_self _ _) hx) (by decide)
  rw [h1]
  rw [nat_mask1] at h3
  have h4 : bits .and .u8 ((x / 2 ^ j : Nat) : Int) 1 = ((x / 2 ^ j % 2 : Nat) : Int) := h3
  rw [h4]
  rcases Nat.mod_two_eq_zero_or_one (x / 2 ^ j) with h | h <;> rw [h] <;> rfl
theorem bchk_or (f : List UInt8) : bchk f = 0 ∨ bchk f = 5 := by unfold bchk; split <;> simp

/-- The first rounds' bits are set. -/
def bupto (f : List UInt8) (h m k : Nat) : Prop := ∀ j, j < k → bget f (bplace h j m) = true
theorem ball_of {f key : List UInt8} {h m k : Nat} (hh : h = bhash key) (hm : m = 8 * (f.length - 1)) (hk : k = (f.getD 0 0).toNat) (H : bupto f h m k) : ball f key = true := by
  subst hh hm hk
  unfold ball
  rw [List.all_eq_true]
  intro q hq
  obtain ⟨i, hi, rfl⟩ := List.mem_map.1 hq
  exact H i (List.mem_range.1 hi)
theorem ball_not {f key : List UInt8} {h m k j : Nat} (hh : h = bhash key) (hm : m = 8 * (f.length - 1)) (hk : k = (f.getD 0 0).toNat) (hj : j < k) (H : bget f (bplace h j m) = false) : ball f key = false := by
  subst hh hm hk
  unfold ball
  rw [List.all_eq_false]
  exact ⟨_, List.mem_map.2 ⟨j, List.mem_range.2 hj, rfl⟩, by rw [H]; decide⟩

set_option maxHeartbeats 800000 in
theorem has_any (A : Option Addr) (n c B : Nat) (f : List UInt8) (hl : f.length = n) (hn : n ≤ 500000000) (s : ByteArray) (hs : s.size ≤ 9223372036854775807) (w : World) (hr : Rd w B A (bv f)) :
    Calls Try.prog 55 #[.slice A n c, .string s] w fun e w' => e = .returned (.tuple #[.bool (hasB f s.data.toList), .int .i64 (bchk f)]) ∧ w = w' := by
  rcases bchk_or f with hc | hc
  · obtain ⟨h2, h3, h4⟩ := bchk_ok hc
    obtain ⟨b, off, rfl, hb, hcell⟩ := hr.at_ (bv_get f 0 (by omega))
    have hg : f.getD 0 0 = f[0]'(by omega) := by simp [List.getD, show 0 < f.length by omega]
    rw [← hg] at hcell
    unfold bt at hcell
    rw [Nat.add_zero] at hcell
    have hck := bcheck_any (some ⟨b, off, none⟩) n c B f hl w hr
    have hlt := bhash_lt s.data.toList
    have hhs := hash_any s hs
    have hb0 : hasB f s.data.toList = ball f s.data.toList := by unfold hasB; rw [hc]; simp
    rw [hb0]
    rw [hc] at hck ⊢
    obtain ⟨h, hh⟩ : ∃ h, h = bhash s.data.toList := ⟨_, rfl⟩
    obtain ⟨k, hk⟩ : ∃ k, k = (f.getD 0 0).toNat := ⟨_, rfl⟩
    obtain ⟨m, hm⟩ : ∃ m, m = 8 * (f.length - 1) := ⟨_, rfl⟩
    rw [← hh] at hhs hlt
    rw [← hk] at hcell h3 h4
    have e8 : (8 : Int) * ((n : Int) - 1) = ((m : Nat) : Int) := by omega
    have hm0 : 0 < m := by omega
    have hm1 : m < 4294967296 := by omega
    have hmn : m + 8 = 8 * n := by omega
    have H2 := Lib.hid h2; have HH := Lib.hid hh; have HK := Lib.hid hk; have HM := Lib.hid hm; have HC := Lib.hid hck; have HLT := Lib.hid hlt; have HS := Lib.hid hhs; have HR := Lib.hid hr; have HL := Lib.hid hl; have E8 := Lib.hid e8; have HMN := Lib.hid hmn
    have n2 : 2 ≤ n := by omega
    clear h2 hh hk hm hck hlt hhs hg hb0 hc hr hl e8 hmn hs
    go_enter Try.func55, Try.ntmps55
    go_wp2_with fail
    refine HC.out.mono ?_
    rintro e w' ⟨rfl, rfl⟩
    go_wp2_with fail
    refine (HS.out _).mono ?_
    rintro e w' ⟨rfl, rfl⟩
    go_wp2_with fail
    go_loop [21] (fun i => ∃ j : Nat, j ≤ k ∧ i = .int .i64 j ∧ Hid (bupto f h m j)) (fun i => k - (intOf i).toNat)
    case atStart => exact ⟨0, Nat.zero_le _, rfl, fun j hj => absurd hj (by omega)⟩
    case round =>
      obtain ⟨j, hj, rfl, hU⟩ := hrel
      by_cases hlt : j < k
      · have j12 : j < 256 := by omega
        have hp := bplace_lt h j m hm0
        have hbit := fun w => bit_any h j m HLT.out j12 hm0 hm1 w
        have HB := Lib.hid hbit; clear hbit
        have hpn : 1 + bplace h j m / 8 < n := by have := HMN.out; omega
        obtain ⟨b', off', e, -, hx⟩ := HR.out.at_ (bv_getD f (1 + bplace h j m / 8) (by rw [HL.out]; exact hpn))
        injection e with e
        injection e with e1 e2
        subst e1 e2
        go_wp2_with fail
        rw [E8.out]
        refine (HB.out _).mono ?_
        rintro e w' ⟨rfl, rfl⟩
        obtain ⟨p, hpp⟩ : ∃ p, p = bplace h j m := ⟨_, rfl⟩
        rw [← hpp] at hp hpn hx ⊢
        have HPP := Lib.hid hpp
        clear hpp
        have hxx : (f.getD (1 + p / 8) 0).toNat < 256 := UInt8.toNat_lt _
        have hbb := and1_u8 (f.getD (1 + p / 8) 0).toNat (p % 8) hxx
        have hgg : bget f p = ((f.getD (1 + p / 8) 0).toNat / 2 ^ (p % 8) % 2 == 1) := rfl
        rw [← hgg] at hbb
        have HG := Lib.hid hgg; clear hgg
        generalize (f.getD (1 + p / 8) 0).toNat = x at *
        by_cases hbg : bget f p = true
        · rw [hbg] at hbb
          have HBG := Lib.hid hbg; clear hbg HG
          go_wp2
          refine ⟨⟨j + 1, by omega, by go_num, fun i hi => ?_⟩, by simp [intOf]; omega⟩
          rcases Nat.lt_or_ge i j with h1 | h1
          · exact hU.out i h1
          · obtain rfl : i = j := by omega
            rw [← HPP.out]
            exact HBG.out
        · have hbf : bget f p = false := by simpa using hbg
          rw [hbf] at hbb
          have HBG := Lib.hid hbf; clear hbg hbf HG
          have hna := ball_not HH.out HM.out HK.out hlt (by rw [← HPP.out]; exact HBG.out)
          have HNA := Lib.hid hna; clear hna
          go_wp2
          go_ret2
          rw [HNA.out]
          exact ⟨rfl, rfl⟩
      · obtain rfl : j = k := by omega
        have hall := ball_of HH.out HM.out HK.out hU.out
        have HA := Lib.hid hall; clear hall
        go_wp2
        go_ret2
        rw [HA.out]
        exact ⟨rfl, rfl⟩
  · have hck := bcheck_any A n c B f hl w hr
    have hb0 : hasB f s.data.toList = false := by unfold hasB; rw [hc]; rfl
    rw [hb0]
    rw [hc] at hck ⊢
    have HC := Lib.hid hck
    clear hck hb0 hc hr hl
    go_enter Try.func55, Try.ntmps55
    go_wp2_with fail
    refine HC.out.mono ?_
    rintro e w' ⟨rfl, rfl⟩
    go_wp2
    go_ret2
    exact ⟨rfl, rfl⟩
end Go.Proofs.Ytdmpimgbnhgiaaa

namespace Go.Proofs.Ytdmpimgbnhgiaaa
open Go.RowKit Go.St
set_option linter.unusedVariables false
set_option linter.unusedSimpArgs false

set_option maxRecDepth 100000 in
theorem sty8 : STy Try.prog 26 5 1 1 (.int .u8 0) := ⟨Try.underlying26, ⟨_, rfl, by kernel_rfl, by kernel_rfl, by kernel_rfl⟩, rfl, by decide⟩

def bsize (n b : Nat) : Nat := max 1 ((n * b + 7) / 8)
def brounds (b : Nat) : Nat := (b * 69 + 99) / 100
theorem bsize_bd (n b : Nat) (hn : n ≤ 1048576) (hb : b ≤ 16) : 1 ≤ bsize n b ∧ bsize n b ≤ 2097153 := by
  have h : n * b ≤ 1048576 * 16 := Nat.mul_le_mul hn hb
  unfold bsize
  omega
theorem brounds_bd (b : Nat) (h1 : 1 ≤ b) (hb : b ≤ 16) : 1 ≤ brounds b ∧ brounds b ≤ 12 := by unfold brounds; omega

/-- Texts as cells. -/
def sv (l : List ByteArray) : List Value := l.map Value.string
def bl (l : List ByteArray) : List (List UInt8) := l.map fun s => s.data.toList

theorem bset_set (f : List UInt8) (p : Nat) (h : 1 + p / 8 < f.length) : bset f p = f.set (1 + p / 8) (f.getD (1 + p / 8) 0 ||| UInt8.ofNat (2 ^ (p % 8))) := by
  unfold bset
  apply List.ext_getElem?
  intro j
  rw [List.getElem?_modify, List.getElem?_set]
  by_cases e : 1 + p / 8 = j
  · subst e
    simp [h, List.getD]
  · simp [e]

theorem made_filter (k size : Nat) (hs : 0 < size + 1) : ((bv (List.replicate (size + 1) 0)).set 0 (.int .u8 ((k % 256 : Nat) : Int))) = bv (bnew k size) := by
  unfold bnew
  rw [List.replicate_succ]
  simp [bv, bt]

def noF : Ending := .returned (.tuple #[.slice none 0 0, .int .i64 2])
theorem of_arg (A : Option Addr) (n c : Nat) (hn : n ≤ 1048576) (b : Int) (hb : b < 1 ∨ 16 < b) (w : World) :
    Calls Try.prog 38 #[.slice A n c, .int .i64 b] w fun e w' => e = .returned (.tuple #[.slice none 0 0, .int .i64 2]) ∧ w = w' := by
  rcases hb with hb | hb
  · go_enter Try.func38, Try.ntmps38
    go_wp2
    go_ret2
    exact ⟨rfl, rfl⟩
  · have h2 : decide (b < 1) = false := decide_eq_false (by omega)
    go_enter Try.func38, Try.ntmps38
    go_wp2
    go_ret2
    exact ⟨rfl, rfl⟩

theorem or_val (x : UInt8) (j : Nat) (hj : j < 8) : bits .or .u8 ((x.toNat : Nat) : Int) (2 ^ j % 256) = (((x ||| UInt8.ofNat (2 ^ j)).toNat : Nat) : Int) := by
  have e : (2 : Int) ^ j % 256 = ((2 ^ j % 256 : Nat) : Int) := by simp
  rw [e, u8_or_nat _ _ x.toNat_lt (Nat.mod_lt _ (by omega)), UInt8.toNat_or, UInt8.toNat_ofNat']

set_option maxHeartbeats 1600000 in
set_option maxRecDepth 100000 in
theorem of_any (A : Option Addr) (n c B : Nat) (keys : List ByteArray) (hl : keys.length = n) (hn : n ≤ 1048576) (hks : ∀ s ∈ keys, s.size ≤ 9223372036854775807) (b : Nat) (hb1 : 1 ≤ b) (hb2 : b ≤ 16) (w : World) (hr : Rd w B A (sv keys)) (hB : B ≤ w.heap.size) :
    Calls Try.prog 38 #[.slice A n c, .int .i64 (b : Int)] w fun e w' => ∃ v, e = .returned (.tuple #[v, .int .i64 0]) ∧
      w'.ownsRow w.heap.size 5 1 v (bsize n b + 1) (bv (bof (brounds b) (bsize n b) (bl keys))) ∧ Below w.heap.size w w' := by
  have hs := bsize_bd n b hn hb2
  have hk := brounds_bd b hb1 hb2
  obtain ⟨x, hx⟩ : ∃ x, x = n * b := ⟨_, rfl⟩
  obtain ⟨sz, hsz⟩ : ∃ x, x = bsize n b := ⟨_, rfl⟩
  obtain ⟨k, hkk⟩ : ∃ x, x = brounds b := ⟨_, rfl⟩
  have e1 : (n : Int) * (b : Int) = (x : Int) := by rw [hx]; exact (Int.natCast_mul _ _).symm
  have hnb : x ≤ 1048576 * 16 := by rw [hx]; exact Nat.mul_le_mul hn hb2
  have ek : ((b : Int) * 69 + 99) / 100 = (k : Int) := by rw [hkk]; unfold brounds; omega
  have hsx : sz = max 1 ((x + 7) / 8) := by rw [hsz, hx]; rfl
  have hmax : ∀ w : World, (Builtin.max_ #[3, 3] 3 #[.int .i64 1, .int .i64 (((x : Int) + 7) / 8)]).run Try.prog w = .ok (.int .i64 (sz : Int)) w := fun w => by
    rw [run_max_int2]
    congr 2
    split <;> omega
  rw [← hsz] at hs ⊢
  rw [← hkk] at hk ⊢
  have HSZ := Lib.hid hsz; have HKK := Lib.hid hkk; have HSX := Lib.hid hsx
  have HX := Lib.hid hx; have HL := Lib.hid hl; have HR := Lib.hid hr; have HKS := Lib.hid hks
  clear hsz hkk hsx hx hl hr hks
  obtain ⟨hs1, hs2⟩ := hs
  obtain ⟨hk1, hk2⟩ := hk
  obtain ⟨w1, hmk, own1, gr1⟩ := run_mk sty8 w w.heap.size (sz + 1) (by omega) (by unfold maxLen; omega) (Nat.le_refl _)
  rw [made_bytes] at own1
  have ec : ((sz + 1 : Nat) : Int) = 1 + (sz : Int) := by omega
  rw [ec] at hmk
  have hbw1 : Below w.heap.size w w1 := (Below.refl _ _).grown gr1 (Nat.le_refl _) (by simp)
  have OW := Lib.hid own1
  have HB1 := Lib.hid hbw1
  have hc0 := own1.cellAt 0 (by omega)
  have hf0 := own1.frozenAt 0
  have hwr : (k : Int) % 256 = (k : Int) := by omega
  clear gr1 own1 hbw1 ec
  go_enter Try.func38, Try.ntmps38
  go_wp2_with fail
  have O2 : Hid ((w1.setCell ⟨w.heap.size, 0, none⟩ (.int .u8 (k : Int))).ownsRow w.heap.size 5 1 (.slice (some ⟨w.heap.size, 0, none⟩) (sz + 1) (sz + 1)) (sz + 1) (bv (bof k sz (bl (keys.take 0))))) := by
    have h := (OW.out.stored 0 (.int .u8 ((k % 256 : Nat) : Int))).1
    rw [made_filter k sz (by omega), Nat.mod_eq_of_lt (by omega : k < 256)] at h
    exact h
  have B2 : Hid (Below w.heap.size w (w1.setCell ⟨w.heap.size, 0, none⟩ (.int .u8 (k : Int)))) := HB1.out.setCell (Nat.le_refl _) _
  clear OW HB1 hc0 hf0 hmk hmax e1 ek hwr
  have hg : ∀ l : List (List UInt8), ((bof k sz l).getD 0 0).toNat = k := fun l => by rw [bof_head]; simp [UInt8.toNat_ofNat']; omega
  have HG := Lib.hid hg; clear hg
  go_loopw [43] (fun i wr => ∃ j : Nat, j ≤ n ∧ i = .int .i64 j ∧ Hid (wr.ownsRow w.heap.size 5 1 (.slice (some ⟨w.heap.size, 0, none⟩) (sz + 1) (sz + 1)) (sz + 1) (bv (bof k sz (bl (keys.take j))))) ∧ Hid (Below w.heap.size w wr)) (fun i _ => n - (intOf i).toNat)
  case atStart => exact ⟨0, Nat.zero_le _, rfl, O2, B2⟩
  case round =>
    obtain ⟨j, hj, rfl, O3, B3⟩ := hrel
    clear O2 B2
    by_cases hlt : j < n
    · have hjk : j < keys.length := by rw [HL.out]; exact hlt
      obtain ⟨b', off, rfl, hb', hcell⟩ := (HR.out.below (B3.out.mono hB)).at_ (show (sv keys)[j]? = some (.string keys[j]) by simp [sv, hjk])
      have hsk := HKS.out keys[j] (List.getElem_mem hjk)
      have htk : bof k sz (bl (keys.take (j + 1))) = bkey (bof k sz (bl (keys.take j))) keys[j].data.toList := by
        unfold bof bl
        rw [take_snoc keys j hjk, List.map_append, List.foldl_append]
        rfl
      have HTK := Lib.hid htk; clear htk
      generalize keys[j] = s at *
      have hF := bof_length k sz (bl (keys.take j))
      have hF0 := HG.out (bl (keys.take j))
      generalize bof k sz (bl (keys.take j)) = F at *
      have hash := hash_any s hsk
      have hhl := bhash_lt s.data.toList
      have hc0 := O3.out.cellAt 0 (by omega)
      rw [bv_getD F 0 (by omega), hF0] at hc0
      have HF := Lib.hid hF; have HF0 := Lib.hid hF0; have HA := Lib.hid hash; have HHL := Lib.hid hhl
      clear hF hF0 hash hhl
      obtain ⟨h, hh⟩ : ∃ h, h = bhash s.data.toList := ⟨_, rfl⟩
      have HH := Lib.hid hh
      go_wp2_with fail
      refine (HA.out _).mono ?_
      rintro e w' ⟨rfl, rfl⟩
      rw [← hh]
      clear hh
      go_wp2_with fail
      obtain ⟨wo, rfl⟩ : ∃ wo : World, wo = wr := ⟨_, rfl⟩
      clear hc0 hcell
      obtain ⟨m, hm⟩ : ∃ m, m = 8 * sz := ⟨_, rfl⟩
      have e8 : (8 : Int) * (sz : Int) = (m : Int) := by omega
      have hm0 : 0 < m := by omega
      have hm1 : m < 4294967296 := by omega
      have E8 := Lib.hid e8; have HM := Lib.hid hm
      clear e8 hm
      go_loopw [53] (fun i wr => ∃ q : Nat, q ≤ k ∧ i = .int .i64 q ∧ Hid (wr.ownsRow w.heap.size 5 1 (.slice (some ⟨w.heap.size, 0, none⟩) (sz + 1) (sz + 1)) (sz + 1) (bv ((bplaces h q m).foldl bset F))) ∧ Hid (Below w.heap.size w wr)) (fun i _ => k - (intOf i).toNat)
      case atStart => exact ⟨0, Nat.zero_le _, rfl, O3, B3⟩
      case round =>
        obtain ⟨q, hq, rfl, O4, B4⟩ := hrel
        by_cases hqk : q < k
        · have hp := bplace_lt h q m hm0
          have hbit := fun w => bit_any h q m (by rw [HH.out]; exact HHL.out) (by omega) hm0 hm1 w
          have HB := Lib.hid hbit; clear hbit
          have hsn : (bplaces h (q + 1) m).foldl bset F = bset ((bplaces h q m).foldl bset F) (bplace h q m) := by
            unfold bplaces
            rw [List.range_succ, List.map_append, List.foldl_append]
            rfl
          have hlG : ((bplaces h q m).foldl bset F).length = sz + 1 := by rw [bsets_length]; exact HF.out
          have HSN := Lib.hid hsn; have HLG := Lib.hid hlG; clear hsn hlG
          generalize (bplaces h q m).foldl bset F = G at *
          generalize bplace h q m = p at *
          have hpn : 1 + p / 8 < sz + 1 := by have := HM.out; omega
          have hcx := O4.out.cellAt (1 + p / 8) (by omega)
          rw [bv_getD G (1 + p / 8) (by rw [HLG.out]; exact hpn)] at hcx
          have hfx := O4.out.frozenAt (1 + p / 8)
          go_wp2_with fail
          rw [E8.out]
          refine (HB.out _).mono ?_
          rintro e w' ⟨rfl, rfl⟩
          have hpi : (1 : Int) + (p : Int) / 8 < (sz : Int) + 1 := by omega
          have hp8 : p % 8 < 8 := Nat.mod_lt _ (by omega)
          have hgb : w.heap.size < wr.heap.size := World.block_lt_of_cell? wr _ hcx
          generalize hx2 : (G.getD (1 + p / 8) 0) = x2 at *
          have HX2 := Lib.hid hx2; clear hx2
          go_wp2_with fail
          refine wp_qtail 11 (by kernel_rfl) (by kernel_rfl) ?_
          intro hcg
          simp only [List.take_succ_cons, List.take_zero, List.drop_succ_cons, List.drop_zero]
          repeat (first | go_big_quiet_step (fail) | quiet_step (fail))
          refine wpQuiet_nil ?_
          intro wq hbwq hcwq hfwq
          clear hcg
          have O5 := own_keep O4.out hbwq (Nat.le_refl _)
          have B5 := Below.go B4.out hbwq B4.out.size
          have s5 := (O5.stored (1 + p / 8) (bt (x2 ||| UInt8.ofNat (2 ^ (p % 8))))).1
          rw [bv_set, ← HX2.out, ← bset_set G p (by rw [HLG.out]; exact hpn), ← HSN.out] at s5
          have ev := or_val x2 (p % 8) hp8
          unfold bt at s5
          rw [HX2.out, ← ev] at s5
          have S5 := Lib.hid s5
          have C5 := Lib.hid B5
          clear O5 B5 s5 ev hbwq
          go_wp2
          exact ⟨⟨q + 1, by omega, by go_num, S5.out, C5.out.setCell (Nat.le_refl _) _⟩, by simp [intOf]; omega⟩
        · obtain rfl : q = k := by omega
          go_wp2
          refine ⟨⟨j + 1, by omega, by go_num, ?_, B4⟩, by simp [intOf]; omega⟩
          have h4 := O4.out
          have e : bkey F s.data.toList = (bplaces h q m).foldl bset F := by
            unfold bkey
            rw [HF0.out, HF.out, ← HH.out, HM.out]
            rfl
          rw [← e, ← HTK.out] at h4
          exact h4
    · obtain rfl : j = n := by omega
      go_wp2
      go_ret2
      refine ⟨_, rfl, ?_, B3.out⟩
      have h3 := O3.out
      rw [List.take_of_length_le (by rw [HL.out]; exact Nat.le_refl _)] at h3
      exact h3
end Go.Proofs.Ytdmpimgbnhgiaaa
