/- Plain law: a burst within one frame is found. -/
import Derived.Test.YtdmpimgbnhgiaaaZK
import Derived.Test.YtdmpimgbnhgiaaaZKga
import Derived.Lib.ItoaNum

namespace Go.Proofs.Ytdmpimgbnhgiaaa
open Go.RowKit Go.St
set_option linter.unusedVariables false
set_option linter.unusedSimpArgs false
set_option maxRecDepth 100000

theorem and_bit (t k : Nat) (ht : t < 4294967296) : (bits .and .u32 ((t : Int) / 2 ^ k) 1 == 1) = if t.testBit k then true else false := by
  have h1 : (t : Int) / 2 ^ k = ((t / 2 ^ k : Nat) : Int) := by simp
  have h2 : t / 2 ^ k < 4294967296 := Nat.lt_of_le_of_lt (Nat.div_le_self _ _) ht
  have h3 := u32_and_nat (t / 2 ^ k) 1 h2 (by decide)
  rw [h1, show (1 : Int) = ((1 : Nat) : Int) from rfl, h3, nat_mask1]
  rw [Nat.testBit_eq_decide_div_mod_eq]
  by_cases h : t / 2 ^ k % 2 = 1
  · simp [h]
  · have : t / 2 ^ k % 2 = 0 := by omega
    simp [this]

theorem bit_xor (x : UInt8) (p : Nat) : bits .xor .u8 ((x.toNat : Nat) : Int) ((2 : Int) ^ (p % 8) % 256) = (((x ^^^ UInt8.ofNat (2 ^ (p % 8))).toNat : Nat) : Int) := by
  have e : (2 : Int) ^ (p % 8) % 256 = (((UInt8.ofNat (2 ^ (p % 8))).toNat : Nat) : Int) := by
    rw [UInt8.toNat_ofNat']
    simp
  rw [e, bt_xor]

/-- A burst that goes beyond the end, or begins ahead of the first bit. -/
theorem burst_neg (A : Option Addr) (n c : Nat) (hn : n ≤ 140737488355328) (a : Int) (ha : a < 0) (t : Nat) (ht : t < 4294967296) (w : World) :
    Calls Try.prog 30 #[.slice A n c, .int .i64 a, .int .u32 (t : Int)] w fun e w' => e = .returned (.tuple #[.slice none 0 0, .int .i64 2]) ∧ w = w' := by
  have hL := Lib.bitLen_le t 32 (by decide) ht
  go_enter Try.func30, Try.ntmps30
  go_wp2_with fail
  refine (len32_any t _ (by omega) (by omega)).mono ?_
  rintro e w' ⟨rfl, rfl⟩
  rw [Int.toNat_natCast]
  generalize Lib.bitLen t = L at *
  go_wp2
  go_ret2
  exact ⟨rfl, rfl⟩

theorem burst_far (A : Option Addr) (n c : Nat) (hn : n ≤ 140737488355328) (a : Int) (ha : 0 ≤ a) (t : Nat) (ht : t < 4294967296) (h1 : 1 ≤ Lib.bitLen t) (hf : 8 * (n : Int) - Lib.bitLen t < a) (w : World) :
    Calls Try.prog 30 #[.slice A n c, .int .i64 a, .int .u32 (t : Int)] w fun e w' => e = .returned (.tuple #[.slice none 0 0, .int .i64 2]) ∧ w = w' := by
  have hL := Lib.bitLen_le t 32 (by decide) ht
  go_enter Try.func30, Try.ntmps30
  go_wp2_with fail
  refine (len32_any t _ (by omega) (by omega)).mono ?_
  rintro e w' ⟨rfl, rfl⟩
  rw [Int.toNat_natCast]
  generalize Lib.bitLen t = L at *
  go_wp2
  go_ret2
  exact ⟨rfl, rfl⟩

set_option maxHeartbeats 1000000 in
theorem burst_yes (A : Option Addr) (n c B : Nat) (bs : List UInt8) (hl : bs.length = n) (hn : n ≤ 140737488355328) (a : Nat) (ha64 : (a : Int) ≤ 9223372036854775807) (t : Nat) (ht : t < 4294967296) (hf : Lib.bitLen t = 0 ∨ a + Lib.bitLen t ≤ 8 * n) (w : World)
    (hr : Rd w B A (bv bs)) (hB : B ≤ w.heap.size) :
    Calls Try.prog 30 #[.slice A n c, .int .i64 (a : Int), .int .u32 (t : Int)] w fun e w' => ∃ v, e = .returned (.tuple #[v, .int .i64 0]) ∧ w'.ownsRow w.heap.size 5 1 v n (bv (CrcM.turnTo bs a t (Lib.bitLen t))) ∧ Below w.heap.size w w' := by
  have hL := Lib.bitLen_le t 32 (by decide) ht
  have HL := Lib.hid hl; clear hl
  have HR := Lib.hid hr; clear hr
  go_enter Try.func30, Try.ntmps30
  go_wp2_with fail
  refine (len32_any t _ (by omega) (by omega)).mono ?_
  rintro e w' ⟨rfl, rfl⟩
  rw [Int.toNat_natCast]
  generalize hbl : Lib.bitLen t = L at *
  have HBL := Lib.hid hbl; clear hbl
  by_cases h0 : L = 0
  · subst h0
    clear hf
    have hd : (0 : Int) ≤ (a : Int) := by omega
    go_wp2_with (at_builtin; refine wpList_app sty22 _ (.tmp 30) rfl rfl w.heap.size (World.ownsRow_nil w _ _ _) rfl n c HR.out rfl (by rw [bv_length, HL.out]; omega) (bv_one _) (by unfold maxLen; omega) (by omega) (Nat.le_refl _) ?_; intro v1 w1 own1 gr1 nil1 at1)
    refine wp_loop_rounds 1 ?_
    rw [rounds_succ]
    go_wp2
    go_ret2
    exact ⟨_, rfl, by rw [HBL.out]; exact own_eq own1 (by omega) (by simp [CrcM.turnTo]), (Below.refl _ _).grown gr1 (Nat.le_refl _) (by simp [Value.ownBlock])⟩
  · have h1 : 1 ≤ L := by omega
    have h2 : (a : Int) + L ≤ 8 * (n : Int) := by omega
    clear hf h0
    go_wp2_with (at_builtin; refine wpList_app sty22 _ (.tmp 30) rfl rfl w.heap.size (World.ownsRow_nil w _ _ _) rfl n c HR.out rfl (by rw [bv_length, HL.out]; omega) (bv_one _) (by unfold maxLen; omega) (by omega) (Nat.le_refl _) ?_; intro v1 w1 own1 gr1 nil1 at1)
    have hb1 : Below w.heap.size w w1 := (Below.refl _ _).grown gr1 (Nat.le_refl _) (by simp [Value.ownBlock])
    have O1 := Lib.hid (own_eq (m := n) (ys := bv (CrcM.turnTo bs a t 0)) own1 (by omega) (by simp [CrcM.turnTo]))
    clear own1 gr1 nil1 at1
    go_loopw [10] (fun i wr => ∃ k : Nat, k ≤ L ∧ i = .int .i64 k ∧ wr.ownsRow w.heap.size 5 1 v1 n (bv (CrcM.turnTo bs a t k)) ∧ Below w.heap.size w wr) (fun i _ => L - (intOf i).toNat)
    case atStart => exact ⟨0, Nat.zero_le _, rfl, O1.out, hb1⟩
    case round =>
      obtain ⟨k, hk, rfl, hown, hbw⟩ := hrel
      clear O1 hb1
      by_cases hlt : k < L
      · obtain ⟨g, c3, rfl, hnc, hcm, hg1, hg2⟩ := own_blk hown (by omega)
        have OW := Lib.hid hown; clear hown
        have hand := and_bit t k ht
        have hp : (a + k) / 8 < n := by omega
        have hpl : (a + k) / 8 < (CrcM.turnTo bs a t k).length := by rw [CrcM.turnTo_length, HL.out]; exact hp
        have hcx := OW.out.cellAt ((a + k) / 8) (by omega)
        rw [bv_get _ _ hpl] at hcx
        unfold bt at hcx
        have hfx := OW.out.frozenAt ((a + k) / 8)
        by_cases hbit : t.testBit k
        · rw [if_pos hbit] at hand
          have e2 := bit_xor ((CrcM.turnTo bs a t k)[(a + k) / 8]) (a + k)
          go_wp2
          go_region
          go_wp2
          have o2 := (OW.out.stored ((a + k) / 8) (bt ((CrcM.turnTo bs a t k)[(a + k) / 8] ^^^ UInt8.ofNat (2 ^ ((a + k) % 8))))).1
          rw [bv_set, modify_set _ _ _ hpl] at o2
          have e3 : CrcM.turnTo bs a t (k + 1) = (CrcM.turnTo bs a t k).modify ((a + k) / 8) (· ^^^ UInt8.ofNat (2 ^ ((a + k) % 8))) := by
            rw [CrcM.turnTo, if_pos hbit]; rfl
          exact ⟨⟨k + 1, by omega, by go_num, by rw [e3]; exact o2, (hbw.setCell (p := ⟨g, (a + k) / 8, none⟩) hg1 _).drew⟩, by simp [intOf]; omega⟩
        · rw [if_neg hbit] at hand
          go_wp2
          exact ⟨⟨k + 1, by omega, by go_num, by rw [CrcM.turnTo, if_neg hbit]; exact OW.out, hbw⟩, by simp [intOf]; omega⟩
      · obtain rfl : k = L := by omega
        go_wp2
        go_ret2
        exact ⟨_, rfl, by rw [HBL.out]; exact hown, hbw⟩
/-- May a burst be? -/
def burstOK (n : Nat) (a : Int) (t : Nat) : Bool := decide (0 ≤ a) && (decide (Lib.bitLen t = 0) || decide (a + Lib.bitLen t ≤ 8 * n))
def burstE (n : Nat) (a : Int) (t : Nat) : Int := if burstOK n a t then 0 else 2
def burstL (bs : List UInt8) (a : Int) (t : Nat) : List UInt8 := if burstOK bs.length a t then CrcM.turnTo bs a.toNat t (Lib.bitLen t) else []

theorem burst_any (A : Option Addr) (n c B : Nat) (bs : List UInt8) (hl : bs.length = n) (hn : n ≤ 140737488355328) (a : Int) (ha : a ≤ 9223372036854775807) (t : Nat) (ht : t < 4294967296) (w : World) (hr : Rd w B A (bv bs)) (hB : B ≤ w.heap.size) :
    Calls Try.prog 30 #[.slice A n c, .int .i64 a, .int .u32 (t : Int)] w fun e w' => ∃ v, e = .returned (.tuple #[v, .int .i64 (burstE n a t)]) ∧ w'.ownsRow w.heap.size 5 1 v (burstL bs a t).length (bv (burstL bs a t)) ∧ Below w.heap.size w w' := by
  subst hl
  have bad : burstOK bs.length a t = false → ∀ w' : World, w = w' → ∃ v, Ending.returned (.tuple #[.slice none 0 0, .int .i64 2]) = .returned (.tuple #[v, .int .i64 (burstE bs.length a t)]) ∧ w'.ownsRow w.heap.size 5 1 v (burstL bs a t).length (bv (burstL bs a t)) ∧ Below w.heap.size w w' := by
    intro h w' hw
    subst hw
    refine ⟨_, by unfold burstE; rw [h]; rfl, ?_, Below.refl _ _⟩
    unfold burstL
    rw [h]
    exact World.ownsRow_nil _ _ _ _
  by_cases hneg : a < 0
  · refine (burst_neg A bs.length c hn a hneg t ht w).mono fun e w' ⟨he, hw⟩ => ?_
    subst he
    exact bad (by unfold burstOK; rw [decide_eq_false (by omega)]; rfl) w' hw
  · by_cases hfar : 1 ≤ Lib.bitLen t ∧ 8 * (bs.length : Int) - Lib.bitLen t < a
    · refine (burst_far A bs.length c hn a (by omega) t ht hfar.1 hfar.2 w).mono fun e w' ⟨he, hw⟩ => ?_
      subst he
      exact bad (by unfold burstOK; rw [decide_eq_false (p := Lib.bitLen t = 0) (by omega), decide_eq_false (p := a + Lib.bitLen t ≤ 8 * (bs.length : Int)) (by omega)]; simp) w' hw
    · obtain ⟨a', rfl⟩ := Int.eq_ofNat_of_zero_le (show 0 ≤ a by omega)
      have hok : burstOK bs.length (a' : Int) t = true := by
        unfold burstOK
        rw [decide_eq_true (by omega)]
        rcases Nat.eq_zero_or_pos (Lib.bitLen t) with h | h
        · simp [h]
        · rw [decide_eq_true (p := (a' : Int) + Lib.bitLen t ≤ 8 * (bs.length : Int)) (by omega)]
          simp
      refine (burst_yes A bs.length c B bs rfl hn a' ha t ht (by omega) w hr hB).mono fun e w' ⟨v, he, ho, hb⟩ => ⟨v, by unfold burstE; rw [hok]; exact he, ?_, hb⟩
      have e1 : burstL bs (a' : Int) t = CrcM.turnTo bs a' t (Lib.bitLen t) := by unfold burstL; rw [hok]; rfl
      rw [e1]
      exact own_eq ho (by rw [CrcM.turnTo_length]) rfl
end Go.Proofs.Ytdmpimgbnhgiaaa

namespace Go.Proofs.Ytdmpimgbnhgiaaa
open Go.RowKit Go.St
set_option linter.unusedVariables false
set_option linter.unusedSimpArgs false

theorem turnBit_app (x y : List UInt8) (p : Nat) : CrcM.turnBit (x ++ y) p = if p < 8 * x.length then CrcM.turnBit x p ++ y else x ++ CrcM.turnBit y (p - 8 * x.length) := by
  unfold CrcM.turnBit
  apply List.ext_getElem?
  intro j
  split
  · rename_i h
    rw [List.getElem?_modify]
    rcases Nat.lt_or_ge j x.length with hj | hj
    · rw [List.getElem?_append_left hj, List.getElem?_append_left (by simpa using hj), List.getElem?_modify]
    · rw [List.getElem?_append_right hj, List.getElem?_append_right (by simpa using hj), List.length_modify]
      have : ¬ p / 8 = j := by omega
      simp [this]
  · rename_i h
    rw [List.getElem?_modify, show p % 8 = (p - 8 * x.length) % 8 by omega]
    rcases Nat.lt_or_ge j x.length with hj | hj
    · rw [List.getElem?_append_left hj, List.getElem?_append_left hj]
      have : ¬ p / 8 = j := by omega
      simp [this]
    · rw [List.getElem?_append_right hj, List.getElem?_append_right hj, List.getElem?_modify]
      by_cases he : p / 8 = j
      · have : (p - 8 * x.length) / 8 = j - x.length := by omega
        simp [he, this]
      · have : ¬ (p - 8 * x.length) / 8 = j - x.length := by omega
        simp [he, this]
/-- A burst ahead of the border. -/
theorem turnTo_left (x y : List UInt8) (a t : Nat) : ∀ k, a + k ≤ 8 * x.length → CrcM.turnTo (x ++ y) a t k = CrcM.turnTo x a t k ++ y := by
  intro k
  induction k with
  | zero => intro _; rfl
  | succ k ih =>
    intro h
    unfold CrcM.turnTo
    rw [ih (by omega)]
    split
    · rw [turnBit_app, if_pos (by rw [CrcM.turnTo_length]; omega)]
    · rfl
/-- A burst behind the border. -/
theorem turnTo_right (x y : List UInt8) (a t : Nat) (h : 8 * x.length ≤ a) : ∀ k, CrcM.turnTo (x ++ y) a t k = x ++ CrcM.turnTo y (a - 8 * x.length) t k := by
  intro k
  induction k with
  | zero => rfl
  | succ k ih =>
    unfold CrcM.turnTo
    rw [ih]
    split
    · rw [turnBit_app, if_neg (by omega), show a + k - 8 * x.length = a - 8 * x.length + k by omega]
    · rfl
/-- A burst over the border. -/
theorem turnTo_over (x y : List UInt8) (a t s : Nat) (h : a + s = 8 * x.length) : ∀ k, CrcM.turnTo (x ++ y) a t (s + k) = CrcM.turnTo x a t s ++ CrcM.turnTo y 0 (t / 2 ^ s) k := by
  intro k
  induction k with
  | zero => rw [Nat.add_zero, turnTo_left x y a t s (by omega)]; rfl
  | succ k ih =>
    rw [← Nat.add_assoc, CrcM.turnTo, CrcM.turnTo, ih, Nat.testBit_div_two_pow, Nat.add_comm k s]
    split
    · rw [turnBit_app, if_neg (by rw [CrcM.turnTo_length]; omega), CrcM.turnTo_length, show a + (s + k) - 8 * x.length = 0 + k by omega]
    · rfl
theorem turnTo_mod (x : List UInt8) (a t s : Nat) : ∀ k, k ≤ s → CrcM.turnTo x a t k = CrcM.turnTo x a (t % 2 ^ s) k := by
  intro k
  induction k with
  | zero => intro _; rfl
  | succ k ih =>
    intro h
    unfold CrcM.turnTo
    rw [ih (by omega), Nat.testBit_mod_two_pow, decide_eq_true (by omega), Bool.true_and]
theorem turnTo_none (x : List UInt8) (a : Nat) : ∀ k, CrcM.turnTo x a 0 k = x := by
  intro k
  induction k with
  | zero => rfl
  | succ k ih =>
    unfold CrcM.turnTo
    rw [ih, Nat.zero_testBit]
    simp

theorem of4_le32 (n : Nat) (hn : n < 4294967296) (tl : List UInt8) : of4 (CrcM.le32 n ++ tl) = n := by
  simp only [CrcM.le32, List.cons_append, of4, CrcM.toNat_ofNat]
  omega

/-- Sealed bytes with a burst in them are no sealed ones. -/
theorem notOpen_burst (l : List UInt8) (a t k : Nat) (hk : a + k ≤ 8 * (l.length + 4)) (hb : t < 2 ^ k) (hb2 : t < 4294967296) (h0 : t ≠ 0) : isOpen (CrcM.turnTo (CrcM.sealed l) a t k) = false := by
  have h := CrcM.altered_burst l a t k hk hb hb2 h0
  unfold isOpen
  rw [CrcM.turnTo_length, CrcM.sealed_length, Nat.add_sub_cancel, decide_eq_false (p := CrcM.sealed _ = _) h, Bool.and_false]
theorem isOpen_sealed (l : List UInt8) : isOpen (CrcM.sealed l) = true := by
  unfold isOpen
  have e : (CrcM.sealed l).take ((CrcM.sealed l).length - 4) = l := by rw [CrcM.sealed_length, Nat.add_sub_cancel, CrcM.sealed, List.take_left']; rfl
  rw [e, CrcM.sealed_length]
  simp
theorem openL_sealed (l : List UInt8) : openL (CrcM.sealed l) = l := by
  unfold openL
  rw [if_pos (isOpen_sealed l), CrcM.sealed_length, Nat.add_sub_cancel, CrcM.sealed, List.take_left']
  rfl

/-- Reading a head that is good, and a body. -/
theorem readE_head (n : Nat) (hn : n ≤ 1048576) (y behind : List UInt8) (hy : y.length = n + 4) :
    rdSize (CrcM.sealed (CrcM.le32 n) ++ y ++ behind) = n ∧ bodyOf (CrcM.sealed (CrcM.le32 n) ++ y ++ behind) = y ∧ readE (CrcM.sealed (CrcM.le32 n) ++ y ++ behind) = if isOpen y = false then 6 else 0 := by
  have h8 : (CrcM.sealed (CrcM.le32 n)).length = 8 := rfl
  have hs : rdSize (CrcM.sealed (CrcM.le32 n) ++ y ++ behind) = n := by
    unfold rdSize CrcM.sealed
    rw [List.append_assoc, List.append_assoc]
    exact of4_le32 n (by omega) _
  have hb : bodyOf (CrcM.sealed (CrcM.le32 n) ++ y ++ behind) = y := by
    unfold bodyOf
    rw [hs, List.append_assoc, List.drop_left' h8, List.take_left' hy]
  refine ⟨hs, hb, ?_⟩
  have ht : (CrcM.sealed (CrcM.le32 n) ++ y ++ behind).take 8 = CrcM.sealed (CrcM.le32 n) := by rw [List.append_assoc, List.take_left' h8]
  have hl : (CrcM.sealed (CrcM.le32 n) ++ y ++ behind).length = n + 12 + behind.length := by rw [List.length_append, List.length_append, h8, hy]; omega
  unfold readE
  rw [ht, hs, hb, hl, isOpen_sealed, if_neg (by omega), if_neg (by simp), if_neg (by omega), if_neg (by omega)]

theorem readE_frame (r behind : List UInt8) (hr : r.length ≤ 1048576) : readE (frameL r ++ behind) = 0 ∧ readN (frameL r ++ behind) = r.length + 12 ∧ readL (frameL r ++ behind) = r := by
  have h := readE_head r.length hr (CrcM.sealed r) behind (CrcM.sealed_length r)
  have e : CrcM.sealed (CrcM.le32 r.length) ++ CrcM.sealed r ++ behind = frameL r ++ behind := rfl
  rw [e] at h
  obtain ⟨h1, h2, h3⟩ := h
  rw [isOpen_sealed] at h3
  have h3 : readE (frameL r ++ behind) = 0 := h3
  refine ⟨h3, ?_, ?_⟩
  · rw [readN, if_pos h3, h1]
  · rw [readL, if_pos h3, h2, openL_sealed]

/-- The theorem of the stage. -/
theorem burst_found (r behind : List UInt8) (hr : r.length ≤ 1048576) (a t k : Nat) (hk : a + k ≤ 8 * (r.length + 12)) (hb : t < 2 ^ k) (hb2 : t < 4294967296) (h0 : t ≠ 0) : readE (CrcM.turnTo (frameL r) a t k ++ behind) = 6 := by
  have h8 : (CrcM.sealed (CrcM.le32 r.length)).length = 8 := rfl
  have headBad : ∀ (x y : List UInt8), x.length = 8 → 4 ≤ y.length → isOpen x = false → readE (x ++ y ++ behind) = 6 := fun x y hx hy ho => by
    unfold readE
    rw [List.append_assoc, List.take_left' hx, ho, if_neg (by rw [List.length_append, hx]; omega), if_pos rfl]
  have bodyBad : ∀ y : List UInt8, y.length = r.length + 4 → isOpen y = false → readE (CrcM.sealed (CrcM.le32 r.length) ++ y ++ behind) = 6 := fun y hy ho => by
    rw [(readE_head r.length hr y behind hy).2.2, if_pos ho]
  unfold frameL
  by_cases hright : 64 ≤ a
  · rw [turnTo_right _ _ a t (by rw [h8]; omega), h8]
    exact bodyBad _ (by rw [CrcM.turnTo_length, CrcM.sealed_length]) (notOpen_burst r (a - 64) t k (by omega) hb hb2 h0)
  · by_cases hleft : a + k ≤ 64
    · rw [turnTo_left _ _ a t k (by rw [h8]; omega)]
      exact headBad _ _ (by rw [CrcM.turnTo_length, h8]) (by rw [CrcM.sealed_length]; omega) (notOpen_burst _ a t k (by rw [CrcM.le32_length]; omega) hb hb2 h0)
    · obtain ⟨s, hs⟩ : ∃ s, a + s = 64 := ⟨64 - a, by omega⟩
      obtain ⟨j, rfl⟩ : ∃ j, k = s + j := ⟨k - s, by omega⟩
      rw [turnTo_over _ _ a t s (by rw [h8]; omega) j]
      by_cases hz : t % 2 ^ s = 0
      · have e1 : CrcM.turnTo (CrcM.sealed (CrcM.le32 r.length)) a t s = CrcM.sealed (CrcM.le32 r.length) := by
          rw [turnTo_mod _ a t s s (Nat.le_refl _), hz, turnTo_none]
        rw [e1]
        have hq : t / 2 ^ s ≠ 0 := fun h => by
          have := Nat.div_add_mod t (2 ^ s)
          rw [h, hz] at this
          omega
        have hql : t / 2 ^ s < 2 ^ j := by
          rw [Nat.div_lt_iff_lt_mul (Nat.two_pow_pos s), ← Nat.pow_add, Nat.add_comm]
          exact hb
        exact bodyBad _ (by rw [CrcM.turnTo_length, CrcM.sealed_length]) (notOpen_burst r 0 _ j (by omega) hql (Nat.lt_of_le_of_lt (Nat.div_le_self _ _) hb2) hq)
      · rw [turnTo_mod _ a t s s (Nat.le_refl _)]
        exact headBad _ _ (by rw [CrcM.turnTo_length, h8]) (by rw [CrcM.turnTo_length, CrcM.sealed_length]; omega)
          (notOpen_burst _ a _ s (by rw [CrcM.le32_length]; omega) (Nat.mod_lt _ (Nat.two_pow_pos s)) (Nat.lt_of_le_of_lt (Nat.mod_le _ _) hb2) hz)
theorem burstOK_iff {n : Nat} {a : Int} {t : Nat} (h : burstOK n a t = true) : 0 ≤ a ∧ (Lib.bitLen t = 0 ∨ a + Lib.bitLen t ≤ 8 * n) := by
  unfold burstOK at h
  simpa using h

/-- A frame with a burst in it, and anything behind: corrupt. -/
theorem altered_read (r behind : List UInt8) (hr : r.length ≤ 1048576) (a : Int) (t : Nat) (ht : t < 4294967296) (h0 : t ≠ 0) (hok : burstOK (frameL r).length a t = true) : readE (burstL (frameL r) a t ++ behind) = 6 := by
  obtain ⟨h1, h2⟩ := burstOK_iff hok
  have hb := Lib.bitLenAux_bounds 64 t (by omega) h0
  have hbl : t < 2 ^ Lib.bitLen t := hb.2.2
  have hbp : 1 ≤ Lib.bitLen t := hb.1
  unfold burstL
  rw [if_pos hok]
  rw [frameL_length] at h2
  exact burst_found r behind hr a.toNat t (Lib.bitLen t) (by omega) hbl ht h0
end Go.Proofs.Ytdmpimgbnhgiaaa
