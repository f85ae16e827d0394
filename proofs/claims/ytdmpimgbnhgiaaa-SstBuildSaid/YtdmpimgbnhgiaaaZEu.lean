/- Walks: the document's numbers, written; what two keys share. -/
import Derived.Test.YtdmpimgbnhgiaaaZBase
import Derived.Test.YtdmpimgbnhgiaaaZEa
import Derived.Deep.Cut
import Derived.Laws.BitsLemmas
import Derived.Lib.AppendStr

namespace Go.Proofs.Ytdmpimgbnhgiaaa
open Go.RowKit Go.St
set_option linter.unusedVariables false
set_option linter.unusedSimpArgs false

/-- A number's bytes. -/
def uv (x : Nat) : List UInt8 := if h : x < 128 then [UInt8.ofNat x] else UInt8.ofNat (x % 128 + 128) :: uv (x / 128)
termination_by x
decreasing_by omega
theorem uv_lt {x : Nat} (h : x < 128) : uv x = [UInt8.ofNat x] := by rw [uv, dif_pos h]
theorem uv_ge {x : Nat} (h : ¬ x < 128) : uv x = UInt8.ofNat (x % 128 + 128) :: uv (x / 128) := by rw [uv, dif_neg h]
/-- The number that bytes begin with, from a place on; how many bytes it has. -/
def rdN : Nat → List UInt8 → Option (Nat × Nat)
  | _, [] => none
  | n, c :: r => if 10 ≤ n then none else if (n = 9 ∧ 1 < c.toNat) ∨ (0 < n ∧ c.toNat = 0) then none else if c.toNat < 128 then some (c.toNat, 1) else (rdN (n + 1) r).map (fun p => (c.toNat % 128 + 128 * p.1, p.2 + 1))
def rdU (bs : List UInt8) : Option (Nat × Nat) := rdN 0 bs
def smU (bs : List UInt8) (most : Int) : Option (Nat × Nat) := (rdU bs).bind (fun p => if 0 ≤ most ∧ (p.1 : Int) ≤ most then some p else none)

theorem uv_pos (x : Nat) : 0 < (uv x).length := by
  by_cases h : x < 128
  · rw [uv_lt h]; simp
  · rw [uv_ge h]; simp
theorem uv_len : ∀ (k x : Nat), x < 128 ^ (k + 1) → (uv x).length ≤ k + 1
  | 0, x, h => by rw [uv_lt (by simpa using h)]; simp
  | k + 1, x, h => by
    by_cases h1 : x < 128
    · rw [uv_lt h1]; simp
    · rw [uv_ge h1, List.length_cons]
      have := uv_len k (x / 128) (by rw [Nat.div_lt_iff_lt_mul (by omega), ← Nat.pow_succ]; exact h)
      omega
theorem uv_len10 {x : Nat} (h : x < 18446744073709551616) : (uv x).length ≤ 10 := uv_len 9 x (by rw [show (128 : Nat) ^ (9 + 1) = 1180591620717411303424 by decide]; omega)
theorem rdN_sound : ∀ (bs : List UInt8) (n v k : Nat), rdN n bs = some (v, k) → bs.take k = uv v ∧ k ≤ bs.length ∧ (0 < n → 0 < v) ∧ n + k ≤ 10 ∧ v < 2 ^ (64 - 7 * n)
  | [], n, v, k, h => by simp [rdN] at h
  | c :: r, n, v, k, h => by
    rw [rdN] at h
    split at h
    · cases h
    rename_i h10
    split at h
    · cases h
    rename_i hc
    split at h
    · rename_i hlt
      injection h with h
      injection h with h1 h2
      subst h1 h2
      refine ⟨by rw [uv_lt hlt]; simp, by simp, fun hn => ?_, by omega, ?_⟩
      · rcases Nat.eq_zero_or_pos c.toNat with h0 | h0
        · exact absurd (.inr ⟨hn, h0⟩) hc
        · exact h0
      · by_cases h9 : n = 9
        · subst h9
          have : ¬ 1 < c.toNat := fun h => hc (.inl ⟨rfl, h⟩)
          show c.toNat < 2
          omega
        · have h8 : 2 ^ 8 ≤ 2 ^ (64 - 7 * n) := Nat.pow_le_pow_right (by omega) (by omega)
          omega
    · rename_i hge
      cases hr : rdN (n + 1) r with
      | none => rw [hr] at h; cases h
      | some p =>
        obtain ⟨v', k'⟩ := p
        rw [hr] at h
        simp only [Option.map_some, Option.some.injEq, Prod.mk.injEq] at h
        obtain ⟨h1, h2⟩ := h
        obtain ⟨i1, i2, i3, i4, i5⟩ := rdN_sound r (n + 1) v' k' hr
        have hp := i3 (by omega)
        have hcl := c.toNat_lt
        subst h1 h2
        refine ⟨?_, by simp only [List.length_cons]; omega, fun _ => by omega, by omega, ?_⟩
        · rw [uv_ge (by omega), List.take_succ_cons, i1]
          congr 1
          · apply UInt8.toNat_inj.1
            rw [UInt8.toNat_ofNat']
            omega
          · congr 1
            omega
        · have e : 64 - 7 * n = (64 - 7 * (n + 1)) + 7 := by omega
          rw [e, Nat.pow_add]
          omega
theorem rdN_uv (r : List UInt8) : ∀ (v n : Nat), n ≤ 9 → v < 2 ^ (64 - 7 * n) → (0 < n → 0 < v) → rdN n (uv v ++ r) = some (v, (uv v).length) := by
  intro v
  induction v using Nat.strongRecOn with
  | _ v ih =>
    intro n hn hv h0
    by_cases h : v < 128
    · rw [uv_lt h, List.cons_append, rdN, if_neg (by omega)]
      have e : (UInt8.ofNat v).toNat = v := by rw [UInt8.toNat_ofNat']; omega
      rw [e, if_neg, if_pos h]
      · simp
      · rintro (⟨h9, h1⟩ | ⟨h1, h2⟩)
        · subst h9
          have : v < 2 := hv
          omega
        · have := h0 h1
          omega
    · have e : (UInt8.ofNat (v % 128 + 128)).toNat = v % 128 + 128 := by rw [UInt8.toNat_ofNat']; omega
      have hn8 : n ≤ 8 := by
        rcases Nat.lt_or_ge n 9 with h1 | h1
        · omega
        · have : n = 9 := by omega
          subst this
          have : v < 2 := hv
          omega
      rw [uv_ge h, List.cons_append, rdN, if_neg (by omega), e, if_neg (show ¬ ((n = 9 ∧ 1 < v % 128 + 128) ∨ (0 < n ∧ v % 128 + 128 = 0)) by omega), if_neg (show ¬ (v % 128 + 128 < 128) by omega)]
      rw [ih (v / 128) (by omega) (n + 1) (by omega) ?_ (by omega)]
      · simp only [Option.map_some, List.length_cons, Option.some.injEq, Prod.mk.injEq]
        exact ⟨by clear e hv ih h0 hn hn8 h; omega, trivial⟩
      · have e2 : 64 - 7 * n = (64 - 7 * (n + 1)) + 7 := by omega
        rw [e2, Nat.pow_add] at hv
        rw [Nat.div_lt_iff_lt_mul (by omega)]
        exact hv
theorem rdU_uv {v : Nat} (h : v < 18446744073709551616) (r : List UInt8) : rdU (uv v ++ r) = some (v, (uv v).length) := rdN_uv r v 0 (by omega) (by simpa using h) (by omega)
theorem rdU_sound {bs : List UInt8} {v k : Nat} (h : rdU bs = some (v, k)) : bs.take k = uv v ∧ k ≤ bs.length ∧ k ≤ 10 ∧ v < 18446744073709551616 := by
  obtain ⟨h1, h2, -, h4, h5⟩ := rdN_sound bs 0 v k h
  exact ⟨h1, h2, by omega, by simpa using h5⟩
theorem rdU_len {bs : List UInt8} {v k : Nat} (h : rdU bs = some (v, k)) : k = (uv v).length := by
  obtain ⟨h1, h2, -, -⟩ := rdU_sound h
  rw [← h1, List.length_take]
  omega
theorem rdU_take {bs : List UInt8} {v k : Nat} (h : bs.take k = uv v) (hk : k ≤ bs.length) (hv : v < 18446744073709551616) : rdU bs = some (v, k) := by
  have e : bs = uv v ++ bs.drop k := by rw [← h, List.take_append_drop]
  have hl : (uv v).length = k := by rw [← h, List.length_take]; omega
  rw [e, rdU_uv hv, hl]
theorem smU_sound {bs : List UInt8} {most : Int} {v k : Nat} (h : smU bs most = some (v, k)) : rdU bs = some (v, k) ∧ 0 ≤ most ∧ (v : Int) ≤ most := by
  unfold smU at h
  cases hr : rdU bs with
  | none => rw [hr] at h; cases h
  | some p =>
    rw [hr, Option.bind_some] at h
    split at h
    · rename_i hm
      injection h with h
      subst h
      exact ⟨rfl, hm⟩
    · cases h
theorem smU_uv {v : Nat} (h : v < 18446744073709551616) {most : Int} (hm : (v : Int) ≤ most) (r : List UInt8) : smU (uv v ++ r) most = some (v, (uv v).length) := by
  unfold smU
  rw [rdU_uv h, Option.bind_some, if_pos ⟨by omega, hm⟩]

/-- What bytes say as a number. -/
def vlU : List UInt8 → Nat
  | [] => 0
  | c :: r => c.toNat % 128 + 128 * vlU r
theorem vlU_uv (x : Nat) : vlU (uv x) = x := by
  induction x using Nat.strongRecOn with
  | _ x ih =>
    by_cases h : x < 128
    · rw [uv_lt h]
      simp only [vlU, UInt8.toNat_ofNat']
      omega
    · rw [uv_ge h, vlU, ih _ (by omega), UInt8.toNat_ofNat']
      omega
/-- The document's way: the first so many bytes that are the bytes of what they say. -/
def rdT (bs : List UInt8) (n : Nat) : Bool := decide (uv (vlU (bs.take n) % 18446744073709551616) = bs.take n)
theorem rdT_yes {bs : List UInt8} {n : Nat} (hn : n ≤ bs.length) (h : rdT bs n = true) : rdU bs = some (vlU (bs.take n) % 18446744073709551616, n) :=
  rdU_take (of_decide_eq_true h).symm hn (Nat.mod_lt _ (by decide))
theorem rdT_none {bs : List UInt8} (h : ∀ n, 1 ≤ n → n ≤ bs.length → n ≤ 10 → rdT bs n = false) : rdU bs = none := by
  cases hr : rdU bs with
  | none => rfl
  | some p =>
    obtain ⟨v, k⟩ := p
    obtain ⟨h1, h2, h3, h4⟩ := rdU_sound hr
    have hk : 1 ≤ k := by rw [rdU_len hr]; exact uv_pos v
    have := h k hk h2 h3
    unfold rdT at this
    rw [h1, vlU_uv, Nat.mod_eq_of_lt h4] at this
    simp at this
end Go.Proofs.Ytdmpimgbnhgiaaa

namespace Go.Proofs.Ytdmpimgbnhgiaaa
open Go.RowKit Go.St Go.Maps
set_option linter.unusedVariables false
set_option linter.unusedSimpArgs false
set_option maxRecDepth 100000

theorem styB : STy Try.prog 26 5 1 1 (.int .u8 0) := ⟨Try.underlying26, ⟨_, rfl, by kernel_rfl, by kernel_rfl, by kernel_rfl⟩, rfl, by decide⟩

theorem or128_dec : ∀ z : Nat, z < 256 → z ||| 128 = z % 128 + 128 := by decide
theorem or128 (y : Nat) : bits .or .u8 ((y : Int) % 256) 128 = ((y % 128 + 128 : Nat) : Int) := by
  have h := u8_or_nat (y % 256) 128 (by omega) (by omega)
  rw [or128_dec _ (by omega)] at h
  have e : ((y % 256 : Nat) : Int) = (y : Int) % 256 := by omega
  rw [← e, show (128 : Int) = ((128 : Nat) : Int) by rfl, h]
  congr 1
  omega
theorem bt_more (y : Nat) : bt (UInt8.ofNat (y % 128 + 128)) = .int .u8 ((y % 128 + 128 : Nat) : Int) := by
  unfold bt
  rw [UInt8.toNat_ofNat']
  congr 1
  omega
theorem bt_last {y : Nat} (h : y < 128) : bt (UInt8.ofNat y) = .int .u8 (y : Int) := by
  unfold bt
  rw [UInt8.toNat_ofNat']
  congr 1
  omega
set_option maxHeartbeats 1600000 in
theorem appU_any (A : Option Addr) (n c B : Nat) (bs : List UInt8) (hl : bs.length = n) (hn : n ≤ 100000000) (x : Nat) (hx : x < 18446744073709551616) (w : World) (hr : Rd w B A (bv bs)) (hB : B ≤ w.heap.size) :
    Calls Try.prog 36 #[.slice A n c, .int .u64 (x : Int)] w fun e w' => ∃ v, e = .returned v ∧ w'.ownsRow w.heap.size 5 1 v (n + (uv x).length) (bv (bs ++ uv x)) ∧ Below w.heap.size w w' := by
  have HL := Lib.hid hl; clear hl
  have HR := Lib.hid hr; clear hr
  have HX := Lib.hid hx; clear hx
  go_enter Try.func36, Try.ntmps36
  go_wp2_with (at_builtin; refine wpList_app styB (.const (.slice none 0 0)) (.tmp 6) rfl rfl w.heap.size (World.ownsRow_nil w _ _ _) rfl n c HR.out rfl (by rw [bv_length, HL.out]; omega) (bv_one _) (by unfold maxLen; omega) (by omega) (Nat.le_refl _) ?_; intro v1 w1 own1 gr1 nil1 at1)
  have HB : Hid (Below w.heap.size w w1) := Lib.hid ((Below.refl _ _).grown gr1 (Nat.le_refl _) (by simp [Value.ownBlock]))
  have HO : Hid (w1.ownsRow w.heap.size 5 1 v1 (n + ([] : List UInt8).length) (bv (bs ++ []))) := Lib.hid (own_eq own1 (by simp) (by simp))
  clear own1 gr1 nil1 at1
  go_loopw [1, 5] (fun s1 s5 wr => ∃ (y : Nat) (pre : List UInt8), s1 = .int .u64 (y : Int) ∧ Hid (uv x = pre ++ uv y ∧ y < 18446744073709551616) ∧ Hid (wr.ownsRow w.heap.size 5 1 s5 (n + pre.length) (bv (bs ++ pre))) ∧ Hid (Below w.heap.size w wr)) (fun s1 _ _ => (intOf s1).toNat)
  case atStart => exact ⟨x, [], rfl, Lib.hid ⟨rfl, HX.out⟩, HO, HB⟩
  case round =>
    clear HO HB
    obtain ⟨y, pre, rfl, HY, OW, B2⟩ := hrel
    obtain ⟨w2, rfl⟩ : ∃ x, x = wr := ⟨_, rfl⟩
    have hy := HY.out.2
    have hpl : pre.length ≤ 10 := by
      have h1 := congrArg List.length HY.out.1
      have h2 := uv_len10 HX.out
      rw [List.length_append] at h1
      omega
    obtain ⟨A5, c5, rfl, -, -⟩ := own_sl OW.out
    by_cases hge : 128 ≤ y
    · have i1 : (128 : Int) ≤ (y : Int) := by omega
      have e1 := or128 y
      have hs2 := B2.out.size
      have HU := Lib.hid (uv_ge (show ¬ y < 128 by omega))
      go_wp2_with (at_builtin; refine wpList_app styB (.tmp 12) (.tmp 16) rfl rfl w.heap.size (OW.out.alloc _) rfl 1 1 (rd_frC _ _ _ _) rfl rfl (by simp [Value.oneCell']) (by unfold maxLen; omega) (by omega) (by rw [World.size_alloc]; omega) ?_; intro v5 w5 own5 gr5 nil5 at5; obtain ⟨A6, c6, rfl, -, -⟩ := own_sl own5)
      have B5 := Lib.hid ((B2.out.alloc hs2 _).grown gr5 (by rw [World.size_alloc]; omega) (fun g e => (OW.out.lt g e).1))
      have O5 : Hid (w5.ownsRow w.heap.size 5 1 (.slice A6 (n + pre.length + 1) c6) (n + (pre ++ [UInt8.ofNat (y % 128 + 128)]).length) (bv (bs ++ (pre ++ [UInt8.ofNat (y % 128 + 128)])))) := Lib.hid (own_eq own5 (by rw [List.length_append]; simp only [List.length_cons, List.length_nil]; omega) (by rw [← List.append_assoc, bv_append (bs ++ pre)]; simp only [bv, List.map_cons, List.map_nil, bt_more]; rw [show ((y % 128 + 128 : Nat) : Int) = (y : Int) % 128 + 128 by omega]))
      have H5 : Hid (uv x = (pre ++ [UInt8.ofNat (y % 128 + 128)]) ++ uv (y / 128) ∧ y / 128 < 18446744073709551616) := Lib.hid ⟨by rw [HY.out.1, HU.out]; simp, by omega⟩
      clear own5 gr5 nil5 at5 HU
      go_roundw
      case rel => exact ⟨y / 128, _, by simp, H5, O5, B5⟩
      case measure => simp [intOf]; omega
    · have i1 : ¬ (128 : Int) ≤ (y : Int) := by omega
      have e1 : (y : Int) % 256 = (y : Int) := by omega
      have hs2 := B2.out.size
      have HU := Lib.hid (uv_lt (show y < 128 by omega))
      have HBT := Lib.hid (bt_last (show y < 128 by omega))
      go_wp2_with (at_builtin; refine wpList_app styB (.tmp 18) (.tmp 21) rfl rfl w.heap.size (OW.out.alloc _) rfl 1 1 (rd_frC _ _ _ _) rfl rfl (by simp [Value.oneCell']) (by unfold maxLen; omega) (by omega) (by rw [World.size_alloc]; omega) ?_; intro v5 w5 own5 gr5 nil5 at5; obtain ⟨A6, c6, rfl, -, -⟩ := own_sl own5)
      have B5 := Lib.hid ((B2.out.alloc hs2 _).grown gr5 (by rw [World.size_alloc]; omega) (fun g e => (OW.out.lt g e).1))
      go_ret
      exact ⟨_, rfl, own_eq own5 (by rw [HY.out.1, HU.out, List.length_append]; simp only [List.length_cons, List.length_nil]; omega) (by rw [HY.out.1, HU.out, ← List.append_assoc, bv_append (bs ++ pre)]; simp only [bv, List.map_cons, List.map_nil]; rw [HBT.out]), B5.out⟩
end Go.Proofs.Ytdmpimgbnhgiaaa

namespace Go.Proofs.Ytdmpimgbnhgiaaa
open Go.RowKit Go.St Go.Maps
set_option linter.unusedVariables false
set_option linter.unusedSimpArgs false
set_option maxRecDepth 100000

/-- append(b, s...) of a string. -/
theorem wp_appS {P : Program} {t u e : TypeId} (E : STy P t e 1 1 (.int .u8 0)) (hu : P.underlying u = some .string) {w : World} {o : Oper} {a : Act} {K : Act → World → Prop} {Q : Exit → Act → World → Prop} (s x : Operand)
    (ho : o.op = .call { callee := .builtin .append, args := #[s, x], argTypes := #[t, u] })
    (base : Nat) {v : Value} {n : Nat} {xs : List Value} (hown : w.ownsRow base e 1 v n xs) (hs : a.eval s = v) (k : ByteArray) (hx : a.eval x = .string k)
    (h63 : n + k.size ≤ maxLen) (hbytes : n + k.size ≤ 140737488355328) (hbase : base ≤ w.heap.size)
    (h : ∀ v' w', w'.ownsRow base e 1 v' (n + k.size) (xs ++ bv k.data.toList) → w.grownBy w' v.ownBlock → K (a.put o.dst v') w') :
    o.wp P a w K Q := by
  obtain ⟨i, hi, hz, hsz, hb⟩ := E.hi
  obtain ⟨v', w', hrun, h2, h3, h4⟩ := Lib.run_append_own_string (P := P) w base t u o.type e i E.ht hu hi hz hsz hb v n xs hown k h63 hbytes hbase
  unfold Oper.wp execOp
  simp only [ho, resolve, invoke, builtin, Sem.run_bind, Sem.run_pure, Result.andThen_ok, List.map_toArray, List.map_cons, List.map_nil, hs, hx, hrun]
  exact h v' w' h2 h3
theorem wpList_appS {P : Program} {t u e : TypeId} (E : STy P t e 1 1 (.int .u8 0)) (hu : P.underlying u = some .string) {w : World} {ops : Array Oper} {rest : List Oper} {o : Oper} {a : Act} {Q : Exit → Act → World → Prop} (s x : Operand) (hgd : o.guard = none)
    (ho : o.op = .call { callee := .builtin .append, args := #[s, x], argTypes := #[t, u] })
    (base : Nat) {v : Value} {n : Nat} {xs : List Value} (hown : w.ownsRow base e 1 v n xs) (hs : a.eval s = v) (k : ByteArray) (hx : a.eval x = .string k)
    (h63 : n + k.size ≤ maxLen) (hbytes : n + k.size ≤ 140737488355328) (hbase : base ≤ w.heap.size)
    (h : ∀ v' w', w'.ownsRow base e 1 v' (n + k.size) (xs ++ bv k.data.toList) → w.grownBy w' v.ownBlock → wpList P ops Q rest (a.put o.dst v') w') :
    wpList P ops Q (o :: rest) a w :=
  wpList_plain hgd fun _ hK => wp_appS E hu s x ho base hown hs k hx h63 hbytes hbase fun v' w' h2 h3 => hK _ _ (h v' w' h2 h3)

set_option maxHeartbeats 1600000 in
theorem rbytes_any (x : Nat) : ∀ (w : World), x < 18446744073709551616 →
    Calls Try.prog 46 #[.int .u64 (x : Int)] w fun e w' => ∃ v, e = .returned v ∧ w'.ownsRow w.heap.size 5 1 v (uv x).length (bv (uv x)) ∧ Below w.heap.size w w' := by
  induction x using Nat.strongRecOn with
  | _ x ih =>
    intro w hx
    have HX := Lib.hid hx
    have IH := Lib.hid ih
    clear hx ih
    by_cases hlt : x < 128
    · have i1 : (x : Int) < 128 := by omega
      have e1 : (x : Int) % 256 = (x : Int) := by omega
      have HU := Lib.hid (uv_lt hlt)
      have HBT := Lib.hid (bt_last hlt)
      go_enter Try.func46, Try.ntmps46
      go_wp2_with fail
      go_ret
      exact ⟨_, rfl, by
        rw [HU.out]
        have h := World.ownsRow_lit w (base := w.heap.size) (e := 5) (size := 1) #[.int .u8 (x : Int)] 1 (Nat.le_refl _) (by decide) rfl
        exact own_eq h rfl (by simp only [bv, List.map_cons, List.map_nil]; rw [HBT.out]), (Below.refl _ _).alloc (Nat.le_refl _) _⟩
    · have i1 : ¬ ((x : Int) < 128) := by omega
      have HU := Lib.hid (uv_ge hlt)
      have HLE := Lib.hid (uv_len10 HX.out)
      have HBT := Lib.hid (bt_more x)
      have HIH : Hid (∀ W, Calls Try.prog 46 #[.int .u64 ((x : Int) / 128)] W fun e w' => ∃ v, e = .returned v ∧ w'.ownsRow W.heap.size 5 1 v (uv (x / 128)).length (bv (uv (x / 128))) ∧ Below W.heap.size W w') := Lib.hid (fun W => by
        have h := IH.out (x / 128) (by omega) W (by have := HX.out; omega)
        rwa [show ((x / 128 : Nat) : Int) = (x : Int) / 128 by omega] at h)
      clear IH
      generalize uv (x / 128) = U2 at *
      generalize uv x = U at *
      generalize UInt8.ofNat (x % 128 + 128) = b0 at *
      have hx := HX.out
      go_enter Try.func46, Try.ntmps46
      go_wp2_with fail
      refine (HIH.out _).mono ?_
      rintro e w3 ⟨v3, rfl, own3, hb3⟩
      obtain ⟨A3, c3, rfl, -, r3⟩ := own_sl own3
      have O2 := Lib.hid (own_keep (World.ownsRow_lit w (base := w.heap.size) (e := 5) (size := 1) #[.int .u8 ((x : Int) % 128 + 128)] 1 (Nat.le_refl _) (by decide) rfl) hb3 (Nat.le_refl _))
      have B3 : Hid (Below w.heap.size w w3) := Lib.hid (((Below.refl _ _).alloc (Nat.le_refl _) _).trans (hb3.mono (by simp)))
      have R3 := Lib.hid r3
      have HLU : (U2).length ≤ 10 := by have h := HLE.out; rw [HU.out, List.length_cons] at h; omega
      clear own3 hb3 r3
      go_wp2_with (at_builtin; refine wpList_app styB (.tmp 12) (.tmp 15) rfl rfl w.heap.size O2.out rfl (U2).length c3 R3.out rfl (by rw [bv_length]; omega) (bv_one _) (by unfold maxLen; omega) (by omega) B3.out.size ?_; intro v5 w5 own5 gr5 nil5 at5)
      have B5 := Lib.hid (B3.out.grown gr5 B3.out.size (fun g e => (O2.out.lt g e).1))
      have hlu : U.length = 1 + U2.length := by rw [HU.out, List.length_cons]; omega
      have hbu : bv U = [Value.int .u8 ((x : Int) % 128 + 128)] ++ bv U2 := by
        have h := HBT.out
        rw [show ((x % 128 + 128 : Nat) : Int) = (x : Int) % 128 + 128 by omega] at h
        rw [HU.out, ← h]
        rfl
      have O5 := Lib.hid own5
      clear own5 gr5 nil5 at5 O2 B3 R3
      rw [hlu, hbu]
      clear hlu hbu
      go_ret
      exact ⟨v5, rfl, O5.out, B5.out⟩

set_option maxHeartbeats 1600000 in
theorem rappU_any (A : Option Addr) (n c B : Nat) (bs : List UInt8) (hl : bs.length = n) (hn : n ≤ 100000000) (x : Nat) (hx : x < 18446744073709551616) (w : World) (hr : Rd w B A (bv bs)) (hB : B ≤ w.heap.size) :
    Calls Try.prog 44 #[.slice A n c, .int .u64 (x : Int)] w fun e w' => ∃ v, e = .returned v ∧ w'.ownsRow w.heap.size 5 1 v (n + (uv x).length) (bv (bs ++ uv x)) ∧ Below w.heap.size w w' := by
  have HL := Lib.hid hl; clear hl
  have HR := Lib.hid hr; clear hr
  have HLE := Lib.hid (uv_len10 hx)
  have HBY := Lib.hid (fun W => rbytes_any x W hx)
  clear hx
  generalize uv x = U at *
  go_enter Try.func44, Try.ntmps44
  go_wp2_with (at_builtin; refine wpList_app styB (.tmp 5) (.tmp 6) rfl rfl w.heap.size (World.ownsRow_lit w #[] 0 (Nat.le_refl _) (by decide) rfl) rfl n c (HR.out.alloc hB _) rfl (by rw [bv_length, HL.out]; omega) (bv_one _) (by unfold maxLen; omega) (by omega) (by simp) ?_; intro v1 w1 own1 gr1 nil1 at1)
  have B1 : Hid (Below w.heap.size w w1) := Lib.hid (((Below.refl _ _).alloc (Nat.le_refl _) _).grown gr1 (by simp) (by simp [Value.ownBlock]))
  have O1 : Hid (w1.ownsRow w.heap.size 5 1 v1 n (bv bs)) := Lib.hid (own_eq own1 (by omega) (by simp))
  clear own1 gr1 nil1 at1
  refine (HBY.out _).mono ?_
  rintro e w3 ⟨v3, rfl, own3, hb3⟩
  obtain ⟨A3, c3, rfl, -, r3⟩ := own_sl own3
  have O3 := Lib.hid (own_keep O1.out hb3 (Nat.le_refl _))
  have B3 := Lib.hid (B1.out.trans (hb3.mono B1.out.size))
  have R3 := Lib.hid r3
  have HLU := HLE.out
  clear own3 hb3 r3 O1 B1
  go_wp2_with (at_builtin; refine wpList_app styB (.tmp 7) (.tmp 9) rfl rfl w.heap.size O3.out rfl U.length c3 R3.out rfl (by rw [bv_length]; omega) (bv_one _) (by unfold maxLen; omega) (by omega) B3.out.size ?_; intro v5 w5 own5 gr5 nil5 at5)
  have B5 := Lib.hid (B3.out.grown gr5 B3.out.size (fun g e => (O3.out.lt g e).1))
  go_ret
  exact ⟨_, rfl, own_eq own5 rfl (by rw [bv_append]), B5.out⟩

/-- How many first bytes two keys share. -/
def shrL : List UInt8 → List UInt8 → Nat
  | a :: r, b :: s => if a = b then shrL r s + 1 else 0
  | _, _ => 0
theorem shrL_le : ∀ (a b : List UInt8), shrL a b ≤ a.length ∧ shrL a b ≤ b.length
  | [], _ => by simp [shrL]
  | _ :: _, [] => by simp [shrL]
  | a :: r, b :: s => by
    rw [shrL]
    have := shrL_le r s
    split <;> simp only [List.length_cons] <;> omega
theorem shrL_take : ∀ (a b : List UInt8), a.take (shrL a b) = b.take (shrL a b)
  | [], _ => by simp [shrL]
  | _ :: _, [] => by simp [shrL]
  | a :: r, b :: s => by
    rw [shrL]
    split
    · rename_i h
      subst h
      rw [List.take_succ_cons, List.take_succ_cons, shrL_take r s]
    · simp
theorem shr_step {a b : List UInt8} {k : Nat} (ha : k < a.length) (hb : k < b.length) : shrL (a.drop k) (b.drop k) = if a[k] = b[k] then shrL (a.drop (k + 1)) (b.drop (k + 1)) + 1 else 0 := by
  rw [List.drop_eq_getElem_cons ha, List.drop_eq_getElem_cons hb, shrL]
theorem shr_end {a b : List UInt8} {k : Nat} (h : a.length ≤ k ∨ b.length ≤ k) : shrL (a.drop k) (b.drop k) = 0 := by
  rcases h with h | h
  · rw [List.drop_eq_nil_of_le h]
    simp [shrL]
  · rw [List.drop_eq_nil_of_le h]
    cases a.drop k <;> simp [shrL]
theorem key_get (a : ByteArray) (k : Nat) (h : k < a.size) : a.data.toList[k]'(by simpa using h) = a[k] := rfl
set_option maxHeartbeats 1600000 in
theorem shared_any (a b : ByteArray) (ha : a.size ≤ 1000000) (hb : b.size ≤ 1000000) (w : World) : Calls Try.prog 65 #[.string a, .string b] w fun e w' => e = .returned (.int .i64 (shrL a.data.toList b.data.toList : Nat)) ∧ Below w.heap.size w w' := by
  obtain ⟨S, hS⟩ : ∃ S, S = shrL a.data.toList b.data.toList := ⟨_, rfl⟩
  rw [← hS]
  have HS : Hid (S = 0 + shrL (a.data.toList.drop 0) (b.data.toList.drop 0)) := Lib.hid (by rw [hS]; simp)
  clear hS
  have HLA : Hid (a.data.toList.length = a.size) := Lib.hid Array.length_toList
  have HLB : Hid (b.data.toList.length = b.size) := Lib.hid Array.length_toList
  go_enter Try.func65, Try.ntmps65
  go_wp2_with fail
  go_loopw [5] (fun s5 wr => ∃ k : Nat, s5 = .int .i64 (k : Int) ∧ k ≤ a.size ∧ k ≤ b.size ∧ Hid (S = k + shrL (a.data.toList.drop k) (b.data.toList.drop k)) ∧ Hid (Below w.heap.size w wr)) (fun s5 _ => a.size - (intOf s5).toNat)
  case atStart => exact ⟨0, rfl, Nat.zero_le _, Nat.zero_le _, HS, Lib.hid (Below.refl _ _)⟩
  case round =>
    clear HS
    obtain ⟨k, rfl, hka, hkb, HQ, B1⟩ := hrel
    obtain ⟨w2, rfl⟩ : ∃ x, x = wr := ⟨_, rfl⟩
    have k0 : (0 : Int) ≤ (k : Int) := by omega
    by_cases h1 : k < a.size
    case neg =>
      have i1 : ¬ ((k : Int) < (a.size : Int)) := by omega
      have i2 : decide ((k : Int) < (a.size : Int)) = false := decide_eq_false i1
      have i3 : decide (k < a.size) = false := decide_eq_false h1
      have SEQ : Hid (S = k) := Lib.hid (by rw [HQ.out, shr_end (.inl (by rw [HLA.out]; omega))]; rfl)
      clear HQ h1
      go_wp2_with fail
      refine wp_qall (by kernel_rfl) (by kernel_rfl) ?_
      intro hcg
      repeat (first | go_big_quiet_step (fail) | quiet_step (fail))
      refine wpQuiet_nil ?_
      intro wq hbwq hcwq hfwq
      clear hcg
      have B9 := Lib.hid (B1.out.trans (hbwq.mono B1.out.size))
      clear hbwq hcwq hfwq
      go_wp2_with fail
      go_ret
      exact ⟨ret_int (by rw [SEQ.out]), B9.out⟩
    have i1 : (k : Int) < (a.size : Int) := by omega
    have i2 : decide ((k : Int) < (a.size : Int)) = true := decide_eq_true i1
    have i3 : decide (k < a.size) = true := decide_eq_true h1
    by_cases h2 : k < b.size
    case neg =>
      have j1 : ¬ ((k : Int) < (b.size : Int)) := by omega
      have j2 : decide ((k : Int) < (b.size : Int)) = false := decide_eq_false j1
      have j3 : decide (k < b.size) = false := decide_eq_false h2
      have SEQ : Hid (S = k) := Lib.hid (by rw [HQ.out, shr_end (.inr (by rw [HLB.out]; omega))]; rfl)
      clear HQ h2
      go_wp2_with fail
      refine wp_qall (by kernel_rfl) (by kernel_rfl) ?_
      intro hcg
      repeat (first | go_big_quiet_step (fail) | quiet_step (fail))
      refine wpQuiet_nil ?_
      intro wq hbwq hcwq hfwq
      clear hcg
      have B9 := Lib.hid (B1.out.trans (hbwq.mono B1.out.size))
      clear hbwq hcwq hfwq
      go_wp2_with fail
      go_ret
      exact ⟨ret_int (by rw [SEQ.out]), B9.out⟩
    have j1 : (k : Int) < (b.size : Int) := by omega
    have j2 : decide ((k : Int) < (b.size : Int)) = true := decide_eq_true j1
    have j3 : decide (k < b.size) = true := decide_eq_true h2
    have HST := Lib.hid (shr_step (a := a.data.toList) (b := b.data.toList) (k := k) (by rw [HLA.out]; exact h1) (by rw [HLB.out]; exact h2))
    by_cases hq : a[k] = b[k]
    · have e1 : (((a[k]).toNat : Int) == ((b[k]).toNat : Int)) = true := by rw [hq]; simp
      have HQ9 : Hid (S = (k + 1) + shrL (a.data.toList.drop (k + 1)) (b.data.toList.drop (k + 1))) := Lib.hid (by rw [HQ.out, HST.out, if_pos (by rw [key_get a k h1, key_get b k h2]; exact hq)]; omega)
      clear HQ hq HST
      go_wp2_with fail
      refine wp_qall (by kernel_rfl) (by kernel_rfl) ?_
      intro hcg
      repeat (first | go_big_quiet_step (fail) | quiet_step (fail))
      refine wpQuiet_nil ?_
      intro wq hbwq hcwq hfwq
      clear hcg
      have B9 := Lib.hid (B1.out.trans (hbwq.mono B1.out.size))
      clear hbwq hcwq hfwq
      go_wp2_with fail
      go_roundw
      case rel => exact ⟨k + 1, by go_num, by omega, by omega, HQ9, B9⟩
      case measure => simp [intOf]; omega
    · have e1 : (((a[k]).toNat : Int) == ((b[k]).toNat : Int)) = false := by
        rw [beq_eq_false_iff_ne]
        intro e
        exact hq (UInt8.toNat_inj.1 (by omega))
      have SEQ : Hid (S = k) := Lib.hid (by rw [HQ.out, HST.out, if_neg (by rw [key_get a k h1, key_get b k h2]; exact hq)]; rfl)
      clear HQ hq HST
      go_wp2_with fail
      refine wp_qall (by kernel_rfl) (by kernel_rfl) ?_
      intro hcg
      repeat (first | go_big_quiet_step (fail) | quiet_step (fail))
      refine wpQuiet_nil ?_
      intro wq hbwq hcwq hfwq
      clear hcg
      have B9 := Lib.hid (B1.out.trans (hbwq.mono B1.out.size))
      clear hbwq hcwq hfwq
      go_wp2_with fail
      go_ret
      exact ⟨ret_int (by rw [SEQ.out]), B9.out⟩
set_option maxHeartbeats 1600000 in
theorem rshared_any (a b : ByteArray) (ha : a.size ≤ 1000000) (hb : b.size ≤ 1000000) (w : World) : Calls Try.prog 75 #[.string a, .string b] w fun e w' => e = .returned (.int .i64 (shrL a.data.toList b.data.toList : Nat)) ∧ Below w.heap.size w w' := by
  obtain ⟨S, hS⟩ : ∃ S, S = shrL a.data.toList b.data.toList := ⟨_, rfl⟩
  rw [← hS]
  have HS : Hid (S = 0 + shrL (a.data.toList.drop 0) (b.data.toList.drop 0)) := Lib.hid (by rw [hS]; simp)
  clear hS
  have HLA : Hid (a.data.toList.length = a.size) := Lib.hid Array.length_toList
  have HLB : Hid (b.data.toList.length = b.size) := Lib.hid Array.length_toList
  go_enter Try.func75, Try.ntmps75
  go_wp2_with fail
  go_loopw [5] (fun s5 wr => ∃ k : Nat, s5 = .int .i64 (k : Int) ∧ k ≤ a.size ∧ k ≤ b.size ∧ Hid (S = k + shrL (a.data.toList.drop k) (b.data.toList.drop k)) ∧ Hid (Below w.heap.size w wr)) (fun s5 _ => a.size - (intOf s5).toNat)
  case atStart => exact ⟨0, rfl, Nat.zero_le _, Nat.zero_le _, HS, Lib.hid (Below.refl _ _)⟩
  case round =>
    clear HS
    obtain ⟨k, rfl, hka, hkb, HQ, B1⟩ := hrel
    obtain ⟨w2, rfl⟩ : ∃ x, x = wr := ⟨_, rfl⟩
    have k0 : (0 : Int) ≤ (k : Int) := by omega
    by_cases h1 : k < a.size
    case neg =>
      have i1 : ¬ ((k : Int) < (a.size : Int)) := by omega
      have i2 : decide ((k : Int) < (a.size : Int)) = false := decide_eq_false i1
      have i3 : decide (k < a.size) = false := decide_eq_false h1
      have SEQ : Hid (S = k) := Lib.hid (by rw [HQ.out, shr_end (.inl (by rw [HLA.out]; omega))]; rfl)
      clear HQ h1
      go_wp2_with fail
      refine wp_qall (by kernel_rfl) (by kernel_rfl) ?_
      intro hcg
      repeat (first | go_big_quiet_step (fail) | quiet_step (fail))
      refine wpQuiet_nil ?_
      intro wq hbwq hcwq hfwq
      clear hcg
      have B9 := Lib.hid (B1.out.trans (hbwq.mono B1.out.size))
      clear hbwq hcwq hfwq
      go_wp2_with fail
      go_ret
      exact ⟨ret_int (by rw [SEQ.out]), B9.out⟩
    have i1 : (k : Int) < (a.size : Int) := by omega
    have i2 : decide ((k : Int) < (a.size : Int)) = true := decide_eq_true i1
    have i3 : decide (k < a.size) = true := decide_eq_true h1
    by_cases h2 : k < b.size
    case neg =>
      have j1 : ¬ ((k : Int) < (b.size : Int)) := by omega
      have j2 : decide ((k : Int) < (b.size : Int)) = false := decide_eq_false j1
      have j3 : decide (k < b.size) = false := decide_eq_false h2
      have SEQ : Hid (S = k) := Lib.hid (by rw [HQ.out, shr_end (.inr (by rw [HLB.out]; omega))]; rfl)
      clear HQ h2
      go_wp2_with fail
      refine wp_qall (by kernel_rfl) (by kernel_rfl) ?_
      intro hcg
      repeat (first | go_big_quiet_step (fail) | quiet_step (fail))
      refine wpQuiet_nil ?_
      intro wq hbwq hcwq hfwq
      clear hcg
      have B9 := Lib.hid (B1.out.trans (hbwq.mono B1.out.size))
      clear hbwq hcwq hfwq
      go_wp2_with fail
      go_ret
      exact ⟨ret_int (by rw [SEQ.out]), B9.out⟩
    have j1 : (k : Int) < (b.size : Int) := by omega
    have j2 : decide ((k : Int) < (b.size : Int)) = true := decide_eq_true j1
    have j3 : decide (k < b.size) = true := decide_eq_true h2
    have HST := Lib.hid (shr_step (a := a.data.toList) (b := b.data.toList) (k := k) (by rw [HLA.out]; exact h1) (by rw [HLB.out]; exact h2))
    by_cases hq : a[k] = b[k]
    · have e1 : (((a[k]).toNat : Int) == ((b[k]).toNat : Int)) = true := by rw [hq]; simp
      have HQ9 : Hid (S = (k + 1) + shrL (a.data.toList.drop (k + 1)) (b.data.toList.drop (k + 1))) := Lib.hid (by rw [HQ.out, HST.out, if_pos (by rw [key_get a k h1, key_get b k h2]; exact hq)]; omega)
      clear HQ hq HST
      go_wp2_with fail
      refine wp_qall (by kernel_rfl) (by kernel_rfl) ?_
      intro hcg
      repeat (first | go_big_quiet_step (fail) | quiet_step (fail))
      refine wpQuiet_nil ?_
      intro wq hbwq hcwq hfwq
      clear hcg
      have B9 := Lib.hid (B1.out.trans (hbwq.mono B1.out.size))
      clear hbwq hcwq hfwq
      go_wp2_with fail
      go_roundw
      case rel => exact ⟨k + 1, by go_num, by omega, by omega, HQ9, B9⟩
      case measure => simp [intOf]; omega
    · have e1 : (((a[k]).toNat : Int) == ((b[k]).toNat : Int)) = false := by
        rw [beq_eq_false_iff_ne]
        intro e
        exact hq (UInt8.toNat_inj.1 (by omega))
      have SEQ : Hid (S = k) := Lib.hid (by rw [HQ.out, HST.out, if_neg (by rw [key_get a k h1, key_get b k h2]; exact hq)]; rfl)
      clear HQ hq HST
      go_wp2_with fail
      refine wp_qall (by kernel_rfl) (by kernel_rfl) ?_
      intro hcg
      repeat (first | go_big_quiet_step (fail) | quiet_step (fail))
      refine wpQuiet_nil ?_
      intro wq hbwq hcwq hfwq
      clear hcg
      have B9 := Lib.hid (B1.out.trans (hbwq.mono B1.out.size))
      clear hbwq hcwq hfwq
      go_wp2_with fail
      go_ret
      exact ⟨ret_int (by rw [SEQ.out]), B9.out⟩
end Go.Proofs.Ytdmpimgbnhgiaaa
