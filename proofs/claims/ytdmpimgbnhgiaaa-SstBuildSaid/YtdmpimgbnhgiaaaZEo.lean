/- Walks: a block is read: the two closures. -/
import Derived.Test.YtdmpimgbnhgiaaaZEm
import Derived.Test.YtdmpimgbnhgiaaaZEu
import Derived.Deep.Cut
import Derived.Lib.EndianBits

namespace Go.Proofs.Ytdmpimgbnhgiaaa
open Go.RowKit Go.St Go.Maps
set_option linter.unusedVariables false
set_option linter.unusedSimpArgs false
set_option maxRecDepth 100000

theorem drop_at' {α : Type} {l : List α} {i : Nat} {x : α} (h : l[i]? = some x) : l.drop i = x :: l.drop (i + 1) := by
  have hi := (List.getElem?_eq_some_iff.1 h).1
  rw [List.drop_eq_getElem_cons hi]
  congr 1
  exact (List.getElem?_eq_some_iff.1 h).2
def rdV (bs : List UInt8) : Nat × Nat × Int := match rdU bs with
  | some p => (p.1, p.2, 0)
  | none => (0, 0, 5)
theorem rdV_none {bs : List UInt8} (h : rdU bs = none) : rdV bs = (0, 0, 5) := by unfold rdV; rw [h]
theorem rdV_some {bs : List UInt8} {x k : Nat} (h : rdU bs = some (x, k)) : rdV bs = (x, k, 0) := by unfold rdV; rw [h]
theorem andNot128 : ∀ z : Nat, z < 256 → bits .andNot .u8 (z : Int) 128 = ((z % 128 : Nat) : Int) := by decide +kernel
theorem pow128 (k : Nat) : (128 : Nat) ^ k = 2 ^ (7 * k) := by rw [Nat.pow_mul]
theorem or_step {X z k : Nat} (hX : X < 128 ^ k) (hz : z < 256) (hk : k ≤ 9) (h9 : k = 9 → z ≤ 1) : bits .or .u64 (X : Int) (IntKind.u64.wrap (IntKind.u64.wrap (bits .andNot .u8 (z : Int) 128) * 2 ^ (7 * k))) = ((X + z % 128 * 128 ^ k : Nat) : Int) ∧ X + z % 128 * 128 ^ k < 18446744073709551616 := by
  have hp : (128 : Nat) ^ k ≤ 128 ^ 9 := Nat.pow_le_pow_right (by omega) hk
  have e9 : (128 : Nat) ^ 9 = 9223372036854775808 := by decide
  have hm : z % 128 * 128 ^ k + 128 ^ k ≤ 18446744073709551616 := by
    by_cases h : k = 9
    · have h1 := h9 h
      subst h
      rw [e9]
      omega
    · have hp8 : (128 : Nat) ^ k ≤ 128 ^ 8 := Nat.pow_le_pow_right (by omega) (by omega)
      have e8 : (128 : Nat) ^ 8 = 72057594037927936 := by decide
      have h1 : z % 128 * 128 ^ k ≤ 127 * 128 ^ k := Nat.mul_le_mul_right _ (by omega)
      omega
  have e1 : IntKind.u64.wrap (bits .andNot .u8 (z : Int) 128) = ((z % 128 : Nat) : Int) := by
    rw [andNot128 z hz]
    exact IntWalk.u64_in _ (by omega)
  have e2 : ((z % 128 : Nat) : Int) * 2 ^ (7 * k) = ((z % 128 * 128 ^ k : Nat) : Int) := by
    rw [pow128, Int.natCast_mul, Int.natCast_pow]
    rfl
  have e3 : IntKind.u64.wrap ((z % 128 * 128 ^ k : Nat) : Int) = ((z % 128 * 128 ^ k : Nat) : Int) := IntWalk.u64_in _ (by omega)
  rw [e1, e2, e3]
  refine ⟨?_, by omega⟩
  rw [bits_join_low .u64 64 (by decide) wraps_u64 (7 * k) (X : Int) _ (by omega) ?_ ?_ (by omega) ?_ ?_]
  · rw [Int.natCast_add]
  · rw [pow128] at hX
    exact_mod_cast hX
  · have : (X : Int) < 18446744073709551616 := by omega
    simpa using this
  · rw [pow128]
    rw [show ((z % 128 * 2 ^ (7 * k) : Nat) : Int) = ((z % 128 : Nat) : Int) * 2 ^ (7 * k) by rw [Int.natCast_mul, Int.natCast_pow]; rfl]
    exact Int.mul_emod_left _ _
  · have : ((z % 128 * 128 ^ k : Nat) : Int) < 18446744073709551616 := by omega
    simpa using this
theorem rd_stop {bs : List UInt8} {k X : Nat} {ch : UInt8} (hch : bs[k]? = some ch) (h : rdU bs = (rdN k (bs.drop k)).map (fun p => (X + 128 ^ k * p.1, k + p.2))) (hs : (k = 9 ∧ 1 < ch.toNat) ∨ (0 < k ∧ ch.toNat = 0)) : rdU bs = none := by
  rw [h, drop_at' hch, rdN, if_pos hs]
  split <;> rfl
theorem rd_ret {bs : List UInt8} {k X : Nat} {ch : UInt8} (hch : bs[k]? = some ch) (h : rdU bs = (rdN k (bs.drop k)).map (fun p => (X + 128 ^ k * p.1, k + p.2))) (hk : k < 10) (hs : ¬ ((k = 9 ∧ 1 < ch.toNat) ∨ (0 < k ∧ ch.toNat = 0))) (hl : ch.toNat < 128) : rdU bs = some (X + ch.toNat % 128 * 128 ^ k, k + 1) := by
  rw [h, drop_at' hch, rdN, if_neg (by omega), if_neg hs, if_pos hl, Option.map_some, Nat.mod_eq_of_lt hl, Nat.mul_comm]
theorem rd_on {bs : List UInt8} {k X : Nat} {ch : UInt8} (hch : bs[k]? = some ch) (h : rdU bs = (rdN k (bs.drop k)).map (fun p => (X + 128 ^ k * p.1, k + p.2))) (hk : k < 10) (hs : ¬ ((k = 9 ∧ 1 < ch.toNat) ∨ (0 < k ∧ ch.toNat = 0))) (hl : ¬ ch.toNat < 128) : rdU bs = (rdN (k + 1) (bs.drop (k + 1))).map (fun p => ((X + ch.toNat % 128 * 128 ^ k) + 128 ^ (k + 1) * p.1, k + 1 + p.2)) := by
  rw [h, drop_at' hch, rdN, if_neg (by omega), if_neg hs, if_neg hl, Option.map_map]
  congr 1
  funext p
  simp only [Function.comp_apply, Prod.mk.injEq]
  refine ⟨?_, by omega⟩
  rw [Nat.pow_succ, Nat.mul_add, Nat.add_assoc, Nat.mul_comm (128 ^ k) (ch.toNat % 128), Nat.mul_assoc (128 ^ k) 128 p.1]
theorem rd_end {bs : List UInt8} {k X : Nat} (h : rdU bs = (rdN k (bs.drop k)).map (fun p => (X + 128 ^ k * p.1, k + p.2))) (hk : bs.length ≤ k ∨ 10 ≤ k) : rdU bs = none := by
  rw [h]
  rcases hk with hk | hk
  · rw [List.drop_eq_nil_of_le hk]
    simp [rdN]
  · cases bs.drop k with
    | nil => simp [rdN]
    | cons a r =>
      rw [rdN, if_pos hk]
      rfl
set_option maxHeartbeats 1600000 in
theorem read_any (A : Option Addr) (n c B : Nat) (bs : List UInt8) (hl : bs.length = n) (hn : n ≤ 100000000) (w : World) (hr : Rd w B A (bv bs)) :
    Calls Try.prog 90 #[.slice A n c] w fun e w' => e = .returned (.tuple #[.int .u64 ((rdV bs).1 : Nat), .int .i64 ((rdV bs).2.1 : Nat), .int .i64 (rdV bs).2.2]) ∧ w = w' := by
  have HL := Lib.hid hl; clear hl
  have HR := Lib.hid hr; clear hr
  obtain ⟨V, hV⟩ : ∃ V, V = rdV bs := ⟨_, rfl⟩
  rw [← hV]
  have HV := Lib.hid hV; clear hV
  have HB : Hid (rdU bs = (rdN 0 (bs.drop 0)).map (fun p => (0 + 128 ^ 0 * p.1, 0 + p.2)) ∧ 0 < 128 ^ 0) := Lib.hid ⟨by simp [rdU], by decide⟩
  go_enter Try.func90, Try.ntmps90
  go_wp2
  go_loop [2, 3] (fun s2 s3 => ∃ X k : Nat, s2 = .int .u64 (X : Int) ∧ s3 = .int .i64 (k : Int) ∧ k ≤ n ∧ k ≤ 10 ∧ Hid (rdU bs = (rdN k (bs.drop k)).map (fun p => (X + 128 ^ k * p.1, k + p.2)) ∧ X < 128 ^ k)) (fun _ s3 => 10 - (intOf s3).toNat)
  case atStart => exact ⟨0, 0, rfl, rfl, Nat.zero_le _, Nat.zero_le _, HB⟩
  case round =>
    clear HB
    obtain ⟨X, k, rfl, rfl, hkn, hk10, HX⟩ := hrel
    by_cases hlt : k < n ∧ k < 10
    · obtain ⟨hlt, hlt2⟩ := hlt
      obtain ⟨ch, hch⟩ : ∃ ch, bs[k]? = some ch := ⟨_, List.getElem?_eq_getElem (by rw [HL.out]; exact hlt)⟩
      have hbt : (bv bs)[k]? = some (bt ch) := by simp [bv, hch]
      obtain ⟨b, off, rfl, hb, hcell⟩ := HR.out.at_ hbt
      unfold bt at hcell
      have hc0 := ch.toNat_lt
      have HCH := Lib.hid hch
      obtain ⟨z, hz⟩ : ∃ z, ch.toNat = z := ⟨_, rfl⟩
      rw [hz] at hcell hc0
      have HZ := Lib.hid hz
      have i1 : (k : Int) < (n : Int) := by omega
      have i2 : (k : Int) < 10 := by omega
      have i0 : (0 : Int) ≤ (k : Int) := by omega
      clear hch hbt hz
      by_cases h9 : 9 ≤ k
      · have j9' : ((k : Int) == 9) = true := by rw [beq_iff_eq]; omega
        by_cases z1 : 1 < z
        · have z1' : (1 : Int) < (z : Int) := by omega
          have SEQ : Hid (V = (0, 0, 5)) := Lib.hid (by rw [HV.out]; exact rdV_none (rd_stop HCH.out HX.out.1 (by rw [HZ.out]; exact .inl ⟨by omega, z1⟩)))
          clear HV
          go_wp2
          go_ret3
          exact ⟨by rw [SEQ.out]; rfl, rfl⟩
        have z1' : ¬ (1 : Int) < (z : Int) := by omega
        have k0' : (0 : Int) < (k : Int) := by omega
        by_cases z0 : z = 0
        · have z0' : ((z : Int) == 0) = true := by rw [z0]; rfl
          have HZ0 := Lib.hid z0
          clear z0
          have SEQ : Hid (V = (0, 0, 5)) := Lib.hid (by rw [HV.out]; exact rdV_none (rd_stop HCH.out HX.out.1 (by rw [HZ.out]; exact .inr ⟨by omega, HZ0.out⟩)))
          clear HV
          go_wp2
          go_ret3
          exact ⟨by rw [SEQ.out]; rfl, rfl⟩
        have z0' : ((z : Int) == 0) = false := by rw [beq_eq_false_iff_ne]; omega
        have hzl : (z : Int) < 128 := by omega
        have HN : Hid (¬ ((k = 9 ∧ 1 < z) ∨ (0 < k ∧ z = 0))) := Lib.hid (by omega)
        have OS := or_step HX.out.2 hc0 (by omega) (by omega)
        obtain ⟨Y, hY⟩ : ∃ Y, Y = X + z % 128 * 128 ^ k := ⟨_, rfl⟩
        rw [← hY] at OS
        have SEQ : Hid (V = (Y, k + 1, 0)) := Lib.hid (by rw [HV.out, hY, ← HZ.out]; exact rdV_some (rd_ret HCH.out HX.out.1 hlt2 (by rw [HZ.out]; exact HN.out) (by rw [HZ.out]; omega)))
        have OS1 := OS.1
        clear HV hY OS
        go_wp2
        go_ret3
        exact ⟨by rw [SEQ.out]; rfl, rfl⟩
      have j9' : ((k : Int) == 9) = false := by rw [beq_eq_false_iff_ne]; omega
      by_cases k0 : k = 0
      · have hX := HX.out
        subst k0
        have X0 : X = 0 := by have := hX.2; simpa using this
        subst X0
        rw [Nat.add_zero] at hcell
        clear j9' i1 i2 i0
        by_cases zl : z < 128
        case pos =>
          have OS := or_step (X := 0) (k := 0) (by decide) hc0 (by omega) (by omega)
          have HN : Hid (¬ (((0 : Nat) = 9 ∧ 1 < z) ∨ (0 < 0 ∧ z = 0))) := Lib.hid (by omega)
          have e1 := andNot128 z hc0
          have e2 : z % 128 = z := by omega
          rw [e2] at e1
          have e3 : IntKind.u64.wrap (z : Int) = (z : Int) := IntWalk.u64_in _ (by omega)
          have SEQ : Hid (V = (z, 1, 0)) := Lib.hid (by rw [HV.out]; exact rdV_some (by have := rd_ret HCH.out hX.1 (by omega) (by rw [HZ.out]; exact HN.out) (by rw [HZ.out]; exact zl); rw [this, HZ.out]; simp [e2]))
          have e4 : bits .or .u64 0 (z : Int) = (z : Int) := by
            have h := OS.1
            rw [e1, e3] at h
            simpa [e3, e2] using h
          have zl' : (z : Int) < 128 := by omega
          clear HV OS HN hX HX e2
          go_wp2
          go_ret3
          exact ⟨by rw [SEQ.out]; rfl, rfl⟩
        case neg =>
          have OS := or_step (X := 0) (k := 0) (by decide) hc0 (by omega) (by omega)
          have HN : Hid (¬ (((0 : Nat) = 9 ∧ 1 < z) ∨ (0 < 0 ∧ z = 0))) := Lib.hid (by omega)
          have e1 := andNot128 z hc0
          obtain ⟨y, hy⟩ : ∃ y, y = z % 128 := ⟨_, rfl⟩
          rw [← hy] at e1
          have e3 : IntKind.u64.wrap (y : Int) = (y : Int) := IntWalk.u64_in _ (by omega)
          have e4 : bits .or .u64 0 (y : Int) = (y : Int) := by
            have h := OS.1
            rw [e1, e3, ← hy] at h
            simpa [e3] using h
          have HX9 : Hid (rdU bs = (rdN 1 (bs.drop 1)).map (fun p => (y + 128 ^ 1 * p.1, 1 + p.2)) ∧ y < 128 ^ 1) := Lib.hid ⟨by
            have h := rd_on HCH.out hX.1 (by omega) (by rw [HZ.out]; exact HN.out) (by rw [HZ.out]; omega)
            rw [h, HZ.out, ← hy]
            simp, by rw [Nat.pow_one]; omega⟩
          have zl' : ¬ ((z : Int) < 128) := by omega
          have hn1 : 1 ≤ n := by omega
          clear OS HN hX HX hy zl
          go_wp2
          go_round
          case rel => exact ⟨y, 1, rfl, rfl, hn1, by omega, HX9⟩
          case measure => simp [intOf]
      have k0' : (0 : Int) < (k : Int) := by omega
      by_cases z0 : z = 0
      · have z0' : ((z : Int) == 0) = true := by rw [z0]; rfl
        have HZ0 := Lib.hid z0
        clear z0
        have SEQ : Hid (V = (0, 0, 5)) := Lib.hid (by rw [HV.out]; exact rdV_none (rd_stop HCH.out HX.out.1 (by rw [HZ.out]; exact .inr ⟨by omega, HZ0.out⟩)))
        clear HV
        go_wp2
        go_ret3
        exact ⟨by rw [SEQ.out]; rfl, rfl⟩
      have z0' : ((z : Int) == 0) = false := by rw [beq_eq_false_iff_ne]; omega
      by_cases zl : z < 128
      case pos =>
        have hzl : (z : Int) < 128 := by omega
        have HN : Hid (¬ ((k = 9 ∧ 1 < z) ∨ (0 < k ∧ z = 0))) := Lib.hid (by omega)
        have OS := or_step HX.out.2 hc0 (by omega) (by omega)
        obtain ⟨Y, hY⟩ : ∃ Y, Y = X + z % 128 * 128 ^ k := ⟨_, rfl⟩
        rw [← hY] at OS
        have SEQ : Hid (V = (Y, k + 1, 0)) := Lib.hid (by rw [HV.out, hY, ← HZ.out]; exact rdV_some (rd_ret HCH.out HX.out.1 hlt2 (by rw [HZ.out]; exact HN.out) (by rw [HZ.out]; omega)))
        have OS1 := OS.1
        clear HV hY OS
        go_wp2
        go_ret3
        exact ⟨by rw [SEQ.out]; rfl, rfl⟩
      case neg =>
        have hzl : ¬ ((z : Int) < 128) := by omega
        have HN : Hid (¬ ((k = 9 ∧ 1 < z) ∨ (0 < k ∧ z = 0))) := Lib.hid (by omega)
        have OS := or_step HX.out.2 hc0 (by omega) (by omega)
        obtain ⟨Y, hY⟩ : ∃ Y, Y = X + z % 128 * 128 ^ k := ⟨_, rfl⟩
        rw [← hY] at OS
        have HX9 : Hid (rdU bs = (rdN (k + 1) (bs.drop (k + 1))).map (fun p => (Y + 128 ^ (k + 1) * p.1, k + 1 + p.2)) ∧ Y < 128 ^ (k + 1)) := Lib.hid ⟨by rw [hY, ← HZ.out]; exact rd_on HCH.out HX.out.1 hlt2 (by rw [HZ.out]; exact HN.out) (by rw [HZ.out]; omega), by
          have h1 := HX.out.2
          have h2 : z % 128 * 128 ^ k ≤ 127 * 128 ^ k := Nat.mul_le_mul_right _ (by omega)
          rw [Nat.pow_succ]
          omega⟩
        have OS1 := OS.1
        clear hY OS HX
        go_wp2
        go_round
        case rel => exact ⟨Y, k + 1, rfl, by go_num, by omega, by omega, HX9⟩
        case measure => simp [intOf]; omega
    · have SEQ : Hid (V = (0, 0, 5)) := Lib.hid (by rw [HV.out]; exact rdV_none (rd_end HX.out.1 (by rw [HL.out]; omega)))
      by_cases hlt2 : k < n
      · have i1 : (k : Int) < (n : Int) := by omega
        have i2 : ¬ (k : Int) < 10 := by omega
        clear hlt
        go_wp2
        go_ret3
        exact ⟨by rw [SEQ.out]; rfl, rfl⟩
      · have i1 : ¬ (k : Int) < (n : Int) := by omega
        clear hlt
        go_wp2
        go_ret3
        exact ⟨by rw [SEQ.out]; rfl, rfl⟩

def smV (bs : List UInt8) (most : Int) : Nat × Nat × Int := match smU bs most with
  | some p => (p.1, p.2, 0)
  | none => (0, 0, 5)
theorem smV_none {bs : List UInt8} {most : Int} (h : smU bs most = none) : smV bs most = (0, 0, 5) := by unfold smV; rw [h]
theorem smV_some {bs : List UInt8} {most : Int} {x k : Nat} (h : smU bs most = some (x, k)) : smV bs most = (x, k, 0) := by unfold smV; rw [h]
/-- The three ways of reading a small number. -/
theorem smV_cases (bs : List UInt8) (most : Int) : (rdU bs = none ∧ rdV bs = (0, 0, 5) ∧ smU bs most = none) ∨ (∃ x k, rdU bs = some (x, k) ∧ rdV bs = (x, k, 0) ∧ x < 18446744073709551616 ∧ k ≤ 10 ∧ ((¬ (0 ≤ most ∧ (x : Int) ≤ most) ∧ smU bs most = none) ∨ (0 ≤ most ∧ (x : Int) ≤ most ∧ smU bs most = some (x, k)))) := by
  cases h : rdU bs with
  | none => exact .inl ⟨rfl, rdV_none h, by unfold smU; rw [h]; rfl⟩
  | some p =>
    obtain ⟨x, k⟩ := p
    obtain ⟨h1, h2, h3, h4⟩ := rdU_sound h
    refine .inr ⟨x, k, rfl, rdV_some h, h4, h3, ?_⟩
    by_cases hm : 0 ≤ most ∧ (x : Int) ≤ most
    · exact .inr ⟨hm.1, hm.2, by unfold smU; rw [h, Option.bind_some, if_pos hm]⟩
    · exact .inl ⟨hm, by unfold smU; rw [h, Option.bind_some, if_neg hm]⟩
set_option maxHeartbeats 1600000 in
theorem small_any (A : Option Addr) (n c B : Nat) (bs : List UInt8) (hl : bs.length = n) (hn : n ≤ 100000000) (most : Int) (hm : most ≤ 9223372036854775807) (w : World) (hr : Rd w B A (bv bs)) (hB : B ≤ w.heap.size) :
    Calls Try.prog 79 #[.slice A n c, .int .i64 most] w fun e w' => e = .returned (.tuple #[.int .i64 ((smV bs most).1 : Nat), .int .i64 ((smV bs most).2.1 : Nat), .int .i64 (smV bs most).2.2]) ∧ Below w.heap.size w w' := by
  have HRD : Hid (Calls Try.prog 90 #[.slice A n c] w fun e w' => e = .returned (.tuple #[.int .u64 ((rdV bs).1 : Nat), .int .i64 ((rdV bs).2.1 : Nat), .int .i64 (rdV bs).2.2]) ∧ Below w.heap.size w w') := Lib.hid ((read_any A n c B bs hl hn w hr).mono fun _ _ h => ⟨h.1, by rw [← h.2]; exact Below.refl _ _⟩)
  obtain ⟨V, hV⟩ : ∃ V, V = smV bs most := ⟨_, rfl⟩
  rw [← hV]
  have HV := Lib.hid hV; clear hV hr hl
  rcases smV_cases bs most with ⟨h1, h2, h3⟩ | ⟨x, k, h1, h2, hx, hk, ⟨h3, h4⟩ | ⟨h3, h4, h5⟩⟩
  · have SEQ : Hid (V = (0, 0, 5)) := Lib.hid (by rw [HV.out]; exact smV_none h3)
    rw [h2] at HRD
    clear HV h1 h2 h3
    go_enter Try.func79, Try.ntmps79
    go_wp2_with fail
    refine HRD.out.mono ?_
    rintro e w2 ⟨rfl, hb⟩
    have B2 := Lib.hid hb
    clear hb
    go_wp2_with fail
    go_ret3
    exact ⟨by rw [SEQ.out]; rfl, B2.out⟩
  · have SEQ : Hid (V = (0, 0, 5)) := Lib.hid (by rw [HV.out]; exact smV_none h4)
    rw [h2] at HRD
    have H3 := Lib.hid h3
    clear HV h1 h2 h3 h4
    by_cases m0 : most < 0
    · go_enter Try.func79, Try.ntmps79
      go_wp2_with fail
      refine HRD.out.mono ?_
      rintro e w2 ⟨rfl, hb⟩
      have B2 := Lib.hid hb
      clear hb
      go_wp2_with fail
      go_ret3
      exact ⟨by rw [SEQ.out]; rfl, B2.out⟩
    · have m1 : 0 ≤ most := by omega
      have m2 : most < (x : Int) := by have := H3.out; omega
      clear m0
      go_enter Try.func79, Try.ntmps79
      go_wp2_with fail
      refine HRD.out.mono ?_
      rintro e w2 ⟨rfl, hb⟩
      have B2 := Lib.hid hb
      clear hb
      go_wp2_with fail
      go_ret3
      exact ⟨by rw [SEQ.out]; rfl, B2.out⟩
  · have SEQ : Hid (V = (x, k, 0)) := Lib.hid (by rw [HV.out]; exact smV_some h5)
    rw [h2] at HRD
    have m1 : ¬ (most < 0) := by omega
    have m2 : ¬ (most < (x : Int)) := by omega
    have m3 : (x : Int) ≤ 9223372036854775807 := by omega
    clear HV h1 h2 h5
    go_enter Try.func79, Try.ntmps79
    go_wp2_with fail
    refine HRD.out.mono ?_
    rintro e w2 ⟨rfl, hb⟩
    have B2 := Lib.hid hb
    clear hb
    go_wp2_with fail
    go_ret3
    exact ⟨by rw [SEQ.out]; rfl, B2.out⟩

end Go.Proofs.Ytdmpimgbnhgiaaa

namespace Go.Proofs.Ytdmpimgbnhgiaaa
open Go.RowKit Go.St Go.Maps
set_option linter.unusedVariables false
set_option linter.unusedSimpArgs false
set_option maxRecDepth 100000

/-- All but two blocks stay. -/
structure Two (p : Nat) (w w' : World) : Prop where
  os : w'.os = w.os
  tape : w'.tape = w.tape
  output : w'.output = w.output
  size : w.heap.size ≤ w'.heap.size
  block : ∀ k, k < w.heap.size → k ≠ p → k ≠ p + 1 → w'.heap[k]? = w.heap[k]?
theorem Two.refl (p : Nat) (w : World) : Two p w w := ⟨rfl, rfl, rfl, Nat.le_refl _, fun _ _ _ _ => rfl⟩
theorem Two.of_below {p : Nat} {w w' : World} (h : Below w.heap.size w w') : Two p w w' := ⟨h.os, h.tape, h.output, h.size, fun k hk _ _ => h.block k hk⟩
theorem Two.trans {p : Nat} {x y z : World} (h : Two p x y) (k : Two p y z) : Two p x z :=
  ⟨k.os.trans h.os, k.tape.trans h.tape, k.output.trans h.output, Nat.le_trans h.size k.size, fun i hi h1 h2 => (k.block i (Nat.lt_of_lt_of_le hi h.size) h1 h2).trans (h.block i hi h1 h2)⟩
theorem Two.set {p : Nat} {x w : World} (h : Two p x w) (q : Addr) (hq : q.block = p ∨ q.block = p + 1) (u : Value) : Two p x (w.setCell q u) :=
  h.trans ⟨rfl, rfl, rfl, by simp, fun k hk h1 h2 => Below.heap_setCell _ _ _ _ (by omega)⟩
theorem Two.cell {p : Nat} {w w' : World} (h : Two p w w') {q : Addr} (hq : q.block < w.heap.size) (h1 : q.block ≠ p) (h2 : q.block ≠ p + 1) : w'.cell? q = w.cell? q := World.cell?_of_block (w := w) (h.block q.block hq h1 h2)
theorem Two.frozen {p : Nat} {w w' : World} (h : Two p w w') {q : Addr} (hq : q.block < w.heap.size) (h1 : q.block ≠ p) (h2 : q.block ≠ p + 1) : w'.frozen? q = w.frozen? q := World.frozen?_of_block (w := w) (h.block q.block hq h1 h2)
theorem Two.to_below {p : Nat} {w w' : World} (h : Two p w w') (hp : p ≤ w.heap.size) : Below p w w' := ⟨h.os, h.tape, h.output, h.size, fun k hk => h.block k (by omega) (by omega) (by omega)⟩

def smallF (p : Nat) : Value := .func (.func 91) #[] #[.pointer (some ⟨p, 0, none⟩), .pointer (some ⟨p + 1, 0, none⟩)]
/-- The reader's three variables. -/
structure DS (w : World) (p : Nat) (A : Option Addr) (n c : Nat) (bs : List UInt8) (bad : Bool) : Prop where
  lt : p + 2 < w.heap.size
  c4 : w.cell? ⟨p, 0, none⟩ = some (.slice A n c)
  f4 : w.frozen? ⟨p, 0, none⟩ = false
  c5 : w.cell? ⟨p + 1, 0, none⟩ = some (.bool bad)
  f5 : w.frozen? ⟨p + 1, 0, none⟩ = false
  c6 : w.cell? ⟨p + 2, 0, none⟩ = some (smallF p)
  rd : Rd w p A (bv bs)
  hl : bs.length = n
  nc : n ≤ c
  hn : n ≤ 100000000
  hc : c ≤ 9223372036854775807
theorem DS.next {w w' : World} {p : Nat} {A : Option Addr} {n c : Nat} {bs : List UInt8} {bad : Bool} (h : DS w p A n c bs bad) (hb : Below w.heap.size w w') : DS w' p A n c bs bad := by
  have l := h.lt
  exact ⟨Nat.lt_of_lt_of_le h.lt hb.size, (hb.cell (p := ⟨p, 0, none⟩) (by show p < _; omega)).trans h.c4, (hb.frozen (p := ⟨p, 0, none⟩) (by show p < _; omega)).trans h.f4, (hb.cell (p := ⟨p + 1, 0, none⟩) (by show p + 1 < _; omega)).trans h.c5, (hb.frozen (p := ⟨p + 1, 0, none⟩) (by show p + 1 < _; omega)).trans h.f5, (hb.cell (p := ⟨p + 2, 0, none⟩) (by show p + 2 < _; omega)).trans h.c6, h.rd.below (hb.mono (by omega)), h.hl, h.nc, h.hn, h.hc⟩
theorem DS.bad {w : World} {p : Nat} {A : Option Addr} {n c : Nat} {bs : List UInt8} {bad : Bool} (h : DS w p A n c bs bad) : DS (w.setCell ⟨p + 1, 0, none⟩ (.bool true)) p A n c bs true := by
  have l := h.lt
  refine ⟨by simpa using h.lt, ?_, ?_, ?_, ?_, ?_, ?_, h.hl, h.nc, h.hn, h.hc⟩
  · rw [World.cell?_setCell_far _ _ _ _ (show (⟨p + 1, 0, none⟩ : Addr).block ≠ (⟨p, 0, none⟩ : Addr).block by show p + 1 ≠ p; omega)]; exact h.c4
  · simpa using h.f4
  · exact World.cell?_setCell_same w ⟨p + 1, 0, none⟩ (.bool true) (by rw [h.c5])
  · simpa using h.f5
  · rw [World.cell?_setCell_far _ _ _ _ (show (⟨p + 1, 0, none⟩ : Addr).block ≠ (⟨p + 2, 0, none⟩ : Addr).block by show p + 1 ≠ p + 2; omega)]; exact h.c6
  · exact h.rd.setCell (by show p ≤ p + 1; omega) _
theorem DS.cut {w : World} {p : Nat} {A A' : Option Addr} {n c k : Nat} {bs : List UInt8} {bad : Bool} (h : DS w p A n c bs bad) (hk : k ≤ n) (hA : A' = if c = k then A else A.map (·.add k)) : DS (w.setCell ⟨p, 0, none⟩ (.slice A' (n - k) (c - k))) p A' (n - k) (c - k) (bs.drop k) bad := by
  have l := h.lt
  have n1 := h.nc
  have n2 := h.hn
  have n3 := h.hc
  refine ⟨by simpa using h.lt, ?_, ?_, ?_, ?_, ?_, ?_, by rw [List.length_drop, h.hl], by omega, by omega, by omega⟩
  · exact World.cell?_setCell_same w ⟨p, 0, none⟩ (.slice A' (n - k) (c - k)) (by rw [h.c4])
  · simpa using h.f4
  · rw [World.cell?_setCell_far _ _ _ _ (show (⟨p, 0, none⟩ : Addr).block ≠ (⟨p + 1, 0, none⟩ : Addr).block by show p ≠ p + 1; omega)]; exact h.c5
  · simpa using h.f5
  · rw [World.cell?_setCell_far _ _ _ _ (show (⟨p, 0, none⟩ : Addr).block ≠ (⟨p + 2, 0, none⟩ : Addr).block by show p ≠ p + 2; omega)]; exact h.c6
  · have h1 := h.rd.drop k (cap := c) (by rw [bv_length, h.hl]; exact h.nc)
    rw [← hA] at h1
    have e : (bv bs).drop k = bv (bs.drop k) := by simp [bv]
    rw [e] at h1
    exact h1.setCell (Nat.le_refl _) _

/-- What the first closure answers. -/
def SmO (p : Nat) (bs : List UInt8) (o : Option (Nat × Nat)) (w : World) (e : Ending) (w' : World) : Prop := match o with
  | none => e = .returned (.int .i64 0) ∧ (∃ A n c bs', DS w' p A n c bs' true) ∧ Two p w w'
  | some q => e = .returned (.int .i64 (q.1 : Int)) ∧ (∃ A n c, DS w' p A n c (bs.drop q.2) false) ∧ Two p w w'
def smB (bad : Bool) (bs : List UInt8) (most : Int) : Option (Nat × Nat) := if bad then none else smU bs most

set_option maxHeartbeats 1600000 in
theorem dsmall_any (most : Int) (hm : most ≤ 9223372036854775807) (p : Nat) (A : Option Addr) (n c : Nat) (bs : List UInt8) (bad : Bool) (w : World) (H : DS w p A n c bs bad) :
    Calls Try.prog 91 #[.int .i64 most, .pointer (some ⟨p, 0, none⟩), .pointer (some ⟨p + 1, 0, none⟩)] w (SmO p bs (smB bad bs most) w) := by
  obtain ⟨o, ho⟩ : ∃ o, o = smB bad bs most := ⟨_, rfl⟩
  rw [← ho]
  have HO := Lib.hid ho
  clear ho
  have HS := Lib.hid (small_any A n c p bs H.hl H.hn most hm w H.rd (by have := H.lt; omega))
  have hc4 := H.c4
  have hl := H.lt
  have HH := Lib.hid H
  clear H
  have hp1 : p < w.heap.size := by omega
  have hp2 : p + 1 < w.heap.size := by omega
  go_enter Try.func91, Try.ntmps91
  go_wp2_with fail
  refine HS.out.mono ?_
  rintro e w2 ⟨rfl, hb⟩
  have H2 := Lib.hid (HH.out.next hb)
  have T2 : Hid (Two p w w2) := Lib.hid (Two.of_below hb)
  have hq2 : p < w2.heap.size := by have := hb.size; omega
  have hq3 : p + 1 < w2.heap.size := by have := hb.size; omega
  clear hb hc4 HS HH
  have d4 := H2.out.c4
  have d5 := H2.out.c5
  have g4 := H2.out.f4
  have g5 := H2.out.f5
  cases bad
  · rcases smV_cases bs most with ⟨h1, h2, h3⟩ | ⟨x, k, h1, h2, hx, hk, ⟨h3, h4⟩ | ⟨h3, h4, h5⟩⟩
    · rw [smV_none h3]
      have HN : Hid (o = none) := Lib.hid (by rw [HO.out]; exact h3)
      clear h1 h2 h3
      go_wp2_with fail
      go_ret
      rw [HN.out]
      exact ⟨rfl, ⟨_, _, _, _, H2.out.bad⟩, T2.out.set _ (.inr rfl) _⟩
    · rw [smV_none h4]
      have HN : Hid (o = none) := Lib.hid (by rw [HO.out]; exact h4)
      clear h1 h2 h3 h4
      go_wp2_with fail
      go_ret
      rw [HN.out]
      exact ⟨rfl, ⟨_, _, _, _, H2.out.bad⟩, T2.out.set _ (.inr rfl) _⟩
    · rw [smV_some h5]
      have HN : Hid (o = some (x, k)) := Lib.hid (by rw [HO.out]; exact h5)
      have hkn : k ≤ n := by have h6 := (rdU_sound h1).2.1; have := H2.out.hl; omega
      have hnc := H2.out.nc
      have hcc := H2.out.hc
      have k0 : (0 : Int) ≤ (k : Int) := by omega
      have k1 : (k : Int) ≤ (n : Int) := by omega
      have k2 : (n : Int) ≤ (c : Int) := by omega
      have D := H2.out.cut hkn (A' := if c = k then A else A.map (·.add k)) rfl
      clear h1 h2 h3 h4 h5
      by_cases hck : c = k
      · rw [if_pos hck] at D
        subst hck
        obtain rfl : n = c := by omega
        rw [Nat.sub_self] at D
        have DD := Lib.hid D
        clear D
        go_wp2_with fail
        go_ret
        rw [HN.out]
        exact ⟨rfl, ⟨_, _, _, DD.out⟩, T2.out.set _ (.inl rfl) _⟩
      · rw [if_neg hck] at D
        have DD := Lib.hid D
        clear D
        go_wp2_with fail
        go_ret
        rw [HN.out]
        exact ⟨rfl, ⟨_, _, _, DD.out⟩, T2.out.set _ (.inl rfl) _⟩
  · have HN : Hid (o = none) := Lib.hid (by rw [HO.out]; rfl)
    go_wp2_with fail
    go_ret
    rw [HN.out]
    exact ⟨rfl, ⟨_, _, _, _, H2.out.bad⟩, T2.out.set _ (.inr rfl) _⟩

/-- A text that is read: its length, its bytes; what is left. -/
def pT (most : Int) (r : List UInt8) : Option (ByteArray × List UInt8) := (smU r most).bind (fun q => if (r.drop q.2).length < q.1 then none else some (⟨((r.drop q.2).take q.1).toArray⟩, (r.drop q.2).drop q.1))
def TxO (p : Nat) (o : Option (ByteArray × List UInt8)) (w : World) (e : Ending) (w' : World) : Prop := match o with
  | none => e = .returned (.string zB) ∧ (∃ A n c bs', DS w' p A n c bs' true) ∧ Two p w w'
  | some q => e = .returned (.string q.1) ∧ (∃ A n c, DS w' p A n c q.2 false) ∧ Two p w w'
def txB (bad : Bool) (bs : List UInt8) (most : Int) : Option (ByteArray × List UInt8) := if bad then none else pT most bs
theorem smO_bad {p : Nat} {bs : List UInt8} {w : World} {e : Ending} {w' : World} {o : Option (Nat × Nat)} (h : SmO p bs o w e w') (ho : o = none) : e = .returned (.int .i64 0) ∧ (∃ A n c bs', DS w' p A n c bs' true) ∧ Two p w w' := by
  subst ho
  exact h
theorem smO_ok {p : Nat} {bs : List UInt8} {w : World} {e : Ending} {w' : World} {o : Option (Nat × Nat)} {x k : Nat} (h : SmO p bs o w e w') (ho : o = some (x, k)) : e = .returned (.int .i64 (x : Int)) ∧ (∃ A n c, DS w' p A n c (bs.drop k) false) ∧ Two p w w' := by
  subst ho
  exact h
set_option maxHeartbeats 3200000 in
theorem dtext_any (most : Int) (hm : most ≤ 9223372036854775807) (p : Nat) (A : Option Addr) (n c : Nat) (bs : List UInt8) (bad : Bool) (w : World) (H : DS w p A n c bs bad) :
    Calls Try.prog 92 #[.int .i64 most, .pointer (some ⟨p + 2, 0, none⟩), .pointer (some ⟨p + 1, 0, none⟩), .pointer (some ⟨p, 0, none⟩)] w (TxO p (txB bad bs most) w) := by
  obtain ⟨o, ho⟩ : ∃ o, o = txB bad bs most := ⟨_, rfl⟩
  rw [← ho]
  have HO := Lib.hid ho
  clear ho
  have HD := Lib.hid (dsmall_any most hm p A n c bs bad w H)
  have hc6 := H.c6
  have hl := H.lt
  have HH := Lib.hid H
  clear H
  unfold smallF at hc6
  go_enter Try.func92, Try.ntmps92
  go_wp2_with fail
  cases bad
  case true =>
    have HN : Hid (o = none) := Lib.hid (by rw [HO.out]; rfl)
    refine (Calls.mono (HD.out) (fun e w' h => smO_bad h rfl)).mono ?_
    rintro e w2 ⟨rfl, ⟨A2, n2, c2, bs2, D2⟩, T2⟩
    have H2 := Lib.hid D2
    have TT := Lib.hid T2
    have d5 := D2.c5
    have g5 := D2.f5
    have hq3 : p + 1 < w2.heap.size := by have := D2.lt; omega
    clear D2 T2 HD HH
    go_wp2_with fail
    go_ret
    rw [HN.out]
    exact ⟨rfl, ⟨_, _, _, _, H2.out.bad⟩, TT.out.set _ (.inr rfl) _⟩
  rcases smV_cases bs most with ⟨h1, h2, h3⟩ | ⟨x, k, h1, h2, hx, hk, ⟨h3, h4⟩ | ⟨h3, h4, h5⟩⟩
  · have H3 := Lib.hid h3
    clear h1 h2 h3
    have HN : Hid (o = none) := Lib.hid (by rw [HO.out]; unfold txB pT; rw [H3.out]; rfl)
    refine (Calls.mono (HD.out) (fun e w' h => smO_bad h H3.out)).mono ?_
    rintro e w2 ⟨rfl, ⟨A2, n2, c2, bs2, D2⟩, T2⟩
    have H2 := Lib.hid D2
    have TT := Lib.hid T2
    have d5 := D2.c5
    have g5 := D2.f5
    have hq3 : p + 1 < w2.heap.size := by have := D2.lt; omega
    clear D2 T2 HD HH
    go_wp2_with fail
    go_ret
    rw [HN.out]
    exact ⟨rfl, ⟨_, _, _, _, H2.out.bad⟩, TT.out.set _ (.inr rfl) _⟩
  · have H3 := Lib.hid h4
    clear h1 h2 h3 h4
    have HN : Hid (o = none) := Lib.hid (by rw [HO.out]; unfold txB pT; rw [H3.out]; rfl)
    refine (Calls.mono (HD.out) (fun e w' h => smO_bad h H3.out)).mono ?_
    rintro e w2 ⟨rfl, ⟨A2, n2, c2, bs2, D2⟩, T2⟩
    have H2 := Lib.hid D2
    have TT := Lib.hid T2
    have d5 := D2.c5
    have g5 := D2.f5
    have hq3 : p + 1 < w2.heap.size := by have := D2.lt; omega
    clear D2 T2 HD HH
    go_wp2_with fail
    go_ret
    rw [HN.out]
    exact ⟨rfl, ⟨_, _, _, _, H2.out.bad⟩, TT.out.set _ (.inr rfl) _⟩
  · have H5 := Lib.hid h5
    have hx9 : (x : Int) ≤ 9223372036854775807 := by omega
    clear h1 h2 h5
    refine (Calls.mono (HD.out) (fun e w' h => smO_ok h H5.out)).mono ?_
    rintro e w2 ⟨rfl, ⟨A2, n2, c2, D2⟩, T2⟩
    have H2 := Lib.hid D2
    have TT := Lib.hid T2
    have d4 := D2.c4
    have d5 := D2.c5
    have g4 := D2.f4
    have g5 := D2.f5
    have hq2 : p < w2.heap.size := by have := D2.lt; omega
    have hq3 : p + 1 < w2.heap.size := by have := D2.lt; omega
    have hnc := D2.nc
    have hcc := D2.hc
    have HLN := Lib.hid D2.hl
    clear D2 T2 HD HH hc6
    by_cases hxn : n2 < x
    · have HN : Hid (o = none) := Lib.hid (by
        rw [HO.out]
        unfold txB pT
        rw [if_neg (by decide), H5.out, Option.bind_some, if_pos (by rw [HLN.out]; exact hxn)])
      have i1 : (n2 : Int) < (x : Int) := by omega
      go_wp2_with fail
      go_ret
      rw [HN.out]
      exact ⟨rfl, ⟨_, _, _, _, H2.out.bad⟩, TT.out.set _ (.inr rfl) _⟩
    · have HN : Hid (o = some (⟨((bs.drop k).take x).toArray⟩, (bs.drop k).drop x)) := Lib.hid (by
        rw [HO.out]
        unfold txB pT
        rw [if_neg (by decide), H5.out, Option.bind_some, if_neg (by rw [HLN.out]; exact hxn)])
      have i1 : ¬ (n2 : Int) < (x : Int) := by omega
      have i2 : (0 : Int) ≤ (x : Int) := by omega
      have i3 : (x : Int) ≤ (c2 : Int) := by omega
      have i4 : (x : Int) ≤ (n2 : Int) := by omega
      have i5 : (n2 : Int) ≤ (c2 : Int) := by omega
      have kc : (convert 26 9 (.slice A2 x c2)).run Try.prog w2 = .ok (.string ⟨((bs.drop k).take x).toArray⟩) w2 := conv_str (P := Try.prog) 26 9 5 x c2 Try.underlying26 Try.underlying5 Try.underlying9 (B := p) (by
        have h := H2.out.rd.take x
        have e : (bv (bs.drop k)).take x = bv ((bs.drop k).take x) := by simp [bv, List.map_take]
        rwa [e] at h) (by rw [List.length_take, HLN.out]; omega)
      have D := H2.out.cut (k := x) (by omega) (A' := if c2 = x then A2 else A2.map (·.add x)) rfl
      by_cases hck : c2 = x
      · rw [if_pos hck] at D
        subst hck
        obtain rfl : n2 = c2 := by omega
        rw [Nat.sub_self] at D
        have DD := Lib.hid D
        clear D
        go_wp2_with fail
        go_ret
        rw [HN.out]
        exact ⟨rfl, ⟨_, _, _, DD.out⟩, TT.out.set _ (.inl rfl) _⟩
      · rw [if_neg hck] at D
        have DD := Lib.hid D
        clear D
        go_wp2_with fail
        go_ret
        rw [HN.out]
        exact ⟨rfl, ⟨_, _, _, DD.out⟩, TT.out.set _ (.inl rfl) _⟩
end Go.Proofs.Ytdmpimgbnhgiaaa
