/- Walks: numbers of a few bytes, read. -/
import Derived.Test.YtmcpjpkidcbgiaaEl
import Derived.Deep.Cut
import Derived.Lib.EndianBits
namespace Go.Proofs.Ytmcpjpkidcbgiaa
open Go.RowKit Go.St Go.Maps
set_option linter.unusedVariables false
set_option linter.unusedSimpArgs false
set_option maxRecDepth 100000

theorem drop_at' {α : Type} {l : List α} {i : Nat} {x : α} (h : l[i]? = some x) : l.drop i = x :: l.drop (i + 1) := by
  have hi := (List.getElem?_eq_some_iff.1 h).1
  rw [List.drop_eq_getElem_cons hi]
  congr 1
  exact (List.getElem?_eq_some_iff.1 h).2
def rdV (bs : List UInt8) : Nat × Nat × Int := match rdU bs with
  | some p => (p.1, p.2, 0)
  | none => (0, 0, 5)
theorem rdV_none {bs : List UInt8} (h : rdU bs = none) : rdV bs = (0, 0, 5) := by unfold rdV; rw [h]
theorem rdV_some {bs : List UInt8} {x k : Nat} (h : rdU bs = some (x, k)) : rdV bs = (x, k, 0) := by unfold rdV; rw [h]
theorem andNot128 : ∀ z : Nat, z < 256 → bits .andNot .u8 (z : Int) 128 = ((z % 128 : Nat) : Int) := by decide +kernel
theorem pow128 (k : Nat) : (128 : Nat) ^ k = 2 ^ (7 * k) := by rw [Nat.pow_mul]
theorem or_step {X z k : Nat} (hX : X < 128 ^ k) (hz : z < 256) (hk : k ≤ 9) (h9 : k = 9 → z ≤ 1) : bits .or .u64 (X : Int) (IntKind.u64.wrap (IntKind.u64.wrap (bits .andNot .u8 (z : Int) 128) * 2 ^ (7 * k))) = ((X + z % 128 * 128 ^ k : Nat) : Int) ∧ X + z % 128 * 128 ^ k < 18446744073709551616 := by
  have hp : (128 : Nat) ^ k ≤ 128 ^ 9 := Nat.pow_le_pow_right (by omega) hk
  have e9 : (128 : Nat) ^ 9 = 9223372036854775808 := by decide
  have hm : z % 128 * 128 ^ k + 128 ^ k ≤ 18446744073709551616 := by
    by_cases h : k = 9
    · have h1 := h9 h
      subst h
      rw [e9]
      omega
    · have hp8 : (128 : Nat) ^ k ≤ 128 ^ 8 := Nat.pow_le_pow_right (by omega) (by omega)
      have e8 : (128 : Nat) ^ 8 = 72057594037927936 := by decide
      have h1 : z % 128 * 128 ^ k ≤ 127 * 128 ^ k := Nat.mul_le_mul_right _ (by omega)
      omega
  have e1 : IntKind.u64.wrap (bits .andNot .u8 (z : Int) 128) = ((z % 128 : Nat) : Int) := by
    rw [andNot128 z hz]
    exact IntWalk.u64_in _ (by omega)
  have e2 : ((z % 128 : Nat) : Int) * 2 ^ (7 * k) = ((z % 128 * 128 ^ k : Nat) : Int) := by
    rw [pow128, Int.natCast_mul, Int.natCast_pow]
    rfl
  have e3 : IntKind.u64.wrap ((z % 128 * 128 ^ k : Nat) : Int) = ((z % 128 * 128 ^ k : Nat) : Int) := IntWalk.u64_in _ (by omega)
  rw [e1, e2, e3]
  refine ⟨?_, by omega⟩
  rw [bits_join_low .u64 64 (by decide) wraps_u64 (7 * k) (X : Int) _ (by omega) ?_ ?_ (by omega) ?_ ?_]
  · rw [Int.natCast_add]
  · rw [pow128] at hX
    exact_mod_cast hX
  · have : (X : Int) < 18446744073709551616 := by omega
    simpa using this
  · rw [pow128]
    rw [show ((z % 128 * 2 ^ (7 * k) : Nat) : Int) = ((z % 128 : Nat) : Int) * 2 ^ (7 * k) by rw [Int.natCast_mul, Int.natCast_pow]; rfl]
    exact Int.mul_emod_left _ _
  · have : ((z % 128 * 128 ^ k : Nat) : Int) < 18446744073709551616 := by omega
    simpa using this
theorem rd_stop {bs : List UInt8} {k X : Nat} {ch : UInt8} (hch : bs[k]? = some ch) (h : rdU bs = (rdN k (bs.drop k)).map (fun p => (X + 128 ^ k * p.1, k + p.2))) (hs : (k = 9 ∧ 1 < ch.toNat) ∨ (0 < k ∧ ch.toNat = 0)) : rdU bs = none := by
  rw [h, drop_at' hch, rdN, if_pos hs]
  split <;> rfl
theorem rd_ret {bs : List UInt8} {k X : Nat} {ch : UInt8} (hch : bs[k]? = some ch) (h : rdU bs = (rdN k (bs.drop k)).map (fun p => (X + 128 ^ k * p.1, k + p.2))) (hk : k < 10) (hs : ¬ ((k = 9 ∧ 1 < ch.toNat) ∨ (0 < k ∧ ch.toNat = 0))) (hl : ch.toNat < 128) : rdU bs = some (X + ch.toNat % 128 * 128 ^ k, k + 1) := by
  rw [h, drop_at' hch, rdN, if_neg (by omega), if_neg hs, if_pos hl, Option.map_some, Nat.mod_eq_of_lt hl, Nat.mul_comm]
theorem rd_on {bs : List UInt8} {k X : Nat} {ch : UInt8} (hch : bs[k]? = some ch) (h : rdU bs = (rdN k (bs.drop k)).map (fun p => (X + 128 ^ k * p.1, k + p.2))) (hk : k < 10) (hs : ¬ ((k = 9 ∧ 1 < ch.toNat) ∨ (0 < k ∧ ch.toNat = 0))) (hl : ¬ ch.toNat < 128) : rdU bs = (rdN (k + 1) (bs.drop (k + 1))).map (fun p => ((X + ch.toNat % 128 * 128 ^ k) + 128 ^ (k + 1) * p.1, k + 1 + p.2)) := by
  rw [h, drop_at' hch, rdN, if_neg (by omega), if_neg hs, if_neg hl, Option.map_map]
  congr 1
  funext p
  simp only [Function.comp_apply, Prod.mk.injEq]
  refine ⟨?_, by omega⟩
  rw [Nat.pow_succ, Nat.mul_add, Nat.add_assoc, Nat.mul_comm (128 ^ k) (ch.toNat % 128), Nat.mul_assoc (128 ^ k) 128 p.1]
theorem rd_end {bs : List UInt8} {k X : Nat} (h : rdU bs = (rdN k (bs.drop k)).map (fun p => (X + 128 ^ k * p.1, k + p.2))) (hk : bs.length ≤ k ∨ 10 ≤ k) : rdU bs = none := by
  rw [h]
  rcases hk with hk | hk
  · rw [List.drop_eq_nil_of_le hk]
    simp [rdN]
  · cases bs.drop k with
    | nil => simp [rdN]
    | cons a r =>
      rw [rdN, if_pos hk]
      rfl
set_option maxHeartbeats 1600000 in
theorem read_any (A : Option Addr) (n c B : Nat) (bs : List UInt8) (hl : bs.length = n) (hn : n ≤ 100000000) (w : World) (hr : Rd w B A (bv bs)) :
    Calls Try.prog 66 #[.slice A n c] w fun e w' => e = .returned (.tuple #[.int .u64 ((rdV bs).1 : Nat), .int .i64 ((rdV bs).2.1 : Nat), .int .i64 (rdV bs).2.2]) ∧ w = w' := by
  have HL := Lib.hid hl; clear hl
  have HR := Lib.hid hr; clear hr
  obtain ⟨V, hV⟩ : ∃ V, V = rdV bs := ⟨_, rfl⟩
  rw [← hV]
  have HV := Lib.hid hV; clear hV
  have HB : Hid (rdU bs = (rdN 0 (bs.drop 0)).map (fun p => (0 + 128 ^ 0 * p.1, 0 + p.2)) ∧ 0 < 128 ^ 0) := Lib.hid ⟨by simp [rdU], by decide⟩
  go_enter Try.func66, Try.ntmps66
  go_wp2
  go_loop [2, 3] (fun s2 s3 => ∃ X k : Nat, s2 = .int .u64 (X : Int) ∧ s3 = .int .i64 (k : Int) ∧ k ≤ n ∧ k ≤ 10 ∧ Hid (rdU bs = (rdN k (bs.drop k)).map (fun p => (X + 128 ^ k * p.1, k + p.2)) ∧ X < 128 ^ k)) (fun _ s3 => 10 - (intOf s3).toNat)
  case atStart => exact ⟨0, 0, rfl, rfl, Nat.zero_le _, Nat.zero_le _, HB⟩
  case round =>
    clear HB
    obtain ⟨X, k, rfl, rfl, hkn, hk10, HX⟩ := hrel
    by_cases hlt : k < n ∧ k < 10
    · obtain ⟨hlt, hlt2⟩ := hlt
      obtain ⟨ch, hch⟩ : ∃ ch, bs[k]? = some ch := ⟨_, List.getElem?_eq_getElem (by rw [HL.out]; exact hlt)⟩
      have hbt : (bv bs)[k]? = some (bt ch) := by simp [bv, hch]
      obtain ⟨b, off, rfl, hb, hcell⟩ := HR.out.at_ hbt
      unfold bt at hcell
      have hc0 := ch.toNat_lt
      have HCH := Lib.hid hch
      obtain ⟨z, hz⟩ : ∃ z, ch.toNat = z := ⟨_, rfl⟩
      rw [hz] at hcell hc0
      have HZ := Lib.hid hz
      have i1 : (k : Int) < (n : Int) := by omega
      have i2 : (k : Int) < 10 := by omega
      have i0 : (0 : Int) ≤ (k : Int) := by omega
      clear hch hbt hz
      by_cases h9 : 9 ≤ k
      · have j9' : ((k : Int) == 9) = true := by rw [beq_iff_eq]; omega
        by_cases z1 : 1 < z
        · have z1' : (1 : Int) < (z : Int) := by omega
          have SEQ : Hid (V = (0, 0, 5)) := Lib.hid (by rw [HV.out]; exact rdV_none (rd_stop HCH.out HX.out.1 (by rw [HZ.out]; exact .inl ⟨by omega, z1⟩)))
          clear HV
          go_wp2
          go_ret3
          exact ⟨by rw [SEQ.out]; rfl, rfl⟩
        have z1' : ¬ (1 : Int) < (z : Int) := by omega
        have k0' : (0 : Int) < (k : Int) := by omega
        by_cases z0 : z = 0
        · have z0' : ((z : Int) == 0) = true := by rw [z0]; rfl
          have HZ0 := Lib.hid z0
          clear z0
          have SEQ : Hid (V = (0, 0, 5)) := Lib.hid (by rw [HV.out]; exact rdV_none (rd_stop HCH.out HX.out.1 (by rw [HZ.out]; exact .inr ⟨by omega, HZ0.out⟩)))
          clear HV
          go_wp2
          go_ret3
          exact ⟨by rw [SEQ.out]; rfl, rfl⟩
        have z0' : ((z : Int) == 0) = false := by rw [beq_eq_false_iff_ne]; omega
        have hzl : (z : Int) < 128 := by omega
        have HN : Hid (¬ ((k = 9 ∧ 1 < z) ∨ (0 < k ∧ z = 0))) := Lib.hid (by omega)
        have OS := or_step HX.out.2 hc0 (by omega) (by omega)
        obtain ⟨Y, hY⟩ : ∃ Y, Y = X + z % 128 * 128 ^ k := ⟨_, rfl⟩
        rw [← hY] at OS
        have SEQ : Hid (V = (Y, k + 1, 0)) := Lib.hid (by rw [HV.out, hY, ← HZ.out]; exact rdV_some (rd_ret HCH.out HX.out.1 hlt2 (by rw [HZ.out]; exact HN.out) (by rw [HZ.out]; omega)))
        have OS1 := OS.1
        clear HV hY OS
        go_wp2
        go_ret3
        exact ⟨by rw [SEQ.out]; rfl, rfl⟩
      have j9' : ((k : Int) == 9) = false := by rw [beq_eq_false_iff_ne]; omega
      by_cases k0 : k = 0
      · have hX := HX.out
        subst k0
        have X0 : X = 0 := by have := hX.2; simpa using this
        subst X0
        rw [Nat.add_zero] at hcell
        clear j9' i1 i2 i0
        by_cases zl : z < 128
        case pos =>
          have OS := or_step (X := 0) (k := 0) (by decide) hc0 (by omega) (by omega)
          have HN : Hid (¬ (((0 : Nat) = 9 ∧ 1 < z) ∨ (0 < 0 ∧ z = 0))) := Lib.hid (by omega)
          have e1 := andNot128 z hc0
          have e2 : z % 128 = z := by omega
          rw [e2] at e1
          have e3 : IntKind.u64.wrap (z : Int) = (z : Int) := IntWalk.u64_in _ (by omega)
          have SEQ : Hid (V = (z, 1, 0)) := Lib.hid (by rw [HV.out]; exact rdV_some (by have := rd_ret HCH.out hX.1 (by omega) (by rw [HZ.out]; exact HN.out) (by rw [HZ.out]; exact zl); rw [this, HZ.out]; simp [e2]))
          have e4 : bits .or .u64 0 (z : Int) = (z : Int) := by
            have h := OS.1
            rw [e1, e3] at h
            simpa [e3, e2] using h
          have zl' : (z : Int) < 128 := by omega
          clear HV OS HN hX HX e2
          go_wp2
          go_ret3
          exact ⟨by rw [SEQ.out]; rfl, rfl⟩
        case neg =>
          have OS := or_step (X := 0) (k := 0) (by decide) hc0 (by omega) (by omega)
          have HN : Hid (¬ (((0 : Nat) = 9 ∧ 1 < z) ∨ (0 < 0 ∧ z = 0))) := Lib.hid (by omega)
          have e1 := andNot128 z hc0
          obtain ⟨y, hy⟩ : ∃ y, y = z % 128 := ⟨_, rfl⟩
          rw [← hy] at e1
          have e3 : IntKind.u64.wrap (y : Int) = (y : Int) := IntWalk.u64_in _ (by omega)
          have e4 : bits .or .u64 0 (y : Int) = (y : Int) := by
            have h := OS.1
            rw [e1, e3, ← hy] at h
            simpa [e3] using h
          have HX9 : Hid (rdU bs = (rdN 1 (bs.drop 1)).map (fun p => (y + 128 ^ 1 * p.1, 1 + p.2)) ∧ y < 128 ^ 1) := Lib.hid ⟨by
            have h := rd_on HCH.out hX.1 (by omega) (by rw [HZ.out]; exact HN.out) (by rw [HZ.out]; omega)
            rw [h, HZ.out, ← hy]
            simp, by rw [Nat.pow_one]; omega⟩
          have zl' : ¬ ((z : Int) < 128) := by omega
          have hn1 : 1 ≤ n := by omega
          clear OS HN hX HX hy zl
          go_wp2
          go_round
          case rel => exact ⟨y, 1, rfl, rfl, hn1, by omega, HX9⟩
          case measure => simp [intOf]
      have k0' : (0 : Int) < (k : Int) := by omega
      by_cases z0 : z = 0
      · have z0' : ((z : Int) == 0) = true := by rw [z0]; rfl
        have HZ0 := Lib.hid z0
        clear z0
        have SEQ : Hid (V = (0, 0, 5)) := Lib.hid (by rw [HV.out]; exact rdV_none (rd_stop HCH.out HX.out.1 (by rw [HZ.out]; exact .inr ⟨by omega, HZ0.out⟩)))
        clear HV
        go_wp2
        go_ret3
        exact ⟨by rw [SEQ.out]; rfl, rfl⟩
      have z0' : ((z : Int) == 0) = false := by rw [beq_eq_false_iff_ne]; omega
      by_cases zl : z < 128
      case pos =>
        have hzl : (z : Int) < 128 := by omega
        have HN : Hid (¬ ((k = 9 ∧ 1 < z) ∨ (0 < k ∧ z = 0))) := Lib.hid (by omega)
        have OS := or_step HX.out.2 hc0 (by omega) (by omega)
        obtain ⟨Y, hY⟩ : ∃ Y, Y = X + z % 128 * 128 ^ k := ⟨_, rfl⟩
        rw [← hY] at OS
        have SEQ : Hid (V = (Y, k + 1, 0)) := Lib.hid (by rw [HV.out, hY, ← HZ.out]; exact rdV_some (rd_ret HCH.out HX.out.1 hlt2 (by rw [HZ.out]; exact HN.out) (by rw [HZ.out]; omega)))
        have OS1 := OS.1
        clear HV hY OS
        go_wp2
        go_ret3
        exact ⟨by rw [SEQ.out]; rfl, rfl⟩
      case neg =>
        have hzl : ¬ ((z : Int) < 128) := by omega
        have HN : Hid (¬ ((k = 9 ∧ 1 < z) ∨ (0 < k ∧ z = 0))) := Lib.hid (by omega)
        have OS := or_step HX.out.2 hc0 (by omega) (by omega)
        obtain ⟨Y, hY⟩ : ∃ Y, Y = X + z % 128 * 128 ^ k := ⟨_, rfl⟩
        rw [← hY] at OS
        have HX9 : Hid (rdU bs = (rdN (k + 1) (bs.drop (k + 1))).map (fun p => (Y + 128 ^ (k + 1) * p.1, k + 1 + p.2)) ∧ Y < 128 ^ (k + 1)) := Lib.hid ⟨by rw [hY, ← HZ.out]; exact rd_on HCH.out HX.out.1 hlt2 (by rw [HZ.out]; exact HN.out) (by rw [HZ.out]; omega), by
          have h1 := HX.out.2
          have h2 : z % 128 * 128 ^ k ≤ 127 * 128 ^ k := Nat.mul_le_mul_right _ (by omega)
          rw [Nat.pow_succ]
          omega⟩
        have OS1 := OS.1
        clear hY OS HX
        go_wp2
        go_round
        case rel => exact ⟨Y, k + 1, rfl, by go_num, by omega, by omega, HX9⟩
        case measure => simp [intOf]; omega
    · have SEQ : Hid (V = (0, 0, 5)) := Lib.hid (by rw [HV.out]; exact rdV_none (rd_end HX.out.1 (by rw [HL.out]; omega)))
      by_cases hlt2 : k < n
      · have i1 : (k : Int) < (n : Int) := by omega
        have i2 : ¬ (k : Int) < 10 := by omega
        clear hlt
        go_wp2
        go_ret3
        exact ⟨by rw [SEQ.out]; rfl, rfl⟩
      · have i1 : ¬ (k : Int) < (n : Int) := by omega
        clear hlt
        go_wp2
        go_ret3
        exact ⟨by rw [SEQ.out]; rfl, rfl⟩

def smV (bs : List UInt8) (most : Int) : Nat × Nat × Int := match smU bs most with
  | some p => (p.1, p.2, 0)
  | none => (0, 0, 5)
theorem smV_none {bs : List UInt8} {most : Int} (h : smU bs most = none) : smV bs most = (0, 0, 5) := by unfold smV; rw [h]
theorem smV_some {bs : List UInt8} {most : Int} {x k : Nat} (h : smU bs most = some (x, k)) : smV bs most = (x, k, 0) := by unfold smV; rw [h]
/-- The three ways of reading a small number. -/
theorem smV_cases (bs : List UInt8) (most : Int) : (rdU bs = none ∧ rdV bs = (0, 0, 5) ∧ smU bs most = none) ∨ (∃ x k, rdU bs = some (x, k) ∧ rdV bs = (x, k, 0) ∧ x < 18446744073709551616 ∧ k ≤ 10 ∧ ((¬ (0 ≤ most ∧ (x : Int) ≤ most) ∧ smU bs most = none) ∨ (0 ≤ most ∧ (x : Int) ≤ most ∧ smU bs most = some (x, k)))) := by
  cases h : rdU bs with
  | none => exact .inl ⟨rfl, rdV_none h, by unfold smU; rw [h]; rfl⟩
  | some p =>
    obtain ⟨x, k⟩ := p
    obtain ⟨h1, h2, h3, h4⟩ := rdU_sound h
    refine .inr ⟨x, k, rfl, rdV_some h, h4, h3, ?_⟩
    by_cases hm : 0 ≤ most ∧ (x : Int) ≤ most
    · exact .inr ⟨hm.1, hm.2, by unfold smU; rw [h, Option.bind_some, if_pos hm]⟩
    · exact .inl ⟨hm, by unfold smU; rw [h, Option.bind_some, if_neg hm]⟩
set_option maxHeartbeats 1600000 in
theorem small_any (A : Option Addr) (n c B : Nat) (bs : List UInt8) (hl : bs.length = n) (hn : n ≤ 100000000) (most : Int) (hm : most ≤ 9223372036854775807) (w : World) (hr : Rd w B A (bv bs)) (hB : B ≤ w.heap.size) :
    Calls Try.prog 46 #[.slice A n c, .int .i64 most] w fun e w' => e = .returned (.tuple #[.int .i64 ((smV bs most).1 : Nat), .int .i64 ((smV bs most).2.1 : Nat), .int .i64 (smV bs most).2.2]) ∧ Below w.heap.size w w' := by
  have HRD : Hid (Calls Try.prog 66 #[.slice A n c] w fun e w' => e = .returned (.tuple #[.int .u64 ((rdV bs).1 : Nat), .int .i64 ((rdV bs).2.1 : Nat), .int .i64 (rdV bs).2.2]) ∧ Below w.heap.size w w') := Lib.hid ((read_any A n c B bs hl hn w hr).mono fun _ _ h => ⟨h.1, by rw [← h.2]; exact Below.refl _ _⟩)
  obtain ⟨V, hV⟩ : ∃ V, V = smV bs most := ⟨_, rfl⟩
  rw [← hV]
  have HV := Lib.hid hV; clear hV hr hl
  rcases smV_cases bs most with ⟨h1, h2, h3⟩ | ⟨x, k, h1, h2, hx, hk, ⟨h3, h4⟩ | ⟨h3, h4, h5⟩⟩
  · have SEQ : Hid (V = (0, 0, 5)) := Lib.hid (by rw [HV.out]; exact smV_none h3)
    rw [h2] at HRD
    clear HV h1 h2 h3
    go_enter Try.func46, Try.ntmps46
    go_wp2_with fail
    refine HRD.out.mono ?_
    rintro e w2 ⟨rfl, hb⟩
    have B2 := Lib.hid hb
    clear hb
    go_wp2_with fail
    go_ret3
    exact ⟨by rw [SEQ.out]; rfl, B2.out⟩
  · have SEQ : Hid (V = (0, 0, 5)) := Lib.hid (by rw [HV.out]; exact smV_none h4)
    rw [h2] at HRD
    have H3 := Lib.hid h3
    clear HV h1 h2 h3 h4
    by_cases m0 : most < 0
    · go_enter Try.func46, Try.ntmps46
      go_wp2_with fail
      refine HRD.out.mono ?_
      rintro e w2 ⟨rfl, hb⟩
      have B2 := Lib.hid hb
      clear hb
      go_wp2_with fail
      go_ret3
      exact ⟨by rw [SEQ.out]; rfl, B2.out⟩
    · have m1 : 0 ≤ most := by omega
      have m2 : most < (x : Int) := by have := H3.out; omega
      clear m0
      go_enter Try.func46, Try.ntmps46
      go_wp2_with fail
      refine HRD.out.mono ?_
      rintro e w2 ⟨rfl, hb⟩
      have B2 := Lib.hid hb
      clear hb
      go_wp2_with fail
      go_ret3
      exact ⟨by rw [SEQ.out]; rfl, B2.out⟩
  · have SEQ : Hid (V = (x, k, 0)) := Lib.hid (by rw [HV.out]; exact smV_some h5)
    rw [h2] at HRD
    have m1 : ¬ (most < 0) := by omega
    have m2 : ¬ (most < (x : Int)) := by omega
    have m3 : (x : Int) ≤ 9223372036854775807 := by omega
    clear HV h1 h2 h5
    go_enter Try.func46, Try.ntmps46
    go_wp2_with fail
    refine HRD.out.mono ?_
    rintro e w2 ⟨rfl, hb⟩
    have B2 := Lib.hid hb
    clear hb
    go_wp2_with fail
    go_ret3
    exact ⟨by rw [SEQ.out]; rfl, B2.out⟩

theorem vlU_drop {bs : List UInt8} {i m : Nat} {ch : UInt8} (hm : m < i) (hch : bs[m]? = some ch) : vlU ((bs.take i).drop m) = ch.toNat % 128 + 128 * vlU ((bs.take i).drop (m + 1)) := by
  have h : (bs.take i)[m]? = some ch := by rw [List.getElem?_take, if_pos hm]; exact hch
  rw [drop_at' h, vlU]
def smk (U T : List UInt8) (k : Nat) : Bool := decide (U.length = T.length ∧ U.take k = T.take k)
theorem smk_on {U T : List UInt8} {k : Nat} {a b : UInt8} (h : smk U T k = true) (ha : U[k]? = some a) (hb : T[k]? = some b) : smk U T (k + 1) = decide (a = b) := by
  have h1 := of_decide_eq_true h
  unfold smk
  rw [List.take_add_one, List.take_add_one, ha, hb, h1.2]
  simp [h1.1]
theorem smk_end {U T : List UInt8} {k : Nat} (h : smk U T k = false ∨ T.length ≤ k) : smk U T k = decide (U = T) := by
  by_cases e : U = T
  · subst e
    simp [smk]
  · rw [decide_eq_false e]
    rcases h with h | h
    · exact h
    · unfold smk
      refine decide_eq_false (fun h1 => e ?_)
      have := h1.2
      rwa [List.take_of_length_le (by omega), List.take_of_length_le h] at this
set_option maxHeartbeats 6400000 in
theorem rread_any (A : Option Addr) (n c B : Nat) (bs : List UInt8) (hl : bs.length = n) (hn : n ≤ 100000000) (w : World) (hr : Rd w B A (bv bs)) (hB : B ≤ w.heap.size) :
    Calls Try.prog 67 #[.slice A n c] w fun e w' => e = .returned (.tuple #[.int .u64 ((rdV bs).1 : Nat), .int .i64 ((rdV bs).2.1 : Nat), .int .i64 (rdV bs).2.2]) ∧ Below w.heap.size w w' := by
  have HL := Lib.hid hl; clear hl
  have HR := Lib.hid hr; clear hr
  obtain ⟨V, hV⟩ : ∃ V, V = rdV bs := ⟨_, rfl⟩
  rw [← hV]
  have HV := Lib.hid hV; clear hV
  go_enter Try.func67, Try.ntmps67
  go_wp2_with fail
  go_loopw [6] (fun s6 wr => ∃ i : Nat, s6 = .int .i64 (i : Int) ∧ 1 ≤ i ∧ i ≤ n + 1 ∧ i ≤ 11 ∧ Hid (∀ m, 1 ≤ m → m < i → rdT bs m = false) ∧ Hid (Below w.heap.size w wr)) (fun s6 _ => 11 - (intOf s6).toNat)
  case atStart => exact ⟨1, rfl, Nat.le_refl _, by omega, by omega, Lib.hid (fun m h1 h2 => by omega), Lib.hid (Below.refl _ _)⟩
  case round =>
    obtain ⟨i, rfl, hi1, hin, hi11, HF, B1⟩ := hrel
    obtain ⟨w2, rfl⟩ : ∃ x, x = wr := ⟨_, rfl⟩
    by_cases hlt : i ≤ n ∧ i ≤ 10
    case neg =>
      have SEQ : Hid (V = (0, 0, 5)) := Lib.hid (by
        rw [HV.out]
        exact rdV_none (rdT_none (fun m h1 h2 h3 => HF.out m h1 (by rw [HL.out] at h2; omega))))
      by_cases hlt2 : i ≤ n
      · have i1 : (i : Int) ≤ (n : Int) := by omega
        have i2 : ¬ (i : Int) ≤ 10 := by omega
        clear hlt
        go_wp2_with fail
        go_ret3
        exact ⟨by rw [SEQ.out]; rfl, B1.out⟩
      · have i1 : ¬ (i : Int) ≤ (n : Int) := by omega
        clear hlt
        go_wp2_with fail
        go_ret3
        exact ⟨by rw [SEQ.out]; rfl, B1.out⟩
    obtain ⟨hlt, hlt2⟩ := hlt
    have i1 : (i : Int) ≤ (n : Int) := by omega
    have i2 : (i : Int) ≤ 10 := by omega
    have HT : Hid ((bs.take i).length = i) := Lib.hid (by rw [List.length_take, HL.out]; omega)
    go_wp2_with fail
    go_loopw [5, 7] (fun s5 s7 wr => ∃ (m : Nat) (j : Int) (X : Nat), s5 = .int .u64 (X : Int) ∧ s7 = .int .i64 j ∧ j = (m : Int) - 1 ∧ m ≤ i ∧ X < 18446744073709551616 ∧ Hid (X = vlU ((bs.take i).drop m) % 18446744073709551616) ∧ wr = w2) (fun s5 s7 _ => (intOf s7 + 1).toNat)
    case atStart => exact ⟨i, _, 0, rfl, rfl, rfl, Nat.le_refl _, by omega, Lib.hid (by rw [List.drop_eq_nil_of_le (by rw [HT.out]; exact Nat.le_refl _)]; rfl), rfl⟩
    case round =>
      obtain ⟨m, j, X, rfl, rfl, hj, hmi, hX, HX, rfl⟩ := hrel
      cases m with
      | succ m =>
        obtain rfl : j = (m : Int) := by omega
        clear hj
        obtain ⟨ch, hch⟩ : ∃ ch, bs[m]? = some ch := ⟨_, List.getElem?_eq_getElem (by rw [HL.out]; omega)⟩
        have hbt : (bv bs)[m]? = some (bt ch) := by simp [bv, hch]
        obtain ⟨b, off, rfl, hb, hcell⟩ := (HR.out.below (B1.out.mono hB)).at_ hbt
        unfold bt at hcell
        have hc0 := ch.toNat_lt
        have HVD := Lib.hid (vlU_drop (i := i) (by omega) hch)
        generalize ch.toNat = z at *
        have m0 : (0 : Int) ≤ (m : Int) := by omega
        have m1 : (m : Int) < (n : Int) := by omega
        obtain ⟨Y, hY⟩ : ∃ Y, Y = (X * 128 + z % 128) % 18446744073709551616 := ⟨_, rfl⟩
        have HY9 : Hid (Y = vlU ((bs.take i).drop m) % 18446744073709551616) := Lib.hid (by rw [hY, HX.out, HVD.out]; omega)
        have HYE := Lib.hid hY
        have hYl : Y < 18446744073709551616 := by omega
        clear hch hbt hY HX
        go_wp2_with fail
        go_roundw
        case rel => exact ⟨m, _, Y, int_eq (by rw [HYE.out]; simp only [IntKind.wrap_u64]; omega), rfl, rfl, by omega, hYl, HY9, by trivial⟩
        case measure => simp [intOf] <;> omega
      | zero =>
        obtain rfl : j = -1 := by omega
        clear hj
        have HX0 : Hid (X = vlU (bs.take i) % 18446744073709551616) := Lib.hid (by rw [HX.out]; rfl)
        clear HX
        go_wp2_with fail
        refine (rbytes_any X _ hX).mono ?_
        rintro e w3 ⟨v3, rfl, own3, hb3⟩
        obtain ⟨A3, c3, rfl, -, r3⟩ := own_sl own3
        have R3 := Lib.hid r3
        have B3 := Lib.hid (B1.out.trans (hb3.mono B1.out.size))
        have HU10 := Lib.hid (uv_len10 hX)
        have HTD : Hid (rdT bs i = decide (uv X = bs.take i)) := Lib.hid (by unfold rdT; rw [HX0.out])
        have HXV := Lib.hid (fun (h : rdT bs i = true) => rdT_yes (by rw [HL.out]; exact hlt) h)
        rw [← HX0.out] at HXV
        clear own3 hb3 r3 HX0
        generalize uv X = U at *
        have hul : U.length ≤ 10 := HU10.out
        go_wp2_with fail
        go_loopw [9, 10] (fun s9 s10 wr => ∃ (k : Nat) (sm : Bool), s9 = .bool sm ∧ s10 = .int .i64 (k : Int) ∧ k ≤ i ∧ Hid (sm = smk U (bs.take i) k) ∧ Hid (Below w3.heap.size w3 wr)) (fun s9 s10 _ => i - (intOf s10).toNat)
        case atStart => exact ⟨0, _, rfl, rfl, Nat.zero_le _, Lib.hid (by
          unfold smk
          rw [HT.out]
          simp only [List.take_zero, and_true]
          rw [Bool.eq_iff_iff]
          simp
          try omega), Lib.hid (Below.refl _ _)⟩
        case round =>
          obtain ⟨k, sm, rfl, rfl, hki, HSM, B4⟩ := hrel
          obtain ⟨w4, rfl⟩ : ∃ x, x = wr := ⟨_, rfl⟩
          have hfin : Hid ((sm = false ∨ i ≤ k) → sm = rdT bs i) := Lib.hid (fun h => by
            rw [HTD.out, HSM.out]
            refine smk_end ?_
            rcases h with h | h
            · left; rw [← HSM.out]; exact h
            · right; rw [HT.out]; exact h)
          by_cases hkl : k < i ∧ sm = true
          · obtain ⟨hkl, hsm⟩ := hkl
            subst hsm
            have hs1 := of_decide_eq_true HSM.out.symm
            obtain ⟨a, ha⟩ : ∃ a, U[k]? = some a := ⟨_, List.getElem?_eq_getElem (by rw [hs1.1, HT.out]; exact hkl)⟩
            obtain ⟨ch, hch⟩ : ∃ ch, bs[k]? = some ch := ⟨_, List.getElem?_eq_getElem (by rw [HL.out]; omega)⟩
            have htk : (bs.take i)[k]? = some ch := by rw [List.getElem?_take, if_pos hkl]; exact hch
            have HON := Lib.hid (smk_on HSM.out.symm ha htk)
            obtain ⟨b1, o1, hA1, hb1, hc1⟩ := (R3.out.below B4.out).at_ (show (bv U)[k]? = some (bt a) by simp [bv, ha])
            obtain ⟨b2, o2, hA2, hb2, hc2⟩ := (HR.out.below ((B3.out.trans (B4.out.mono B3.out.size)).mono hB)).at_ (show (bv bs)[k]? = some (bt ch) by simp [bv, hch])
            subst hA1 hA2
            unfold bt at hc1 hc2
            have ul : k < U.length := by rw [hs1.1, HT.out]; exact hkl
            have k1 : (k : Int) < (i : Int) := by omega
            have k2 : (k : Int) < (n : Int) := by omega
            have k3 : (k : Int) < (U.length : Int) := by omega
            have k0 : (0 : Int) ≤ (k : Int) := by omega
            have zz1 : b1 < w4.heap.size := by have := B4.out.size; omega
            have zz2 : b2 < w4.heap.size := by have h1 := B4.out.size; have h2 := B3.out.size; omega
            clear ha hch htk hs1 hfin
            by_cases hq : a = ch
            · have e1 : (((a.toNat : Nat) : Int) == ((ch.toNat : Nat) : Int)) = true := by rw [hq]; simp
              have HS9 : Hid (true = smk U (bs.take i) (k + 1)) := Lib.hid (by rw [HON.out, decide_eq_true hq])
              clear hq HSM
              go_wp2_with fail
              refine wp_qall (by kernel_rfl) (by kernel_rfl) ?_
              intro hcg
              repeat (first | go_big_quiet_step (fail) | quiet_step (fail))
              refine wpQuiet_nil ?_
              intro wq hbwq hcwq hfwq
              clear hcg
              have B9 := Lib.hid (B4.out.trans (hbwq.mono B4.out.size))
              clear hbwq hcwq hfwq
              go_wp2_with fail
              go_roundw
              case rel => exact ⟨k + 1, _, rfl, by go_num, by omega, HS9, B9⟩
              case measure => simp [intOf]; omega
            · have e1 : (((a.toNat : Nat) : Int) == ((ch.toNat : Nat) : Int)) = false := by
                rw [beq_eq_false_iff_ne]
                intro e
                exact hq (UInt8.toNat_inj.1 (by omega))
              have HS9 : Hid (false = smk U (bs.take i) (k + 1)) := Lib.hid (by rw [HON.out, decide_eq_false hq])
              clear hq HSM
              go_wp2_with fail
              refine wp_qall (by kernel_rfl) (by kernel_rfl) ?_
              intro hcg
              repeat (first | go_big_quiet_step (fail) | quiet_step (fail))
              refine wpQuiet_nil ?_
              intro wq hbwq hcwq hfwq
              clear hcg
              have B9 := Lib.hid (B4.out.trans (hbwq.mono B4.out.size))
              clear hbwq hcwq hfwq
              go_wp2_with fail
              go_roundw
              case rel => exact ⟨k + 1, _, rfl, by go_num, by omega, HS9, B9⟩
              case measure => simp [intOf]; omega
          · have hsf : sm = rdT bs i := hfin.out (by
              cases sm
              · exact .inl rfl
              · exact .inr (by
                  rcases Nat.lt_or_ge k i with h | h
                  · exact absurd ⟨h, rfl⟩ hkl
                  · exact h))
            have HSF := Lib.hid hsf
            have BF := Lib.hid (B3.out.trans (B4.out.mono B3.out.size))
            clear hsf hfin
            cases sm
            · have HF9 : Hid (∀ m, 1 ≤ m → m < i + 1 → rdT bs m = false) := Lib.hid (fun m h1 h2 => by
                rcases Nat.lt_or_ge m i with h | h
                · exact HF.out m h1 h
                · have e : m = i := by omega
                  rw [e]
                  exact HSF.out.symm)
              clear hkl HF
              by_cases hk2 : k < i
              · have k1 : (k : Int) < (i : Int) := by omega
                go_wp2_with fail
                go_roundw
                case rel => exact ⟨i + 1, by go_num, by omega, by omega, by omega, HF9, BF⟩
                case measure => simp [intOf]; omega
              · have k1 : ¬ (k : Int) < (i : Int) := by omega
                go_wp2_with fail
                go_roundw
                case rel => exact ⟨i + 1, by go_num, by omega, by omega, by omega, HF9, BF⟩
                case measure => simp [intOf]; omega
            · have SEQ : Hid (V = (X, i, 0)) := Lib.hid (by rw [HV.out]; exact rdV_some (HXV.out HSF.out.symm))
              have k1 : ¬ (k : Int) < (i : Int) := by
                rcases Nat.lt_or_ge k i with h | h
                · exact absurd ⟨h, rfl⟩ hkl
                · omega
              clear hkl HF HV
              go_wp2_with fail
              go_ret3
              exact ⟨by rw [SEQ.out]; rfl, BF.out⟩
set_option maxHeartbeats 1600000 in
theorem rsmall_any (A : Option Addr) (n c B : Nat) (bs : List UInt8) (hl : bs.length = n) (hn : n ≤ 100000000) (most : Int) (hm : most ≤ 9223372036854775807) (w : World) (hr : Rd w B A (bv bs)) (hB : B ≤ w.heap.size) :
    Calls Try.prog 48 #[.slice A n c, .int .i64 most] w fun e w' => e = .returned (.tuple #[.int .i64 ((smV bs most).1 : Nat), .int .i64 ((smV bs most).2.1 : Nat), .int .i64 (smV bs most).2.2]) ∧ Below w.heap.size w w' := by
  have HRD : Hid (Calls Try.prog 67 #[.slice A n c] w fun e w' => e = .returned (.tuple #[.int .u64 ((rdV bs).1 : Nat), .int .i64 ((rdV bs).2.1 : Nat), .int .i64 (rdV bs).2.2]) ∧ Below w.heap.size w w') := Lib.hid (rread_any A n c B bs hl hn w hr hB)
  obtain ⟨V, hV⟩ : ∃ V, V = smV bs most := ⟨_, rfl⟩
  rw [← hV]
  have HV := Lib.hid hV; clear hV hr hl
  rcases smV_cases bs most with ⟨h1, h2, h3⟩ | ⟨x, k, h1, h2, hx, hk, ⟨h3, h4⟩ | ⟨h3, h4, h5⟩⟩
  · have SEQ : Hid (V = (0, 0, 5)) := Lib.hid (by rw [HV.out]; exact smV_none h3)
    rw [h2] at HRD
    clear HV h1 h2 h3
    go_enter Try.func48, Try.ntmps48
    go_wp2_with fail
    refine HRD.out.mono ?_
    rintro e w2 ⟨rfl, hb⟩
    have B2 := Lib.hid hb
    clear hb
    go_wp2_with fail
    go_ret3
    exact ⟨by rw [SEQ.out]; rfl, B2.out⟩
  · have SEQ : Hid (V = (0, 0, 5)) := Lib.hid (by rw [HV.out]; exact smV_none h4)
    rw [h2] at HRD
    have H3 := Lib.hid h3
    clear HV h1 h2 h3 h4
    by_cases m0 : most < 0
    · go_enter Try.func48, Try.ntmps48
      go_wp2_with fail
      refine HRD.out.mono ?_
      rintro e w2 ⟨rfl, hb⟩
      have B2 := Lib.hid hb
      clear hb
      go_wp2_with fail
      go_ret3
      exact ⟨by rw [SEQ.out]; rfl, B2.out⟩
    · have m1 : 0 ≤ most := by omega
      have m2 : most < (x : Int) := by have := H3.out; omega
      clear m0
      go_enter Try.func48, Try.ntmps48
      go_wp2_with fail
      refine HRD.out.mono ?_
      rintro e w2 ⟨rfl, hb⟩
      have B2 := Lib.hid hb
      clear hb
      go_wp2_with fail
      go_ret3
      exact ⟨by rw [SEQ.out]; rfl, B2.out⟩
  · have SEQ : Hid (V = (x, k, 0)) := Lib.hid (by rw [HV.out]; exact smV_some h5)
    rw [h2] at HRD
    have m1 : ¬ (most < 0) := by omega
    have m2 : ¬ (most < (x : Int)) := by omega
    have m3 : (x : Int) ≤ 9223372036854775807 := by omega
    clear HV h1 h2 h5
    go_enter Try.func48, Try.ntmps48
    go_wp2_with fail
    refine HRD.out.mono ?_
    rintro e w2 ⟨rfl, hb⟩
    have B2 := Lib.hid hb
    clear hb
    go_wp2_with fail
    go_ret3
    exact ⟨by rw [SEQ.out]; rfl, B2.out⟩
end Go.Proofs.Ytmcpjpkidcbgiaa
