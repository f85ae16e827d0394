/- The walk of the law BloomCalls. (Printed by wip/tools/gen_bcalls.py.) -/
import Derived.Test.YtlpdihcgdgkkbaaCa
import Derived.Test.YtlpdihcgdgkkbaaTexts
import Derived.Test.YtlpdihcgdgkkbaaApart
import Derived.Test.YtlpdihcgdgkkbaaBe
import Derived.Test.YtlpdihcgdgkkbaaOstr
import Derived.Test.YtlpdihcgdgkkbaaOpen
import Derived.Deep.RegionHeld3
import Derived.Deep.RegionWith
namespace Go.Proofs.Ytlpdihcgdgkkbaa
open Go.RowKit Go.St
set_option linter.unusedVariables false
set_option linter.unusedSimpArgs false
set_option maxRecDepth 100000

theorem four_get {α : Type} {a b c d v : α} {i : Nat} (h : [a, b, c, d][i]? = some v) : (i = 0 ∧ v = a) ∨ (i = 1 ∧ v = b) ∨ (i = 2 ∧ v = c) ∨ (i = 3 ∧ v = d) := by
  match i, h with
  | 0, h => simp at h; exact .inl ⟨rfl, h.symm⟩
  | 1, h => simp at h; exact .inr (.inl ⟨rfl, h.symm⟩)
  | 2, h => simp at h; exact .inr (.inr (.inl ⟨rfl, h.symm⟩))
  | 3, h => simp at h; exact .inr (.inr (.inr ⟨rfl, h.symm⟩))
  | k + 4, h => simp at h
def within (v : Value) (lo hi : Nat) : Prop := ∀ g, v.ownBlock = some g → lo ≤ g ∧ g < hi
theorem within_apart {v v' : Value} {a b c d : Nat} (h : within v a b) (h' : within v' c d) (hd : b ≤ c ∨ d ≤ a) : v.ownBlock = none ∨ v.ownBlock ≠ v'.ownBlock := by
  cases hv : v.ownBlock with
  | none => exact .inl rfl
  | some g =>
    refine .inr (fun e => ?_)
    have h1 := h g hv
    have h2 := h' g e.symm
    omega
theorem own_within {w : World} {base n : Nat} {e : TypeId} {size : Nat} {v : Value} {xs : List Value} (h : w.ownsRow base e size v n xs) : within v base w.heap.size := fun g hg => h.lt g hg
theorem four_apart (v0 v1 v2 v3 : Value) (a0 a1 a2 a3 z0 z1 z2 z3 : Nat) (h0 : within v0 a0 z0) (h1 : within v1 a1 z1) (h2 : within v2 a2 z2) (h3 : within v3 a3 z3)
    (o2 : z2 ≤ a3) (o3 : z3 ≤ a0) (o0 : z0 ≤ a1) (e0 : a0 ≤ z0) (e1 : a1 ≤ z1) (e2 : a2 ≤ z2) (e3 : a3 ≤ z3) :
    ∀ (i j : Nat) (v v' : Value), i ≠ j → [v0, v1, v2, v3][i]? = some v → [v0, v1, v2, v3][j]? = some v' → v.ownBlock = none ∨ v.ownBlock ≠ v'.ownBlock := by
  intro i j v v' hij hv hv'
  rcases four_get hv with ⟨rfl, rfl⟩ | ⟨rfl, rfl⟩ | ⟨rfl, rfl⟩ | ⟨rfl, rfl⟩ <;> rcases four_get hv' with ⟨rfl, rfl⟩ | ⟨rfl, rfl⟩ | ⟨rfl, rfl⟩ | ⟨rfl, rfl⟩
  all_goals first
    | exact absurd rfl hij
    | exact within_apart h0 h1 (by omega)
    | exact within_apart h0 h2 (by omega)
    | exact within_apart h0 h3 (by omega)
    | exact within_apart h1 h0 (by omega)
    | exact within_apart h1 h2 (by omega)
    | exact within_apart h1 h3 (by omega)
    | exact within_apart h2 h0 (by omega)
    | exact within_apart h2 h1 (by omega)
    | exact within_apart h2 h3 (by omega)
    | exact within_apart h3 h0 (by omega)
    | exact within_apart h3 h1 (by omega)
    | exact within_apart h3 h2 (by omega)
theorem bk_drew {B : Nat} {a w : World} (h : Below B a w) : Below B a w.drew := ⟨h.os, h.tape, h.output, h.size, h.block⟩
theorem own_rdA {w : World} {base n m c : Nat} {e : TypeId} {A : Option Addr} {xs : List Value} (h : w.ownsRow base e 1 (.slice A n c) m xs) : Rd w w.heap.size A xs := by
  obtain ⟨A', c', e, r⟩ := own_rd h
  injection e with e1 e2 e3
  subst e1
  exact r
theorem lent_take (b : List UInt8) (n : Nat) (h : b.length = n) : (bv (lent b)).take n = bv b := by
  rw [bv, bv, ← List.map_take, lent, ← h, List.take_left']
  rfl
theorem lentT_take (l : List ByteArray) (n : Nat) (h : l.length = n) : (sv (lentT l)).take n = sv l := by
  unfold sv
  rw [← List.map_take, lentT, ← h, List.take_left']
  rfl

set_option maxHeartbeats 3200000 in
theorem bloomCalls_walk (w : World) (A0 : Option Addr) (n0 c0 : Nat) (k0 : List ByteArray) (hl0 : k0.length = n0) (hc0 : n0 ≤ c0) (hn0 : c0 ≤ 140737488351232) (hks0 : ∀ s ∈ k0, s.size ≤ 140737488351232) (hr0 : Rd w w.heap.size A0 (sv k0))
    (bits : Int) (Aa : Option Addr) (na ca : Nat) (fa : List UInt8) (hla : fa.length = na) (hca : na ≤ ca) (hna : ca ≤ 140737488351232) (hra : Rd w w.heap.size Aa (bv fa))
    (Ab : Option Addr) (nb cb : Nat) (fb : List UInt8) (hlb : fb.length = nb) (hcb : nb ≤ cb) (hnb : cb ≤ 140737488351232) (hrb : Rd w w.heap.size Ab (bv fb)) (key : ByteArray) (hkey : key.size ≤ 140737488351232) :
    Calls Try.prog 5 #[.slice A0 n0 c0, .int .i64 bits, .slice Aa na ca, .slice Ab nb cb, .string key] w fun e w' => e = .returned (.bool true) ∧ Below w.heap.size w w' := by
  have HL0 := Lib.hid hl0; have HR0 := Lib.hid hr0; have HK0 := Lib.hid hks0
  have HLA := Lib.hid hla; have HRA := Lib.hid hra; have HLB := Lib.hid hlb; have HRB := Lib.hid hrb
  clear hl0 hr0 hks0 hla hra hlb hrb
  go_enter Try.func5, Try.ntmps5
  go_wp2_with fail
  refine (lives08_any _).mono ?_
  rintro e w1 ⟨rfl, hb1⟩
  have HB1 := Lib.hid hb1
  have P1 := Lib.hid (HR0.out.below hb1)
  have S1 := hb1.size
  clear hb1
  have hs0 := small08_any A0 n0 c0 _ k0 HL0.out (by omega) (fun s h => by have := HK0.out s h; omega) w1 P1.out
  by_cases h0 : smallB k0 = true
  case neg =>
    have h3 : smallB k0 = false := by simpa using h0
    rw [h3] at hs0
    have HS0 := Lib.hid hs0; clear hs0 h0 h3
    go_wp2_with fail
    refine HS0.out.mono ?_
    rintro e w' ⟨rfl, rfl⟩
    go_wp2
    go_ret
    exact ⟨rfl, HB1.out⟩
  rw [h0] at hs0
  have HS0 := Lib.hid hs0; clear hs0
  have m0 : n0 ≤ 200 := by
    unfold smallB at h0
    rw [Bool.and_eq_true] at h0
    rw [← HL0.out]
    exact of_decide_eq_true h0.2
  clear h0
  by_cases h1 : na ≤ 4000 ∧ nb ≤ 4000 ∧ key.size ≤ 600
  case neg =>
    rcases (by omega : 4000 < na ∨ na ≤ 4000 ∧ 4000 < nb ∨ na ≤ 4000 ∧ nb ≤ 4000 ∧ 600 < key.size) with h2 | ⟨h2, h3⟩ | ⟨h2, h3, h4⟩
    all_goals
      clear h1
      go_wp2_with fail
      refine HS0.out.mono ?_
      rintro e w' ⟨rfl, rfl⟩
      go_wp2
      go_ret
      exact ⟨rfl, HB1.out⟩
  obtain ⟨ma, mb, mk⟩ := h1
  go_wp2_with fail
  refine HS0.out.mono ?_
  rintro e w' ⟨rfl, rfl⟩
  clear HS0
  go_wp2_with fail
  refine (lentT_any A0 n0 c0 _ k0 HL0.out (by omega) _ P1.out (by omega)).mono ?_
  rintro e w2 ⟨v, rfl, own2, hb2⟩
  obtain ⟨g2, c2, rfl, hnc2, hcm2, hg2, hh2⟩ := own_blk own2 (by omega)
  have K_2 := Lib.hid own2
  clear own2 P1
  have HB2 : Hid (Below w.heap.size w w2) := Below.go HB1.out hb2 HB1.out.size
  have S2 := hb2.size
  clear hb2 HB1 
  go_wp2_with fail
  refine (lent_any Aa na ca _ fa HLA.out (by omega) _ (HRA.out.below HB2.out) HB2.out.size).mono ?_
  rintro e w3 ⟨v, rfl, own3, hb3⟩
  obtain ⟨g3, c3, rfl, hnc3, hcm3, hg3, hh3⟩ := own_blk own3 (by omega)
  have X_3 := Lib.hid own3
  have WX := Lib.hid (own_within own3)
  clear own3
  have HB3 : Hid (Below w.heap.size w w3) := Below.go HB2.out hb3 HB2.out.size
  have S3 := hb3.size
  have K_3 := Lib.hid (own_keep K_2.out hb3 (Nat.le_refl _))
  clear hb3 HB2 K_2
  go_wp2_with fail
  refine (lent_any Ab nb cb _ fb HLB.out (by omega) _ (HRB.out.below HB3.out) HB3.out.size).mono ?_
  rintro e w4 ⟨v, rfl, own4, hb4⟩
  obtain ⟨g4, c4, rfl, hnc4, hcm4, hg4, hh4⟩ := own_blk own4 (by omega)
  have Y_4 := Lib.hid own4
  have WY := Lib.hid (own_within own4)
  clear own4
  have HB4 : Hid (Below w.heap.size w w4) := Below.go HB3.out hb4 HB3.out.size
  have S4 := hb4.size
  have K_4 := Lib.hid (own_keep K_3.out hb4 (Nat.le_refl _))
  have X_4 := Lib.hid (own_keep X_3.out hb4 (Nat.le_refl _))
  clear hb4 HB3 K_3 X_3
  have fl := ofF_length k0 bits (by rw [HL0.out]; omega)
  have RK4 : Hid (Rd w4 w4.heap.size (some ⟨g2, 0, none⟩) (sv k0)) := by
    have h := (Rd.own K_4.out).take n0
    rw [lentT_take k0 n0 HL0.out] at h
    exact h
  have i0 : (0 : Int) ≤ (n0 : Int) := by omega
  have i1 : (n0 : Int) ≤ (c2 : Int) := by omega
  have ia : (na : Int) ≤ (c3 : Int) := by omega
  have ib : (nb : Int) ≤ (c4 : Int) := by omega
  have ia0 : (0 : Int) ≤ (na : Int) := by omega
  have ib0 : (0 : Int) ≤ (nb : Int) := by omega
  go_wp2_with fail
  refine (of_all _ n0 c2 _ k0 HL0.out (by omega) (fun s h => by have := HK0.out s h; omega) bits _ RK4.out (Nat.le_refl _)).mono ?_
  rintro e w5 ⟨v5, rfl, own5, hb5⟩
  obtain ⟨A5, c5, rfl, hnc5, hcm5, rd5⟩ := own_rd4 own5
  have F_5 := Lib.hid own5
  have WF := Lib.hid (own_within own5)
  clear own5 rd5 RK4
  have HB5 : Hid (Below w.heap.size w w5) := Below.go HB4.out hb5 HB4.out.size
  have S5 := hb5.size
  have K_5 := Lib.hid (own_keep K_4.out hb5 (Nat.le_refl _))
  have X_5 := Lib.hid (own_keep X_4.out hb5 (Nat.le_refl _))
  have Y_5 := Lib.hid (own_keep Y_4.out hb5 (Nat.le_refl _))
  clear hb5 HB4 K_4 X_4 Y_4
  go_wp2_with fail
  refine (rof_all A0 n0 c0 _ k0 HL0.out (by omega) (fun s h => by have := HK0.out s h; omega) bits _ (HR0.out.below HB5.out) HB5.out.size).mono ?_
  rintro e w6 ⟨v6, rfl, own6, hb6⟩
  obtain ⟨A6, c6, rfl, hnc6, hcm6, rd6⟩ := own_rd4 own6
  have G_6 := Lib.hid own6
  clear own6 rd6
  have HB6 : Hid (Below w.heap.size w w6) := Below.go HB5.out hb6 HB5.out.size
  have S6 := hb6.size
  have K_6 := Lib.hid (own_keep K_5.out hb6 (Nat.le_refl _))
  have X_6 := Lib.hid (own_keep X_5.out hb6 (Nat.le_refl _))
  have Y_6 := Lib.hid (own_keep Y_5.out hb6 (Nat.le_refl _))
  have F_6 := Lib.hid (own_keep F_5.out hb6 (Nat.le_refl _))
  clear hb6 HB5 K_5 X_5 Y_5 F_5
  have RX6 : Hid (Rd w6 w6.heap.size (some ⟨g3, 0, none⟩) (bv fa)) := by
    have h := (Rd.own X_6.out).take na
    rw [lent_take fa na HLA.out] at h
    exact h
  go_wp2_with fail
  refine (has_any _ na c3 _ fa HLA.out (by omega) key (by omega) _ RX6.out).mono ?_
  rintro e w' ⟨rfl, rfl⟩
  clear RX6
  go_wp2_with fail
  refine (rhas_any Aa na ca _ fa HLA.out (by omega) key (by omega) _ (HRA.out.below HB6.out) HB6.out.size).mono ?_
  rintro e w7 ⟨rfl, hb7⟩
  have HB7 : Hid (Below w.heap.size w w7) := Below.go HB6.out hb7 HB6.out.size
  have S7 := hb7.size
  have K_7 := Lib.hid (own_keep K_6.out hb7 (Nat.le_refl _))
  have X_7 := Lib.hid (own_keep X_6.out hb7 (Nat.le_refl _))
  have Y_7 := Lib.hid (own_keep Y_6.out hb7 (Nat.le_refl _))
  have F_7 := Lib.hid (own_keep F_6.out hb7 (Nat.le_refl _))
  have G_7 := Lib.hid (own_keep G_6.out hb7 (Nat.le_refl _))
  clear hb7 HB6 K_6 X_6 Y_6 F_6 G_6
  have RX7 : Hid (Rd w7 w7.heap.size (some ⟨g3, 0, none⟩) (bv fa)) := by
    have h := (Rd.own X_7.out).take na
    rw [lent_take fa na HLA.out] at h
    exact h
  have RY7 : Hid (Rd w7 w7.heap.size (some ⟨g4, 0, none⟩) (bv fb)) := by
    have h := (Rd.own Y_7.out).take nb
    rw [lent_take fb nb HLB.out] at h
    exact h
  generalize hasB fa key.data.toList = hb0 at *
  go_wp2_with fail
  go_region_held3 (fun W => Below w7.heap.size w7 W) (first | exact Below.refl _ _ | assumption | exact bk_drew (Below.refl _ _) | exact bk_drew (by assumption) | exact below_dn' (by assumption) _ | exact Below.go (by assumption) (by assumption) (Below.size (by assumption))) (first | (go_at_call 25; refine (both_all _ _ na nb c3 c4 _ _ fa fb HLA.out HLB.out (by omega) (by omega) _ (RX7.out.below (by assumption)) (RY7.out.below (by assumption)) (Below.size (by assumption)) (Below.size (by assumption))).mono ?_; rintro e w8 ⟨v8, rfl, own8, hb8⟩))
  have own8 : w8.ownsRow w7.heap.size 5 1 v8 (bothF fa fb).length (bv (bothF fa fb)) := own8
  have hb8 : Below w7.heap.size w7 w8 := ⟨hb8.os, hb8.tape, hb8.output, hb8.size, hb8.block⟩
  obtain ⟨A8, c8, rfl, hnc8, hcm8, rd8⟩ := own_rd4 own8
  have M_8 := Lib.hid own8
  have WM := Lib.hid (own_within own8)
  clear own8 rd8 RX7 RY7
  have HB8 : Hid (Below w.heap.size w w8) := Below.go HB7.out hb8 HB7.out.size
  have S8 := hb8.size
  have K_8 := Lib.hid (own_keep K_7.out hb8 (Nat.le_refl _))
  have X_8 := Lib.hid (own_keep X_7.out hb8 (Nat.le_refl _))
  have Y_8 := Lib.hid (own_keep Y_7.out hb8 (Nat.le_refl _))
  have F_8 := Lib.hid (own_keep F_7.out hb8 (Nat.le_refl _))
  have G_8 := Lib.hid (own_keep G_7.out hb8 (Nat.le_refl _))
  clear hb8 HB7 K_7 X_7 Y_7 F_7 G_7
  go_wp2_with fail
  refine (rboth_all Aa Ab na nb ca cb _ _ fa fb HLA.out HLB.out (by omega) _ (HRA.out.below HB8.out) (HRB.out.below HB8.out) HB8.out.size HB8.out.size).mono ?_
  rintro e w9 ⟨v9, rfl, own9, hb9⟩
  obtain ⟨A9, c9, rfl, hnc9, hcm9, rd9⟩ := own_rd4 own9
  have N_9 := Lib.hid own9
  clear own9 rd9
  have HB9 : Hid (Below w.heap.size w w9) := Below.go HB8.out hb9 HB8.out.size
  have S9 := hb9.size
  have K_9 := Lib.hid (own_keep K_8.out hb9 (Nat.le_refl _))
  have X_9 := Lib.hid (own_keep X_8.out hb9 (Nat.le_refl _))
  have Y_9 := Lib.hid (own_keep Y_8.out hb9 (Nat.le_refl _))
  have F_9 := Lib.hid (own_keep F_8.out hb9 (Nat.le_refl _))
  have G_9 := Lib.hid (own_keep G_8.out hb9 (Nat.le_refl _))
  have M_9 := Lib.hid (own_keep M_8.out hb9 (Nat.le_refl _))
  clear hb9 HB8 K_8 X_8 Y_8 F_8 G_8 M_8
  have ml := bothF_length fa fb
  rw [HLA.out] at ml
  have q1 : (ofE bits != ofE bits) = false := by simp
  have q2 : ((bchk fa : Int) != (bchk fa : Int)) = false := by simp
  have q3 : (bothE fa fb != bothE fa fb) = false := by simp
  have q4 : (hb0 != hb0) = false := by simp
  have RX9 : Hid (Rd w9 w9.heap.size (some ⟨g3, 0, none⟩) (bv fa)) := by
    have h := (Rd.own X_9.out).take na
    rw [lent_take fa na HLA.out] at h
    exact h
  have RF := Lib.hid (own_rdA F_9.out); have RG := Lib.hid (own_rdA G_9.out); have RM := Lib.hid (own_rdA M_9.out); have RN := Lib.hid (own_rdA N_9.out)
  have RA9 := Lib.hid (HRA.out.below HB9.out); have RB9 := Lib.hid (HRB.out.below HB9.out); have RK9 := Lib.hid (HR0.out.below HB9.out)
  clear N_9 G_9
  go_wp2_with fail
  refine (same_any A5 A6 _ _ c5 c6 _ _ (ofF k0 bits) (ofF k0 bits) rfl rfl (by omega) _ RF.out RG.out).mono ?_
  rintro e w' ⟨rfl, x1, rfl⟩
  rw [decide_eq_true (rfl : ofF k0 bits = ofF k0 bits)]
  go_wp2_with fail
  refine (same_any A8 A9 _ _ c8 c9 _ _ (bothF fa fb) (bothF fa fb) rfl rfl (by omega) _ (show Rd (w9.drewN x1) _ _ _ from RM.out) (show Rd (w9.drewN x1) _ _ _ from RN.out)).mono ?_
  rintro e w' ⟨rfl, x2, rfl⟩
  rw [decide_eq_true (rfl : bothF fa fb = bothF fa fb)]
  go_wp2_with fail
  refine (bcheck_any _ na c3 _ fa HLA.out _ (show Rd (w9.drewN (x1 + x2)) _ _ _ from RX9.out)).mono ?_
  rintro e w' ⟨rfl, rfl⟩
  go_wp2_with fail
  refine (rcheck08_any Aa na ca _ fa HLA.out _ (show Rd (w9.drewN (x1 + x2)) _ _ _ from RA9.out)).mono ?_
  rintro e w' ⟨rfl, rfl⟩
  go_wp2_with fail
  refine (hash_any key (by omega) _).mono ?_
  rintro e w' ⟨rfl, rfl⟩
  go_wp2_with fail
  refine (rhash_any key (by omega) _).mono ?_
  rintro e w' ⟨rfl, rfl⟩
  generalize bhash key.data.toList = hk at *
  have q5 : ((hk : Int) != (hk : Int)) = false := by simp
  go_wp2_with fail
  refine (keptT_any (some ⟨g2, 0, none⟩) A0 (n0 + 3) n0 c2 c0 w9.heap.size w.heap.size (lentT k0) k0 (by rw [lentT_length, HL0.out]) HL0.out (by omega) (by omega) (w9.drewN (x1 + x2)) (show Rd (w9.drewN (x1 + x2)) _ _ _ from Rd.own K_9.out) (by simp) (show Rd (w9.drewN (x1 + x2)) _ _ _ from RK9.out) (by simpa using HB9.out.size) rfl).mono ?_
  rintro e w10 ⟨rfl, hb10⟩
  have hb10 : Below w9.heap.size w9 w10 := ⟨hb10.os, hb10.tape, hb10.output, hb10.size, hb10.block⟩
  clear q1 q2 q3 q4 q5 RX9 RF RG RM RN RA9 RB9 RK9
  have HB10 : Hid (Below w.heap.size w w10) := Below.go HB9.out hb10 HB9.out.size
  have S10 := hb10.size
  have K_10 := Lib.hid (own_keep K_9.out hb10 (Nat.le_refl _))
  have X_10 := Lib.hid (own_keep X_9.out hb10 (Nat.le_refl _))
  have Y_10 := Lib.hid (own_keep Y_9.out hb10 (Nat.le_refl _))
  have F_10 := Lib.hid (own_keep F_9.out hb10 (Nat.le_refl _))
  have M_10 := Lib.hid (own_keep M_9.out hb10 (Nat.le_refl _))
  clear hb10 HB9 K_9 X_9 Y_9 F_9 M_9
  go_wp2_with fail
  refine (kept_any (some ⟨g3, 0, none⟩) Aa (na + 3) na c3 ca w10.heap.size w.heap.size (lent fa) fa (by rw [lent_length, HLA.out]) HLA.out (by omega) (by omega) w10 (Rd.own X_10.out) (Nat.le_refl _) (HRA.out.below HB10.out) HB10.out.size).mono ?_
  rintro e w11 ⟨rfl, hb11⟩
  rw [decide_eq_true (rfl : lent fa = lent fa)]
  have HB11 : Hid (Below w.heap.size w w11) := Below.go HB10.out hb11 HB10.out.size
  have S11 := hb11.size
  have X_11 := Lib.hid (own_keep X_10.out hb11 (Nat.le_refl _))
  have Y_11 := Lib.hid (own_keep Y_10.out hb11 (Nat.le_refl _))
  have F_11 := Lib.hid (own_keep F_10.out hb11 (Nat.le_refl _))
  have M_11 := Lib.hid (own_keep M_10.out hb11 (Nat.le_refl _))
  clear hb11 HB10 X_10 Y_10 F_10 M_10
  go_wp2_with fail
  refine (kept_any (some ⟨g4, 0, none⟩) Ab (nb + 3) nb c4 cb w11.heap.size w.heap.size (lent fb) fb (by rw [lent_length, HLB.out]) HLB.out (by omega) (by omega) w11 (Rd.own Y_11.out) (Nat.le_refl _) (HRB.out.below HB11.out) HB11.out.size).mono ?_
  rintro e w12 ⟨rfl, hb12⟩
  rw [decide_eq_true (rfl : lent fb = lent fb)]
  have HB12 : Hid (Below w.heap.size w w12) := Below.go HB11.out hb12 HB11.out.size
  have S12 := hb12.size
  have X_12 := Lib.hid (own_keep X_11.out hb12 (Nat.le_refl _))
  have Y_12 := Lib.hid (own_keep Y_11.out hb12 (Nat.le_refl _))
  have F_12 := Lib.hid (own_keep F_11.out hb12 (Nat.le_refl _))
  have M_12 := Lib.hid (own_keep M_11.out hb12 (Nat.le_refl _))
  clear hb12 HB11 X_11 Y_11 F_11 M_11
  go_wp2_with fail
  refine (apart_any (some ⟨w12.heap.size, 0, none⟩) 4 4 (w12.heap.size + 1) w.heap.size
    [.slice A5 (ofF k0 bits).length c5, .slice A8 (bothF fa fb).length c8, .slice (some ⟨g3, 0, none⟩) (na + 3) c3, .slice (some ⟨g4, 0, none⟩) (nb + 3) c4]
    [ofF k0 bits, bothF fa fb, lent fa, lent fb] rfl rfl (by omega) _ (rd_new _ _ _) (by simp) (by simp; omega) ?_ ?_ ?_ ?_).mono ?_
  · intro i v bs hv hbs
    rcases four_get hv with ⟨rfl, rfl⟩ | ⟨rfl, rfl⟩ | ⟨rfl, rfl⟩ | ⟨rfl, rfl⟩
    · obtain rfl : ofF k0 bits = bs := by simpa using hbs
      exact (F_12.out.mono (base' := w.heap.size) (by omega)).alloc _
    · obtain rfl : bothF fa fb = bs := by simpa using hbs
      exact (M_12.out.mono (base' := w.heap.size) (by omega)).alloc _
    · obtain rfl : lent fa = bs := by simpa using hbs
      exact own_eq ((X_12.out.mono (base' := w.heap.size) (by omega)).alloc _) (by rw [lent_length, HLA.out]) rfl
    · obtain rfl : lent fb = bs := by simpa using hbs
      exact own_eq ((Y_12.out.mono (base' := w.heap.size) (by omega)).alloc _) (by rw [lent_length, HLB.out]) rfl
  · exact four_apart _ _ _ _ _ _ _ _ _ _ _ _ WF.out WM.out WX.out WY.out (by omega) (by omega) (by omega) (by omega) (by omega) (by omega) (by omega)
  · intro g o hA i v hv hvg
    injection hA with hA
    injection hA with e1 e2
    rcases four_get hv with ⟨rfl, rfl⟩ | ⟨rfl, rfl⟩ | ⟨rfl, rfl⟩ | ⟨rfl, rfl⟩
    · have := (WF.out g hvg).2; omega
    · have := (WM.out g hvg).2; omega
    · have := (WX.out g hvg).2; omega
    · have := (WY.out g hvg).2; omega
  · intro i bs hbs
    rcases four_get hbs with ⟨rfl, rfl⟩ | ⟨rfl, rfl⟩ | ⟨rfl, rfl⟩ | ⟨rfl, rfl⟩
    · omega
    · omega
    · rw [lent_length, HLA.out]; omega
    · rw [lent_length, HLB.out]; omega
  · rintro e w' ⟨rfl, hb13⟩
    go_wp2
    go_ret
    exact ⟨rfl, (HB12.out.alloc HB12.out.size _).trans hb13⟩

theorem bloomCalls_law (w : World) (x : StrsArg w) (_ : True) (bits : Int) (hb : (Lit.int .i64 bits).wf = true) (Aa : Option Addr) (na ca : Nat) (fa : List UInt8) (hla : fa.length = na) (hca : na ≤ ca) (hna : ca ≤ 140737488351232) (hra : Rd w w.heap.size Aa (bv fa))
    (Ab : Option Addr) (nb cb : Nat) (fb : List UInt8) (hlb : fb.length = nb) (hcb : nb ≤ cb) (hnb : cb ≤ 140737488351232) (hrb : Rd w w.heap.size Ab (bv fb)) (key : ByteArray) (hk : key.size ≤ 140737488351232) :
    Calls Try.prog 5 #[.slice x.A x.n x.c, .int .i64 bits, .slice Aa na ca, .slice Ab nb cb, .string key] w fun e w' => e = .returned (.bool true) ∧ Below w.heap.size w w' :=
  bloomCalls_walk w x.A x.n x.c x.l x.hl x.hc x.hn x.hs x.rd bits Aa na ca fa hla hca hna hra Ab nb cb fb hlb hcb hnb hrb key hk
end Go.Proofs.Ytlpdihcgdgkkbaa
