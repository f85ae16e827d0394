/- The walk of the law FrameCalls: it returns true. -/
import Derived.Test.YtmfkngijgellhaaQ
import Derived.Test.YtmfkngijgellhaaLf
import Derived.Deep.RegionHeld3
namespace Go.Proofs.Ytmfkngijgellhaa
open Go.RowKit Go.St
set_option linter.unusedVariables false

theorem rd_lent {w : World} {base g c n : Nat} {bs : List UInt8} (hl : bs.length = n) (h : w.ownsRow base 5 1 (.slice (some ⟨g, 0, none⟩) (n + 3) c) (n + 3) (bv (lent bs))) : Rd w w.heap.size (some ⟨g, 0, none⟩) (bv bs) := by
  have h := (Rd.own h).take n
  have e : (bv (lent bs)).take n = bv bs := by
    rw [bv, bv, ← List.map_take, lent, ← hl, List.take_left']
    rfl
  rw [e] at h
  exact h

theorem appL_le (bs rs : List UInt8) (h : rs.length ≤ 1048576 → bs.length + rs.length + 12 ≤ 140737488355328) : (appL bs rs).length ≤ 140737488355328 := by
  unfold appL
  split
  · exact Nat.zero_le _
  · rw [List.length_append, frameL_length]; omega
theorem readL_le (bs : List UInt8) : (readL bs).length ≤ bs.length := by
  unfold readL
  split
  · refine Nat.le_trans (openL_le _) ?_
    unfold bodyOf
    rw [List.length_take, List.length_drop]
    omega
  · exact Nat.zero_le _

theorem four_get {α : Type} {a b c d v : α} {i : Nat} (h : [a, b, c, d][i]? = some v) : (i = 0 ∧ v = a) ∨ (i = 1 ∧ v = b) ∨ (i = 2 ∧ v = c) ∨ (i = 3 ∧ v = d) := by
  match i, h with
  | 0, h => simp at h; exact .inl ⟨rfl, h.symm⟩
  | 1, h => simp at h; exact .inr (.inl ⟨rfl, h.symm⟩)
  | 2, h => simp at h; exact .inr (.inr (.inl ⟨rfl, h.symm⟩))
  | 3, h => simp at h; exact .inr (.inr (.inr ⟨rfl, h.symm⟩))
  | k + 4, h => simp at h

theorem four_apart (v0 v1 v2 v3 : Value) (a0 a1 a2 a3 z0 z1 z2 z3 : Nat) (h0 : within v0 a0 z0) (h1 : within v1 a1 z1) (h2 : within v2 a2 z2) (h3 : within v3 a3 z3)
    (o0 : z2 ≤ a3) (o1 : z3 ≤ a0) (o2 : z0 ≤ a1) (e0 : a0 ≤ z0) (e1 : a1 ≤ z1) (e2 : a2 ≤ z2) (e3 : a3 ≤ z3) :
    ∀ (i j : Nat) (v v' : Value), i ≠ j → [v0, v1, v2, v3][i]? = some v → [v0, v1, v2, v3][j]? = some v' → v.ownBlock = none ∨ v.ownBlock ≠ v'.ownBlock := by
  intro i j v v' hij hv hv'
  rcases four_get hv with ⟨rfl, rfl⟩ | ⟨rfl, rfl⟩ | ⟨rfl, rfl⟩ | ⟨rfl, rfl⟩ <;> rcases four_get hv' with ⟨rfl, rfl⟩ | ⟨rfl, rfl⟩ | ⟨rfl, rfl⟩ | ⟨rfl, rfl⟩
  all_goals first
    | exact absurd rfl hij
    | exact within_apart h0 h1 (by omega)
    | exact within_apart h0 h2 (by omega)
    | exact within_apart h0 h3 (by omega)
    | exact within_apart h1 h0 (by omega)
    | exact within_apart h1 h2 (by omega)
    | exact within_apart h1 h3 (by omega)
    | exact within_apart h2 h0 (by omega)
    | exact within_apart h2 h1 (by omega)
    | exact within_apart h2 h3 (by omega)
    | exact within_apart h3 h0 (by omega)
    | exact within_apart h3 h1 (by omega)
    | exact within_apart h3 h2 (by omega)

set_option maxHeartbeats 2000000 in
theorem frameCalls_walk (w : World) (A0 : Option Addr) (n0 c0 : Nat) (b0 : List UInt8) (bl0 : b0.length = n0) (lc0 : n0 ≤ c0) (bn0 : c0 ≤ 140737488351232) (rd0 : Rd w w.heap.size A0 (bv b0))
    (A1 : Option Addr) (n1 c1 : Nat) (b1 : List UInt8) (bl1 : b1.length = n1) (lc1 : n1 ≤ c1) (bn1 : c1 ≤ 140737488351232) (rd1 : Rd w w.heap.size A1 (bv b1)) :
    Calls Try.prog 9 #[.slice A0 n0 c0, .slice A1 n1 c1] w fun e w' => e = .returned (.bool true) ∧ Below w.heap.size w w' := by
  have H0 := Lib.hid bl0; clear bl0
  have R0 := Lib.hid rd0; clear rd0
  have H1 := Lib.hid bl1; clear bl1
  have R1 := Lib.hid rd1; clear rd1
  go_enter Try.func9, Try.ntmps9
  go_wp2_with fail
  refine (lives3_any _).mono ?_
  rintro e w1 ⟨rfl, hb1⟩
  have S1 := hb1.size
  by_cases hmid : 4000 < n1 ∧ n1 ≤ 1048576
  · obtain ⟨x1, x2⟩ := hmid
    have y1 : (4000 : Int) < (n1 : Int) := by omega
    have y2 : (n1 : Int) ≤ 1048576 := by omega
    go_wp2
    go_ret
    exact ⟨rfl, hb1⟩
  have hbig : n1 ≤ 1048576 → n0 + n1 + 12 ≤ 140737488355328 := by omega
  have HBIG := Lib.hid hbig; clear hbig
  have E2 := Lib.hid (R0.out.below hb1)
  have F2 := Lib.hid (R1.out.below hb1)
  clear R0 R1
  rcases (by omega : n1 ≤ 4000 ∨ 1048576 < n1) with hc | hc
  all_goals
    clear hmid
    go_wp2_with fail
    refine (lent_any A0 n0 c0 _ b0 H0.out (by omega) _ E2.out S1).mono ?_
    rintro e w2 ⟨v2, rfl, own2, hb2⟩
    obtain ⟨g2, k2, rfl, hnk2, hkm2, _, _⟩ := own_blk own2 (by omega)
    have HB2 : Hid (Below w.heap.size w w2) := hb1.trans (hb2.mono S1)
    have S2 := hb2.size
    have X2 := Lib.hid own2
    have W2 := Lib.hid (own_within own2)
    have E3 := Lib.hid (E2.out.below (hb2.mono S1))
    have F3 := Lib.hid (F2.out.below (hb2.mono S1))
    clear own2 E2 F2 hb1
    go_wp2_with fail
    refine (lent_any A1 n1 c1 _ b1 H1.out (by omega) _ F3.out (by omega)).mono ?_
    rintro e w3 ⟨v3, rfl, own3, hb3⟩
    obtain ⟨g3, k3, rfl, hnk3, hkm3, _, _⟩ := own_blk own3 (by omega)
    have HB3 : Hid (Below w.heap.size w w3) := HB2.out.trans (hb3.mono (by omega))
    have S3 := hb3.size
    have X3' := Lib.hid (own_keep X2.out hb3 (Nat.le_refl _))
    have Y3 := Lib.hid own3
    have W3 := Lib.hid (own_within own3)
    have E4 := Lib.hid (E3.out.below (hb3.mono (by omega)))
    have F4 := Lib.hid (F3.out.below (hb3.mono (by omega)))
    clear own3 E3 F3 hb2 HB2 X2 hb3
    have i0 : (0 : Int) ≤ (n0 : Int) := by omega
    have i1 : (n0 : Int) ≤ (k2 : Int) := by omega
    have j0 : (0 : Int) ≤ (n1 : Int) := by omega
    have j1 : (n1 : Int) ≤ (k3 : Int) := by omega
    go_wp2
    have RX3 : Hid (Rd w3.drew w3.heap.size (some ⟨g2, 0, none⟩) (bv b0)) := rd_lent H0.out X3'.out
    have RY3 : Hid (Rd w3.drew w3.heap.size (some ⟨g3, 0, none⟩) (bv b1)) := rd_lent H1.out Y3.out
    have hd3 : Below w3.heap.size w3 w3.drew := (Below.refl _ _).drew
    go_region_held3 (fun _ => True) (trivial) (first | (go_at_call 32; refine (append_any (some ⟨g2, 0, none⟩) (some ⟨g3, 0, none⟩) n0 k2 w3.heap.size n1 k3 w3.heap.size b0 b1 H0.out H1.out HBIG.out (by omega) w3.drew RX3.out (Nat.le_refl _) RY3.out (Nat.le_refl _)).mono ?_; rintro e w4 ⟨v4, rfl, own4, hb4⟩))
    have hb4 : Below w3.heap.size w3 w4 := hd3.trans hb4
    have own4 : w4.ownsRow w3.heap.size 5 1 v4 (appL b0 b1).length (bv (appL b0 b1)) := own4
    have HB4 : Hid (Below w.heap.size w w4) := HB3.out.trans (hb4.mono (by omega))
    have S4 := hb4.size
    have X4 := Lib.hid (own_keep X3'.out hb4 (Nat.le_refl _))
    have Y4 := Lib.hid (own_keep Y3.out hb4 (Nat.le_refl _))
    have Z4 := Lib.hid own4
    have W4 := Lib.hid (own_within own4)
    have E5 := Lib.hid (E4.out.below (hb4.mono (by omega)))
    have F5 := Lib.hid (F4.out.below (hb4.mono (by omega)))
    clear own4 E4 F4 HB3 X3' Y3 RX3 RY3 hb4 hd3
    go_wp2_with fail
    refine (rappend_any A0 A1 n0 c0 w.heap.size n1 c1 w.heap.size b0 b1 H0.out H1.out HBIG.out (by omega) _ E5.out (by omega) F5.out (by omega)).mono ?_
    rintro e w5 ⟨v5, rfl, own5, hb5⟩
    have HB5 : Hid (Below w.heap.size w w5) := HB4.out.trans (hb5.mono (by omega))
    have S5 := hb5.size
    have X5 := Lib.hid (own_keep X4.out hb5 (Nat.le_refl _))
    have Y5 := Lib.hid (own_keep Y4.out hb5 (Nat.le_refl _))
    have Z5 := Lib.hid (own_keep Z4.out hb5 (Nat.le_refl _))
    have U5 := Lib.hid own5
    have E6 := Lib.hid (E5.out.below (hb5.mono (by omega)))
    have F6 := Lib.hid (F5.out.below (hb5.mono (by omega)))
    have RX5 := Lib.hid (rd_lent H0.out X5.out)
    clear own5 E5 F5 HB4 X4 Y4 Z4 hb5
    go_wp2_with fail
    refine (read_any (some ⟨g2, 0, none⟩) n0 k2 _ b0 H0.out (by omega) (by omega) _ RX5.out (Nat.le_refl _)).mono ?_
    rintro e w6 ⟨v6, rfl, own6, hb6⟩
    have HB6 : Hid (Below w.heap.size w w6) := HB5.out.trans (hb6.mono (by omega))
    have S6 := hb6.size
    have X6 := Lib.hid (own_keep X5.out hb6 (Nat.le_refl _))
    have Y6 := Lib.hid (own_keep Y5.out hb6 (Nat.le_refl _))
    have Z6 := Lib.hid (own_keep Z5.out hb6 (Nat.le_refl _))
    have U6 := Lib.hid (own_keep U5.out hb6 (Nat.le_refl _))
    have V6 := Lib.hid own6
    have W6 := Lib.hid (own_within own6)
    have E7 := Lib.hid (E6.out.below (hb6.mono (by omega)))
    have F7 := Lib.hid (F6.out.below (hb6.mono (by omega)))
    clear own6 E6 F6 HB5 X5 Y5 Z5 U5 RX5 hb6
    go_wp2_with fail
    refine (rread_any A0 n0 c0 _ b0 H0.out (by omega) (by omega) _ E7.out (by omega)).mono ?_
    rintro e w7 ⟨v7, rfl, own7, hb7⟩
    have HB7 : Hid (Below w.heap.size w w7) := HB6.out.trans (hb7.mono (by omega))
    have S7 := hb7.size
    have X7 := Lib.hid (own_keep X6.out hb7 (Nat.le_refl _))
    have Y7 := Lib.hid (own_keep Y6.out hb7 (Nat.le_refl _))
    have Z7 := Lib.hid (own_keep Z6.out hb7 (Nat.le_refl _))
    have U7 := Lib.hid (own_keep U6.out hb7 (Nat.le_refl _))
    have V7 := Lib.hid (own_keep V6.out hb7 (Nat.le_refl _))
    have E8 := Lib.hid (E7.out.below (hb7.mono (by omega)))
    have F8 := Lib.hid (F7.out.below (hb7.mono (by omega)))
    obtain ⟨A4, k4, rfl, _, _, rd4⟩ := own_rd4 Z7.out
    obtain ⟨A5, k5, rfl, _, _, rd5⟩ := own_rd4 U7.out
    obtain ⟨A6, k6, rfl, _, _, rd6⟩ := own_rd4 V7.out
    obtain ⟨A7, k7, rfl, _, _, rd7⟩ := own_rd4 own7
    have D4 := Lib.hid rd4; clear rd4
    have D5 := Lib.hid rd5; clear rd5
    have D6 := Lib.hid rd6; clear rd6
    have D7 := Lib.hid rd7; clear rd7
    have RX : Hid (Rd w7 w7.heap.size (some ⟨g2, 0, none⟩) (bv (lent b0))) := Rd.own X7.out
    have RY : Hid (Rd w7 w7.heap.size (some ⟨g3, 0, none⟩) (bv (lent b1))) := Rd.own Y7.out
    clear own7 E7 F7 HB6 X6 Y6 Z6 U6 V6 hb7
    have q1 : (appE n1 != appE n1) = false := by simp
    have q2 : (readE b0 != readE b0) = false := by simp
    have q3 : (((readN b0 : Nat) : Int) != ((readN b0 : Nat) : Int)) = false := by simp
    have la := appL_le b0 b1 (by rw [H0.out, H1.out]; exact HBIG.out)
    have lr := readL_le b0
    rw [H0.out] at lr
    go_wp2_with fail
    refine (same_any A4 A5 _ _ k4 k5 _ _ (appL b0 b1) (appL b0 b1) rfl rfl (by omega) _ D4.out D5.out).mono ?_
    rintro e w' ⟨rfl, q10, rfl⟩
    rw [decide_eq_true (rfl : appL b0 b1 = appL b0 b1)]
    clear q1 q2 q3
    go_wp2_with fail
    refine (same_any A6 A7 _ _ k6 k7 _ _ (readL b0) (readL b0) rfl rfl (by omega) (w7.drewN q10) D6.out D7.out).mono ?_
    rintro e w' ⟨rfl, q11, rfl⟩
    rw [decide_eq_true (rfl : readL b0 = readL b0)]
    go_wp2_with fail
    refine (kept_any (some ⟨g2, 0, none⟩) A0 (n0 + 3) n0 k2 c0 w7.heap.size w.heap.size (lent b0) b0 (by rw [lent_length, H0.out]) H0.out (by omega) (by omega) (w7.drewN (q10 + q11)) RX.out (Nat.le_refl w7.heap.size) E8.out (show w.heap.size ≤ w7.heap.size by omega)).mono ?_
    rintro e w8 ⟨rfl, hb8⟩
    rw [decide_eq_true (rfl : lent b0 = lent b0)]
    have hb8 : Below w7.heap.size w7 w8 := ⟨hb8.os, hb8.tape, hb8.output, hb8.size, hb8.block⟩
    have S8 := hb8.size
    have HB8 : Hid (Below w.heap.size w w8) := HB7.out.trans (hb8.mono (by omega))
    have X8 := Lib.hid (own_keep X7.out hb8 (Nat.le_refl _))
    have Y8 := Lib.hid (own_keep Y7.out hb8 (Nat.le_refl _))
    have Z8 := Lib.hid (own_keep Z7.out hb8 (Nat.le_refl _))
    have V8 := Lib.hid (own_keep V7.out hb8 (Nat.le_refl _))
    have F9 := Lib.hid (F8.out.below (hb8.mono (by omega)))
    have RY8 : Hid (Rd w8 w8.heap.size (some ⟨g3, 0, none⟩) (bv (lent b1))) := Rd.own Y8.out
    clear RX RY D4 D5 D6 D7 X7 Y7 Z7 U7 V7 HB7 E8 F8 hb8
    go_wp2_with fail
    refine (kept_any (some ⟨g3, 0, none⟩) A1 (n1 + 3) n1 k3 c1 w8.heap.size w.heap.size (lent b1) b1 (by rw [lent_length, H1.out]) H1.out (by omega) (by omega) w8 RY8.out (Nat.le_refl w8.heap.size) F9.out (show w.heap.size ≤ w8.heap.size by omega)).mono ?_
    rintro e w9 ⟨rfl, hb9⟩
    rw [decide_eq_true (rfl : lent b1 = lent b1)]
    have S9 := hb9.size
    have HB9 : Hid (Below w.heap.size w w9) := HB8.out.trans (hb9.mono (by omega))
    have X9 := Lib.hid ((own_keep X8.out hb9 (Nat.le_refl _)).alloc (.cells #[.slice A4 (appL b0 b1).length k4, .slice A6 (readL b0).length k6, .slice (some ⟨g2, 0, none⟩) (n0 + 3) k2, .slice (some ⟨g3, 0, none⟩) (n1 + 3) k3] 22))
    have Y9 := Lib.hid ((own_keep Y8.out hb9 (Nat.le_refl _)).alloc (.cells #[.slice A4 (appL b0 b1).length k4, .slice A6 (readL b0).length k6, .slice (some ⟨g2, 0, none⟩) (n0 + 3) k2, .slice (some ⟨g3, 0, none⟩) (n1 + 3) k3] 22))
    have Z9 := Lib.hid ((own_keep Z8.out hb9 (Nat.le_refl _)).alloc (.cells #[.slice A4 (appL b0 b1).length k4, .slice A6 (readL b0).length k6, .slice (some ⟨g2, 0, none⟩) (n0 + 3) k2, .slice (some ⟨g3, 0, none⟩) (n1 + 3) k3] 22))
    have V9 := Lib.hid ((own_keep V8.out hb9 (Nat.le_refl _)).alloc (.cells #[.slice A4 (appL b0 b1).length k4, .slice A6 (readL b0).length k6, .slice (some ⟨g2, 0, none⟩) (n0 + 3) k2, .slice (some ⟨g3, 0, none⟩) (n1 + 3) k3] 22))
    clear X8 Y8 Z8 V8 F9 RY8 HB8 hb9
    go_wp2_with fail
    refine (apart_any (some ⟨w9.heap.size, 0, none⟩) 4 4 (w9.heap.size + 1) w.heap.size
      [.slice A4 (appL b0 b1).length k4, .slice A6 (readL b0).length k6, .slice (some ⟨g2, 0, none⟩) (n0 + 3) k2, .slice (some ⟨g3, 0, none⟩) (n1 + 3) k3]
      [appL b0 b1, readL b0, lent b0, lent b1] rfl rfl (by omega) _ (rd_lit _ _ _) (by simp) (by simp; omega) ?_ ?_ ?_ ?_).mono ?_
    · intro i v bs hv hbs
      rcases four_get hv with ⟨rfl, rfl⟩ | ⟨rfl, rfl⟩ | ⟨rfl, rfl⟩ | ⟨rfl, rfl⟩
      · obtain rfl : appL b0 b1 = bs := by simpa using hbs
        exact Z9.out.mono (base' := w.heap.size) (by omega)
      · obtain rfl : readL b0 = bs := by simpa using hbs
        exact V9.out.mono (base' := w.heap.size) (by omega)
      · obtain rfl : lent b0 = bs := by simpa using hbs
        exact own_eq (X9.out.mono (base' := w.heap.size) (by omega)) (by rw [lent_length, H0.out]) rfl
      · obtain rfl : lent b1 = bs := by simpa using hbs
        exact own_eq (Y9.out.mono (base' := w.heap.size) (by omega)) (by rw [lent_length, H1.out]) rfl
    · exact four_apart _ _ _ _ _ _ _ _ _ _ _ _ W4.out W6.out W2.out W3.out (Nat.le_refl _) (Nat.le_refl _) (by omega) S4 S6 S2 S3
    · intro g o hA i v hv hvg
      injection hA with hA
      injection hA with e1 e2
      rcases four_get hv with ⟨rfl, rfl⟩ | ⟨rfl, rfl⟩ | ⟨rfl, rfl⟩ | ⟨rfl, rfl⟩
      · have := (W4.out g hvg).2; omega
      · have := (W6.out g hvg).2; omega
      · have := (W2.out g hvg).2; omega
      · have := (W3.out g hvg).2; omega
    · intro i bs hbs
      rcases four_get hbs with ⟨rfl, rfl⟩ | ⟨rfl, rfl⟩ | ⟨rfl, rfl⟩ | ⟨rfl, rfl⟩
      · omega
      · omega
      · rw [lent_length, H0.out]; omega
      · rw [lent_length, H1.out]; omega
    · rintro e w' ⟨rfl, hb11⟩
      go_wp2
      go_ret
      exact ⟨rfl, (HB9.out.alloc HB9.out.size _).trans hb11⟩
end Go.Proofs.Ytmfkngijgellhaa
