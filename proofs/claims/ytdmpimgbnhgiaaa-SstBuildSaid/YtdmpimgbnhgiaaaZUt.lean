/- Walk: a table that nobody made answers ErrNil. -/
import Derived.Test.YtdmpimgbnhgiaaaZUr

namespace Go.Proofs.Ytdmpimgbnhgiaaa
open Go.RowKit Go.St Go.Shelf
set_option linter.unusedVariables false
set_option linter.unusedSimpArgs false
set_option maxRecDepth 100000

theorem bldE_ok {per bits : Int} {l : List Ent} (h : bldE per bits l = 0) : ∃ p b : Nat, per = (p : Int) ∧ bits = (b : Int) ∧ (1 ≤ p ∧ p ≤ 64) ∧ (1 ≤ b ∧ b ≤ 16) ∧ 1 ≤ l.length ∧ (∀ x ∈ l, okE x = true) ∧ risE l = true ∧ bldL per bits l = bldB p b l := by
  have hl : bldL per bits l = bldB per.toNat bits.toNat l := by unfold bldL; rw [if_pos h]
  unfold bldE at h
  split at h
  · cases h
  rename_i h1
  split at h
  · rename_i h2
    split at h
    · rename_i h3
      obtain ⟨p, hp⟩ := Int.eq_ofNat_of_zero_le (show 0 ≤ per by omega)
      obtain ⟨b, hb⟩ := Int.eq_ofNat_of_zero_le (show 0 ≤ bits by omega)
      refine ⟨p, b, hp, hb, by omega, by omega, by omega, List.all_eq_true.1 h2, h3, ?_⟩
      rw [hl, hp, hb]
      rfl
    · cases h
  · cases h
theorem bldE_no {per bits : Int} {l : List Ent} (h : bldE per bits l ≠ 0) : bldL per bits l = [] := by unfold bldL; rw [if_neg h]
theorem bldB_eq (p b : Nat) (l : List Ent) : bldB p b l = outP p l (nch p l) ++ (frameL (fltB b l) ++ (frameL (idxB p l) ++ frameL (footB (outP p l (nch p l)).length ((outP p l (nch p l)).length + (frameL (fltB b l)).length) l.length))) := by
  unfold bldB
  simp only [List.append_assoc]
theorem bldB_len {p b : Nat} (hp : 1 ≤ p) (hb : b ≤ 16) {l : List Ent} (hl : l.length ≤ 150) (hok : ∀ x ∈ l, okE x = true) : (bldB p b l).length ≤ 60200000 := by
  have h1 := outP_len p l (nch p l)
  have h2 := nch_le hp l
  have h3 := flt_len hb hl
  have h4 := idxB_len hp hok hl
  rw [bldB_eq]
  simp only [List.length_append, frameL_length, footB_len]
  omega
/-- Blocks of which one may be another. -/
def outZ (p : Nat) (l : List Ent) (i : Nat) (Z : List UInt8) : List UInt8 := outP p l i ++ (Z ++ (outP p l (nch p l)).drop (outP p l (i + 1)).length)
theorem outZ_same {p : Nat} {l : List Ent} {i : Nat} (h : i < nch p l) : outZ p l i (blkF (chk p l i)) = outP p l (nch p l) := by
  obtain ⟨s, hs⟩ := out_more p l (i + 1) (nch p l) h
  unfold outZ
  rw [hs, List.drop_left, outP, List.append_assoc]
theorem outZ_len {p : Nat} {l : List Ent} {i : Nat} {Z : List UInt8} (h : i < nch p l) (hz : Z.length = (blkF (chk p l i)).length) : (outZ p l i Z).length = (outP p l (nch p l)).length := by
  rw [← outZ_same h]
  unfold outZ
  simp only [List.length_append, hz]
theorem piece_at {α : Type} (a b c : List α) : ((a ++ (b ++ c)).drop a.length).take b.length = b := by
  rw [List.drop_left, List.take_left]
theorem bks_alt {p : Nat} {l : List Ent} {i : Nat} {Z : List UInt8} (h : i < nch p l) (hz : Z.length = (blkF (chk p l i)).length) (hbad : recB Z = false) (R : List UInt8) : BkS (fun j => decide (j = i)) p l (outZ p l i Z ++ R) := by
  intro j hj
  have hpc : pcX p l (outZ p l i Z ++ R) j = if j = i then Z else blkF (chk p l j) := by
    unfold pcX outZ
    by_cases hji : j = i
    · subst hji
      rw [if_pos rfl, List.append_assoc, List.append_assoc, ← hz, piece_at]
    · rw [if_neg hji]
      rcases Nat.lt_or_ge j i with h1 | h1
      · obtain ⟨s, hs⟩ := out_more p l (j + 1) i h1
        rw [hs, outP, List.append_assoc, List.append_assoc, List.append_assoc, List.append_assoc, piece_at]
      · obtain ⟨s, hs⟩ := out_more p l (j + 1) (nch p l) hj
        obtain ⟨s2, hs2⟩ := out_more p l (i + 1) j (by omega)
        have e1 : (outP p l (nch p l)).drop (outP p l (i + 1)).length = s2 ++ (blkF (chk p l j) ++ s) := by
          rw [hs, show outP p l (j + 1) = outP p l j ++ blkF (chk p l j) from rfl, hs2, List.append_assoc, List.append_assoc, List.drop_left]
        rw [e1]
        have e2 : outP p l i ++ (Z ++ (s2 ++ (blkF (chk p l j) ++ s))) ++ R = (outP p l i ++ (Z ++ s2)) ++ (blkF (chk p l j) ++ (s ++ R)) := by simp only [List.append_assoc]
        have e3 : (outP p l j).length = (outP p l i ++ (Z ++ s2)).length := by
          rw [hs2, outP]
          simp only [List.length_append, hz]
          omega
        rw [e2, e3, piece_at]
  rw [hpc]
  by_cases hji : j = i
  · rw [if_pos hji]
    subst hji
    exact ⟨hz, fun _ => hbad, fun h => by simp at h⟩
  · rw [if_neg hji]
    exact ⟨rfl, fun h => by simp [hji] at h, fun _ => rfl⟩
theorem bks_all (p : Nat) (l : List Ent) (R : List UInt8) : BkS (fun _ => false) p l (outP p l (nch p l) ++ R) := by
  intro j hj
  obtain ⟨s, hs⟩ := out_more p l (j + 1) (nch p l) hj
  have hpc : pcX p l (outP p l (nch p l) ++ R) j = blkF (chk p l j) := by
    unfold pcX
    rw [hs, outP, List.append_assoc, List.append_assoc, piece_at]
  rw [hpc]
  exact ⟨rfl, fun h => (by cases h), fun _ => rfl⟩
/-- Where a key is sought in the index. -/
theorem ix_find {p : Nat} (hp : 1 ≤ p) {l : List Ent} (hr : risE l = true) (g : Ent) : ∀ N, N ≤ nch p l → ∃ r, r ≤ N ∧ (∀ t, t < r → ltE (lxE p l t) g = true) ∧ (∀ t, r ≤ t → t < N → ltE (lxE p l t) g = false)
  | 0, _ => ⟨0, Nat.le_refl _, fun t h => by omega, fun t _ h => by omega⟩
  | N + 1, hN => by
    obtain ⟨r, h1, h2, h3⟩ := ix_find hp hr g N (by omega)
    by_cases hrN : r = N
    · cases hl : ltE (lxE p l N) g
      · refine ⟨N, by omega, fun t ht => h2 t (by omega), fun t ht1 ht2 => ?_⟩
        rw [show t = N by omega]
        exact hl
      · refine ⟨N + 1, Nat.le_refl _, fun t ht => ?_, fun t ht1 ht2 => by omega⟩
        rcases Nat.lt_or_ge t N with h | h
        · exact h2 t (by omega)
        · rw [show t = N by omega]
          exact hl
    · refine ⟨r, by omega, h2, fun t ht1 ht2 => ?_⟩
      rcases Nat.lt_or_ge t N with h | h
      · exact h3 t ht1 h
      · have e : t = N := by omega
        subst e
        cases hl : ltE (lxE p l t) g
        · rfl
        · have h4 := ltE_tr (lx_lt hp hr (show r < t by omega) (by omega)) hl
          rw [h3 r (Nat.le_refl _) (by omega)] at h4
          cases h4
end Go.Proofs.Ytdmpimgbnhgiaaa

namespace Go.Proofs.Ytdmpimgbnhgiaaa
open Go.RowKit Go.St Go.Shelf Go.Maps
set_option linter.unusedVariables false
set_option linter.unusedSimpArgs false
set_option maxRecDepth 100000

theorem own_caps2 {w : World} {base n c size : Nat} {A : Option Addr} {e : TypeId} {xs : List Value} (h : w.ownsRow base e size (.slice A n c) n xs) : n ≤ c ∧ c ≤ 9223372036854775807 := by
  rcases h.2 with ⟨h', h0⟩ | ⟨g, cap, cur, h', _, _, h1, h2, _⟩
  · injection h' with _ _ h3
    omega
  · injection h' with _ _ h3
    unfold maxLen at h2
    omega
def xE (k : UInt8) (s : Int) : Ent := ⟨{ data := #[k] }, { data := #[120] }, s, false⟩
def exT : List Ent := [xE 97 1, xE 98 2, xE 99 3]
theorem exT_ok : bldE ((2 : Nat) : Int) ((10 : Nat) : Int) exT = 0 := by kernel_rfl
theorem exT_nch : nch 2 exT = 2 := by kernel_rfl
theorem exT_last : (lstE (chk 2 exT 1)).key = { data := #[99] } := by kernel_rfl
theorem exT_get9 : gtV (fun _ => false) 2 10 exT { data := #[98] } 9 0 = (xE 98 2, true, 0, 1) := by kernel_rfl
theorem exT_get1 : gtV (fun _ => false) 2 10 exT { data := #[98] } 1 1 = (Ent.z, false, 0, 1) := by kernel_rfl
theorem exT_r9 : ltE (lxE 2 exT 0) ⟨{ data := #[98] }, zB, 9, false⟩ = false ∧ ltE (lxE 2 exT 1) ⟨{ data := #[98] }, zB, 9, false⟩ = false := ⟨by kernel_rfl, by kernel_rfl⟩
theorem exT_r1 : ltE (lxE 2 exT 0) ⟨{ data := #[98] }, zB, 1, false⟩ = true ∧ ltE (lxE 2 exT 1) ⟨{ data := #[98] }, zB, 1, false⟩ = false := ⟨by kernel_rfl, by kernel_rfl⟩
theorem example09_any (w : World) : Calls Try.prog 16 #[] w fun e w' => ∃ b1, e = .returned (.slice (some ⟨b1, 0, none⟩) 3 3) ∧ w.heap.size ≤ b1 ∧ Rd w' w'.heap.size (some ⟨b1, 0, none⟩) (env exT) ∧ Below w.heap.size w w' := by
  go_enter Try.func16, Try.ntmps16
  go_wp2_with fail
  go_ret
  exact ⟨w.heap.size, rfl, Nat.le_refl _, rd_frC w (env exT).toArray 40 (0, 0), (Below.refl w.heap.size w).alloc (Nat.le_refl _) (.cells (env exT).toArray 40)⟩
/-- A table that was built is opened. -/
theorem open_built (A : Option Addr) (c p b : Nat) (hp : 1 ≤ p ∧ p ≤ 64) (hbt : 1 ≤ b ∧ b ≤ 16) (l : List Ent) (hl1 : 1 ≤ l.length) (hl2 : l.length ≤ 150) (hok : ∀ x ∈ l, okE x = true) (hris : risE l = true) (hnc : (bldB p b l).length ≤ c) (hc : c ≤ 9223372036854775807) (B : Nat) (w : World) (hr : Rd w B A (bv (bldB p b l))) (hB : B ≤ w.heap.size) :
    Calls Try.prog 17 #[.slice A (bldB p b l).length c] w fun e w' => ∃ tb Ab cb Ai ci Af cf, e = .returned (.tuple #[.pointer (some ⟨tb, 0, none⟩), .int .i64 0]) ∧ TbS w' tb Ab cb Ai ci Af cf p b l (bldB p b l) 0 ∧ w.heap.size ≤ tb ∧ Below w.heap.size w w' := by
  have h := open_more A (bldB p b l).length c p b hp hbt l hl1 hl2 hok hris (outP p l (nch p l)) (frameL (fltB b l)) (frameL (idxB p l)) (bldB p b l) rfl (.inr rfl) (.inr rfl) (bldB_eq p b l) rfl hnc hc B w hr hB
  have h1 : recB (frameL (fltB b l)) = true := (rec_frame (by have := flt_len hbt.2 hl2; omega)).1
  have h2 : recB (frameL (idxB p l)) = true := (rec_frame (by have := idxB_len hp.1 hok hl2; omega)).1
  rw [h1, h2] at h
  exact h
set_option maxHeartbeats 3200000 in
theorem lives09_any (w : World) : Calls Try.prog 8 #[] w fun e w' => e = .returned (.bool true) ∧ Below w.heap.size w w' := by
  obtain ⟨p, b, hp0, hb0, hp, hb, hl1, hok, hris, hld⟩ := bldE_ok exT_ok
  have hp2 : p = 2 := by omega
  have hb2 : b = 10 := by omega
  subst hp2 hb2
  clear hp0 hb0
  have HOK := Lib.hid hok
  have HRIS := Lib.hid hris
  have HLD := Lib.hid hld
  have hbl := bldB_len hp.1 hb.2 (l := exT) (by decide) hok
  clear hok hris hld
  go_enter Try.func8, Try.ntmps8
  go_wp2_with fail
  refine (example09_any _).mono ?_
  rintro e w1 ⟨b1, rfl, -, r1, hb1⟩
  have B1 := Lib.hid hb1
  have R1 := Lib.hid r1
  have H := Lib.hid (build_any (some ⟨b1, 0, none⟩) 3 3 2 10 exT rfl (by omega) (by omega) (by decide) w1 r1)
  rw [show bldE 2 10 exT = 0 from exT_ok, show bldL 2 10 exT = bldB 2 10 exT from HLD.out] at H
  clear hb1 r1
  go_wp2_with fail
  refine H.out.mono ?_
  rintro e w2 ⟨A2, c2, rfl, own2, hb2⟩
  obtain ⟨hc2, hcI⟩ := own_caps2 own2
  have O2 := Lib.hid own2
  have B2 := Lib.hid (B1.out.trans (hb2.mono B1.out.size))
  have HOP := Lib.hid (open_built A2 c2 2 10 hp hb exT hl1 (by decide) HOK.out HRIS.out hc2 hcI w2.heap.size w2 (own_rdL own2) (Nat.le_refl _))
  obtain ⟨X, hX⟩ : ∃ X, X = bldB 2 10 exT := ⟨_, rfl⟩
  rw [← hX] at HOP O2 hbl
  simp only [← hX]
  have HX := Lib.hid hX
  clear own2 hb2 H R1 hX B1
  go_wp2_with fail
  refine HOP.out.mono ?_
  rintro e w3 ⟨tb, Ab, cb, Ai, ci, Af, cf, rfl, T, htb, hb3⟩
  have htb0 : w.heap.size ≤ tb := by have := B2.out.size; omega
  have T3 := Lib.hid T
  have B3 := Lib.hid (B2.out.trans (hb3.mono B2.out.size))
  clear T hb3 HOP B2
  have e2 : (((nch 2 exT : Nat) : Int) == 2) = true := by rw [exT_nch]; rfl
  go_wp2_with fail
  refine (len_yes T3.out).mono ?_
  rintro e w4 ⟨rfl, hb4⟩
  have T4 := Lib.hid (T3.out.next hb4)
  have B4 := Lib.hid (B3.out.trans (hb4.mono B3.out.size))
  clear hb4 T3 B3
  rw [show exT.length = 3 from rfl]
  go_wp2_with fail
  refine (blocks_yes T4.out).mono ?_
  rintro e w5 ⟨rfl, hb5⟩
  have T5 := Lib.hid (T4.out.next hb5)
  have B5 := Lib.hid (B4.out.trans (hb5.mono B4.out.size))
  clear hb5 T4 B4
  rw [exT_nch]
  go_wp2_with fail
  have HL := last_yes T5.out 1 exT_nch (by decide)
  rw [exT_last] at HL
  refine HL.mono ?_
  rintro e w6 ⟨rfl, hb6⟩
  have T6 := Lib.hid (T5.out.next hb6)
  have B6 := Lib.hid (B5.out.trans (hb6.mono B5.out.size))
  clear hb6 T5 B5 HL
  go_wp2_with fail
  refine (reads_yes T6.out).mono ?_
  rintro e w7 ⟨rfl, hb7⟩
  have T7 := Lib.hid (T6.out.next hb7)
  have B7 := Lib.hid (B6.out.trans (hb7.mono B6.out.size))
  clear hb7 T6 B6
  have HGT := get_any (fun _ => false) hp hb hl1 (show exT.length ≤ 150 by decide) HOK.out HRIS.out (by rw [HX.out, bldB_eq]; exact bks_all 2 exT _) { data := #[98] } (by decide) 9 0 (Nat.zero_le _) (fun t ht => by omega) (fun t h1 h2 => by
    rw [exT_nch] at h2
    rcases (by omega : t = 0 ∨ t = 1) with rfl | rfl
    · exact exT_r9.1
    · exact exT_r9.2) (by omega) T7.out
  rw [exT_get9] at HGT
  have HGT := Lib.hid HGT
  go_wp2_with fail
  refine HGT.out.mono ?_
  rintro e w8 ⟨rfl, T, ot⟩
  have T8 := Lib.hid T
  have B8 := Lib.hid (B7.out.trans (ot.below B7.out.size htb0))
  clear T ot HGT T7 B7
  unfold Ent.v xE
  go_upto_region 6 with (fail)
  have ha : Below w8.heap.size w8 (w8.alloc (.cells #[.string { data := #[98] }, .string { data := #[120] }, .int .i64 2, .bool false] 40)) := (Below.refl _ _).alloc (Nat.le_refl _) _
  have XB : Hid (BxV (w8.alloc (.cells #[.string { data := #[98] }, .string { data := #[120] }, .int .i64 2, .bool false] 40)) w8.heap.size [.string { data := #[98] }, .string { data := #[120] }, .int .i64 2, .bool false]) := Lib.hid (BxV.new w8 _ _)
  have T9 := Lib.hid (T8.out.next ha)
  have B9 := Lib.hid (B8.out.trans (ha.mono B8.out.size))
  clear ha T8 B8
  generalize w8.alloc (.cells #[.string { data := #[98] }, .string { data := #[120] }, .int .i64 2, .bool false] 40) = w9 at *
  generalize w8.heap.size = xb at *
  have hdr : Below w9.heap.size w9 w9.drew := Below.drew (Below.refl _ _)
  refine wp_heldall (S := fun W => BxV W xb [.string { data := #[98] }, .string { data := #[120] }, .int .i64 2, .bool false]) 18 (by kernel_rfl) rfl (XB.out.next hdr) (fun hHeld => ?_)
  refine takeL (i := 0) (v := ?_) rfl (by kernel_rfl) (by kernel_rfl) (by kernel_rfl) (fun _ _ _ h => h) ⟨by rfl, ?_⟩ (by first | assumption | trivial) ?_
  rotate_left
  · intro W9 hSw
    (try dsimp only at hSw)
    go_simp
    try with_reducible rfl
  (try simp only [Act.put, List.setIfInBounds_toArray, List.set_cons_zero, List.set_cons_succ])
  refine takeL (i := 1) (v := ?_) rfl (by kernel_rfl) (by kernel_rfl) (by kernel_rfl) (fun _ _ _ h => h) ⟨by rfl, ?_⟩ (by first | assumption | trivial) ?_
  rotate_left
  · intro W9 hSw
    (try dsimp only at hSw)
    go_simp
    try with_reducible rfl
  (try simp only [Act.put, List.setIfInBounds_toArray, List.set_cons_zero, List.set_cons_succ])
  refine takeL (i := 2) (v := ?_) rfl (by kernel_rfl) (by kernel_rfl) (by kernel_rfl) (fun _ _ _ h => h) ⟨by rfl, ?_⟩ (by first | assumption | trivial) ?_
  rotate_left
  · intro W9 hSw
    (try dsimp only at hSw)
    go_simp
    try with_reducible rfl
  (try simp only [Act.put, List.setIfInBounds_toArray, List.set_cons_zero, List.set_cons_succ])
  refine takeL (i := 3) (v := ?_) rfl (by kernel_rfl) (by kernel_rfl) (by kernel_rfl) (fun _ _ _ h => h) ⟨by rfl, ?_⟩ (by first | assumption | trivial) ?_
  rotate_left
  · intro W9 hSw
    (try dsimp only at hSw)
    go_simp
    try with_reducible rfl
  (try simp only [Act.put, List.setIfInBounds_toArray, List.set_cons_zero, List.set_cons_succ])
  refine takeL (i := 4) (v := ?_) rfl (by kernel_rfl) (by kernel_rfl) (by kernel_rfl) (fun _ _ _ h => h) ⟨by rfl, ?_⟩ (by first | assumption | trivial) ?_
  rotate_left
  · intro W9 hSw
    (try dsimp only at hSw)
    go_simp
    try with_reducible rfl
  (try simp only [Act.put, List.setIfInBounds_toArray, List.set_cons_zero, List.set_cons_succ])
  refine takeL (i := 5) (v := ?_) rfl (by kernel_rfl) (by kernel_rfl) (by kernel_rfl) (fun _ _ _ h => h) ⟨by rfl, ?_⟩ (by first | assumption | trivial) ?_
  rotate_left
  · intro W9 hSw
    (try dsimp only at hSw)
    go_simp
    try with_reducible rfl
  (try simp only [Act.put, List.setIfInBounds_toArray, List.set_cons_zero, List.set_cons_succ])
  refine takeL (i := 6) (v := ?_) rfl (by kernel_rfl) (by kernel_rfl) (by kernel_rfl) (fun _ _ _ h => h) ⟨by rfl, ?_⟩ (by first | assumption | trivial) ?_
  rotate_left
  · intro W9 hSw
    (try dsimp only at hSw)
    (have y0 := hSw.c 0 _ rfl; have y1 := hSw.c 1 _ rfl; have y2 := hSw.c 2 _ rfl; have y3 := hSw.c 3 _ rfl; have yl := hSw.lt)
    go_simp
    try with_reducible rfl
  (try simp only [Act.put, List.setIfInBounds_toArray, List.set_cons_zero, List.set_cons_succ])
  clear hHeld
  have T10 := Lib.hid (T9.out.next hdr)
  have X10 := Lib.hid (XB.out.next hdr)
  have B10 := Lib.hid (B9.out.trans (hdr.mono B9.out.size))
  clear hdr T9 XB B9
  generalize w9.drew = w10 at *
  refine wpAnyH_ready (rs := [7]) (by kernel_rfl) (by simp) ?_
  refine consL rfl (by rfl) (fun K hK => ?_) ?_
  · go_simp
    go_at_call 16
    refine (example09_any w10).mono ?_
    rintro r w11 ⟨eb, rfl, -, re, hb⟩
    have T11 := Lib.hid (T10.out.next hb)
    have X11 := Lib.hid (X10.out.next hb)
    have B11 := Lib.hid (B10.out.trans (hb.mono B10.out.size))
    obtain ⟨eb', eo, he, hlb, ee⟩ := en_at re (show exT[1]? = some (xE 98 2) from rfl)
    injection he with he
    injection he with he1 he2
    subst he1 he2
    obtain ⟨d0, d1, d2, d3⟩ := ee
    dsimp only [xE] at d0 d1 d2 d3
    refine hK.out _ _ X11.out (fun _ => ?_)
    clear hK K hb re T10 X10 B10
    (try simp only [Act.put, List.setIfInBounds_toArray, List.set_cons_zero, List.set_cons_succ])
    refine takeL (i := 8) (v := ?_) rfl (by kernel_rfl) (by kernel_rfl) (by kernel_rfl) (fun _ _ _ h => h) ⟨by rfl, ?_⟩ (by first | assumption | trivial) ?_
    rotate_left
    · intro W9 hSw
      (try dsimp only at hSw)
      go_simp
      try with_reducible rfl
    (try simp only [Act.put, List.setIfInBounds_toArray, List.set_cons_zero, List.set_cons_succ])
    refine wpAnyH_ready (rs := [9]) (by kernel_rfl) (by simp) ?_
    refine consL rfl (by rfl) (fun K hK => ?_) ?_
    · go_simp
      refine hK.out _ _ X11.out (fun _ => ?_)
      clear hK K
      (try simp only [Act.put, List.setIfInBounds_toArray, List.set_cons_zero, List.set_cons_succ])
      refine takeL (i := 10) (v := ?_) rfl (by kernel_rfl) (by kernel_rfl) (by kernel_rfl) (fun _ _ _ h => h) ⟨by rfl, ?_⟩ (by first | assumption | trivial) ?_
      rotate_left
      · intro W9 hSw
        (try dsimp only at hSw)
        go_simp
        try with_reducible rfl
      (try simp only [Act.put, List.setIfInBounds_toArray, List.set_cons_zero, List.set_cons_succ])
      refine takeL (i := 11) (v := ?_) rfl (by kernel_rfl) (by kernel_rfl) (by kernel_rfl) (fun _ _ _ h => h) ⟨by rfl, ?_⟩ (by first | assumption | trivial) ?_
      rotate_left
      · intro W9 hSw
        (try dsimp only at hSw)
        go_simp
        try with_reducible rfl
      (try simp only [Act.put, List.setIfInBounds_toArray, List.set_cons_zero, List.set_cons_succ])
      refine takeL (i := 12) (v := ?_) rfl (by kernel_rfl) (by kernel_rfl) (by kernel_rfl) (fun _ _ _ h => h) ⟨by rfl, ?_⟩ (by first | assumption | trivial) ?_
      rotate_left
      · intro W9 hSw
        (try dsimp only at hSw)
        go_simp
        try with_reducible rfl
      (try simp only [Act.put, List.setIfInBounds_toArray, List.set_cons_zero, List.set_cons_succ])
      refine takeL (i := 13) (v := ?_) rfl (by kernel_rfl) (by kernel_rfl) (by kernel_rfl) (fun _ _ _ h => h) ⟨by rfl, ?_⟩ (by first | assumption | trivial) ?_
      rotate_left
      · intro W9 hSw
        (try dsimp only at hSw)
        go_simp
        try with_reducible rfl
      (try simp only [Act.put, List.setIfInBounds_toArray, List.set_cons_zero, List.set_cons_succ])
      refine wpAnyH_ready (rs := [14]) (by kernel_rfl) (by simp) ?_
      refine consL rfl (by rfl) (fun K hK => ?_) ?_
      · go_simp
        go_at_call 19
        refine (reads_yes T11.out).mono ?_
        rintro r w12 ⟨rfl, hb⟩
        have X12 := Lib.hid (X11.out.next hb)
        have B12 := Lib.hid (B11.out.trans (hb.mono B11.out.size))
        refine hK.out _ _ X12.out (fun _ => ?_)
        clear hK K hb
        (try simp only [Act.put, List.setIfInBounds_toArray, List.set_cons_zero, List.set_cons_succ])
        refine takeL (i := 15) (v := ?_) rfl (by kernel_rfl) (by kernel_rfl) (by kernel_rfl) (fun _ _ _ h => h) ⟨by rfl, ?_⟩ (by first | assumption | trivial) ?_
        rotate_left
        · intro W9 hSw
          (try dsimp only at hSw)
          go_simp
          try with_reducible rfl
        (try simp only [Act.put, List.setIfInBounds_toArray, List.set_cons_zero, List.set_cons_succ])
        refine takeL (i := 16) (v := ?_) rfl (by kernel_rfl) (by kernel_rfl) (by kernel_rfl) (fun _ _ _ h => h) ⟨by rfl, ?_⟩ (by first | assumption | trivial) ?_
        rotate_left
        · intro W9 hSw
          (try dsimp only at hSw)
          go_simp
          try with_reducible rfl
        (try simp only [Act.put, List.setIfInBounds_toArray, List.set_cons_zero, List.set_cons_succ])
        refine takeL (i := 17) (v := ?_) rfl (by kernel_rfl) (by kernel_rfl) (by kernel_rfl) (fun _ _ _ h => h) ⟨by rfl, ?_⟩ (by first | assumption | trivial) ?_
        rotate_left
        · intro W9 hSw
          (try dsimp only at hSw)
          go_simp
          try with_reducible rfl
        (try simp only [Act.put, List.setIfInBounds_toArray, List.set_cons_zero, List.set_cons_succ])
        refine wpAnyH_done (by kernel_rfl) ?_ _
        go_wp2_with fail
        go_ret
        exact ⟨rfl, B12.out⟩
      · exact AllReadyH.nil
    · exact AllReadyH.nil
  · exact AllReadyH.nil
end Go.Proofs.Ytdmpimgbnhgiaaa

namespace Go.Proofs.Ytdmpimgbnhgiaaa
open Go.RowKit Go.St Go.Shelf Go.Maps
set_option linter.unusedVariables false
set_option linter.unusedSimpArgs false
set_option maxRecDepth 100000

theorem scan_no (v : Value) (fr to_ : ByteArray) (w : World) (h : NoS w v) : Calls Try.prog 20 #[v, .agg #[.string fr, .string to_]] w fun e w' => e = .returned (.tuple #[.slice none 0 0, .int .i64 1]) ∧ Below w.heap.size w w' := by
  obtain ⟨pa, rfl⟩ : ∃ pa, v = .pointer pa := by cases h <;> exact ⟨_, rfl⟩
  have ha : Below w.heap.size w (w.alloc (.cells #[.string fr, .string to_] 47)) := (Below.refl _ _).alloc (Nat.le_refl _) _
  have H1 := Lib.hid (h.next ha)
  have B1 := Lib.hid ha
  clear h ha
  go_enter Try.func20, Try.ntmps20
  go_wp2_with fail
  refine (none_no _ _ H1.out).mono ?_
  rintro e w2 ⟨rfl, hb⟩
  have B2 := Lib.hid (B1.out.trans (hb.mono B1.out.size))
  clear hb B1 H1
  go_wp2_with fail
  go_ret2
  exact ⟨rfl, B2.out⟩
theorem all_no (v : Value) (w : World) (h : NoS w v) : Calls Try.prog 22 #[v] w fun e w' => e = .returned (.tuple #[.slice none 0 0, .int .i64 1]) ∧ Below w.heap.size w w' := by
  obtain ⟨pa, rfl⟩ : ∃ pa, v = .pointer pa := by cases h <;> exact ⟨_, rfl⟩
  have H := Lib.hid (scan_no (.pointer pa) { data := #[] } { data := #[] } w h)
  clear h
  go_enter Try.func22, Try.ntmps22
  go_wp2_with fail
  refine H.out.mono ?_
  rintro e w2 ⟨rfl, hb⟩
  have B2 := Lib.hid hb
  clear hb H
  go_wp2_with fail
  go_ret2
  exact ⟨rfl, B2.out⟩
/-- A question to a table. -/
structure AskT where
  kind : Int
  key : ByteArray
  seq : Int
  fr : ByteArray
  to_ : ByteArray
def AskT.c (a : AskT) : List Value := [.int .i64 a.kind, .string a.key, .int .i64 a.seq, .string a.fr, .string a.to_]
def InAskT (a : AskT) : Prop := (-9223372036854775808 ≤ a.kind ∧ a.kind ≤ 9223372036854775807) ∧ a.key.size ≤ 140737488351232 ∧ (-9223372036854775808 ≤ a.seq ∧ a.seq ≤ 9223372036854775807) ∧ a.fr.size ≤ 140737488351232 ∧ a.to_.size ≤ 140737488351232
set_option maxHeartbeats 3200000 in
theorem sstNil_walk (w : World) (a : AskT) : Calls Try.prog 5 #[.agg #[.int .i64 a.kind, .string a.key, .int .i64 a.seq, .string a.fr, .string a.to_]] w fun e w' => e = .returned (.bool true) ∧ Below w.heap.size w w' := by
  obtain ⟨kd, key, seq, fr, to_⟩ := a
  dsimp only
  go_enter Try.func5, Try.ntmps5
  go_wp2_with fail
  have XA := ((BxV.new w #[.int .i64 kd, .string key, .int .i64 seq, .string fr, .string to_] 49).alloc (.cells #[.slice none 0 0, .slice none 0 0, .slice none 0 0, .int .i64 0, .int .i64 0, .bool false] 52)).alloc (.cells #[.pointer none, .pointer (some ⟨w.heap.size + 1, 0, none⟩)] 36)
  have XB := (BxV.new (w.alloc (.cells #[.int .i64 kd, .string key, .int .i64 seq, .string fr, .string to_] 49)) #[.slice none 0 0, .slice none 0 0, .slice none 0 0, .int .i64 0, .int .i64 0, .bool false] 52).alloc (.cells #[.pointer none, .pointer (some ⟨w.heap.size + 1, 0, none⟩)] 36)
  have XL := BxV.new ((w.alloc (.cells #[.int .i64 kd, .string key, .int .i64 seq, .string fr, .string to_] 49)).alloc (.cells #[.slice none 0 0, .slice none 0 0, .slice none 0 0, .int .i64 0, .int .i64 0, .bool false] 52)) #[.pointer none, .pointer (some ⟨w.heap.size + 1, 0, none⟩)] 36
  have B1 : Below w.heap.size w (((w.alloc (.cells #[.int .i64 kd, .string key, .int .i64 seq, .string fr, .string to_] 49)).alloc (.cells #[.slice none 0 0, .slice none 0 0, .slice none 0 0, .int .i64 0, .int .i64 0, .bool false] 52)).alloc (.cells #[.pointer none, .pointer (some ⟨w.heap.size + 1, 0, none⟩)] 36)) := (((Below.refl _ _).alloc (Nat.le_refl _) _).alloc (by simp) _).alloc (by simp; omega) _
  rw [World.size_alloc] at XB
  rw [World.size_alloc, World.size_alloc] at XL
  have XA := Lib.hid XA
  have XB := Lib.hid XB
  have XL := Lib.hid XL
  have B1 := Lib.hid B1
  generalize ((w.alloc (.cells #[.int .i64 kd, .string key, .int .i64 seq, .string fr, .string to_] 49)).alloc (.cells #[.slice none 0 0, .slice none 0 0, .slice none 0 0, .int .i64 0, .int .i64 0, .bool false] 52)).alloc (.cells #[.pointer none, .pointer (some ⟨w.heap.size + 1, 0, none⟩)] 36) = w1 at *
  obtain ⟨ba, hba⟩ : ∃ x, x = w.heap.size := ⟨_, rfl⟩
  obtain ⟨bl, hbl⟩ : ∃ x, x = ba + 1 + 1 := ⟨_, rfl⟩
  rw [← hba] at XA XB XL B1 ⊢
  rw [← hbl] at XL ⊢
  have hle : w.heap.size ≤ ba := by omega
  clear hba
  have hbl2 := Lib.hid hbl
  clear hbl
  go_loopw [4] (fun s4 wr => ∃ i : Nat, s4 = .int .i64 (i : Int) ∧ i ≤ 2 ∧ Hid (BxV wr ba [.int .i64 kd, .string key, .int .i64 seq, .string fr, .string to_]) ∧ Hid (BxV wr (ba + 1) [.slice none 0 0, .slice none 0 0, .slice none 0 0, .int .i64 0, .int .i64 0, .bool false]) ∧ Hid (BxV wr bl [.pointer none, .pointer (some ⟨ba + 1, 0, none⟩)]) ∧ Hid (Below ba w wr)) (fun s4 _ => 2 - (intOf s4).toNat)
  case atStart => exact ⟨0, rfl, by omega, XA, XB, XL, B1⟩
  case round =>
    clear XA XB XL B1
    obtain ⟨i, rfl, hi, XA, XB, XL, B1⟩ := hrel
    obtain ⟨w2, rfl⟩ : ∃ x, x = wr := ⟨_, rfl⟩
    by_cases hlt : i < 2
    · obtain ⟨pa, hpa, hns⟩ : ∃ pa, w2.cell? ⟨bl, i, none⟩ = some (.pointer pa) ∧ NoS w2 (.pointer pa) := by
        rcases (by omega : i = 0 ∨ i = 1) with rfl | rfl
        · exact ⟨none, XL.out.c 0 _ rfl, .nil⟩
        · exact ⟨_, XL.out.c 1 _ rfl, .at _ XB.out⟩
      have NS := Lib.hid hns
      have bll := XL.out.lt
      have a1 := XA.out.c 1 _ rfl
      have a2 := XA.out.c 2 _ rfl
      have al := XA.out.lt
      have i0 : (0 : Int) ≤ (i : Int) := by omega
      have i1 : (i : Int) < 2 := by omega
      clear hns
      go_wp2_with fail
      refine (get_no _ key seq w2 NS.out).mono ?_
      rintro e w3 ⟨rfl, hb⟩
      have XA3 := Lib.hid (XA.out.next hb)
      have XB3 := Lib.hid (XB.out.next hb)
      have XL3 := Lib.hid (XL.out.next hb)
      have NS3 := Lib.hid (NS.out.next hb)
      have B3 := Lib.hid (B1.out.trans (hb.mono (Nat.le_of_lt XA.out.lt)))
      clear hb XA XB XL NS B1 hpa bll a1 a2 al
      go_upto_region 7 with (fail)
      have ha : Below w3.heap.size w3 (w3.alloc (.cells #[.string { data := #[] }, .string { data := #[] }, .int .i64 0, .bool false] 40)) := (Below.refl _ _).alloc (Nat.le_refl _) _
      have XX4 : Hid (BxV (w3.alloc (.cells #[.string { data := #[] }, .string { data := #[] }, .int .i64 0, .bool false] 40)) w3.heap.size [.string { data := #[] }, .string { data := #[] }, .int .i64 0, .bool false]) := Lib.hid (BxV.new w3 _ _)
      have XA4 := Lib.hid (XA3.out.next ha)
      have XB4 := Lib.hid (XB3.out.next ha)
      have XL4 := Lib.hid (XL3.out.next ha)
      have NS4 := Lib.hid (NS3.out.next ha)
      have B4 := Lib.hid (B3.out.trans (ha.mono (Nat.le_of_lt XA3.out.lt)))
      clear ha XA3 XB3 XL3 NS3 B3
      generalize w3.alloc (.cells #[.string { data := #[] }, .string { data := #[] }, .int .i64 0, .bool false] 40) = w4 at *
      generalize w3.heap.size = xb at *
      have a3 := XA4.out.c 3 _ rfl
      have a4 := XA4.out.c 4 _ rfl
      have al := XA4.out.lt
      go_wp2_with fail
      refine (scan_no _ fr to_ w4 NS4.out).mono ?_
      rintro e w5 ⟨rfl, hb⟩
      have XX5 := Lib.hid (XX4.out.next hb)
      have XA5 := Lib.hid (XA4.out.next hb)
      have XB5 := Lib.hid (XB4.out.next hb)
      have XL5 := Lib.hid (XL4.out.next hb)
      have NS5 := Lib.hid (NS4.out.next hb)
      have B5 := Lib.hid (B4.out.trans (hb.mono (Nat.le_of_lt XA4.out.lt)))
      clear hb XX4 XA4 XB4 XL4 NS4 B4
      clear a3 a4 al
      go_wp2_with fail
      refine (all_no _ w5 NS5.out).mono ?_
      rintro e w6 ⟨rfl, hb⟩
      have XX6 := Lib.hid (XX5.out.next hb)
      have XA6 := Lib.hid (XA5.out.next hb)
      have XB6 := Lib.hid (XB5.out.next hb)
      have XL6 := Lib.hid (XL5.out.next hb)
      have NS6 := Lib.hid (NS5.out.next hb)
      have B6 := Lib.hid (B5.out.trans (hb.mono (Nat.le_of_lt XA5.out.lt)))
      clear hb XX5 XA5 XB5 XL5 NS5 B5
      have x0 := XX6.out.c 0 _ rfl
      have x1 := XX6.out.c 1 _ rfl
      have x2 := XX6.out.c 2 _ rfl
      have x3 := XX6.out.c 3 _ rfl
      have xl := XX6.out.lt
      go_wp2_with fail
      clear x0 x1 x2 x3 xl
      refine (len_no _ w6 NS6.out).mono ?_
      rintro e w7 ⟨rfl, hb⟩
      have XX7 := Lib.hid (XX6.out.next hb)
      have XA7 := Lib.hid (XA6.out.next hb)
      have XB7 := Lib.hid (XB6.out.next hb)
      have XL7 := Lib.hid (XL6.out.next hb)
      have NS7 := Lib.hid (NS6.out.next hb)
      have B7 := Lib.hid (B6.out.trans (hb.mono (Nat.le_of_lt XA6.out.lt)))
      clear hb XX6 XA6 XB6 XL6 NS6 B6
      go_wp2_with fail
      refine (blocks_no _ w7 NS7.out).mono ?_
      rintro e w8 ⟨rfl, hb⟩
      have XX8 := Lib.hid (XX7.out.next hb)
      have XA8 := Lib.hid (XA7.out.next hb)
      have XB8 := Lib.hid (XB7.out.next hb)
      have XL8 := Lib.hid (XL7.out.next hb)
      have NS8 := Lib.hid (NS7.out.next hb)
      have B8 := Lib.hid (B7.out.trans (hb.mono (Nat.le_of_lt XA7.out.lt)))
      clear hb XX7 XA7 XB7 XL7 NS7 B7
      go_wp2_with fail
      refine (last_no _ w8 NS8.out).mono ?_
      rintro e w9 ⟨rfl, hb⟩
      have XX9 := Lib.hid (XX8.out.next hb)
      have XA9 := Lib.hid (XA8.out.next hb)
      have XB9 := Lib.hid (XB8.out.next hb)
      have XL9 := Lib.hid (XL8.out.next hb)
      have NS9 := Lib.hid (NS8.out.next hb)
      have B9 := Lib.hid (B8.out.trans (hb.mono (Nat.le_of_lt XA8.out.lt)))
      clear hb XX8 XA8 XB8 XL8 NS8 B8
      go_wp2_with fail
      refine (reads_no _ w9 NS9.out).mono ?_
      rintro e w10 ⟨rfl, hb⟩
      have XX10 := Lib.hid (XX9.out.next hb)
      have XA10 := Lib.hid (XA9.out.next hb)
      have XB10 := Lib.hid (XB9.out.next hb)
      have XL10 := Lib.hid (XL9.out.next hb)
      have NS10 := Lib.hid (NS9.out.next hb)
      have B10 := Lib.hid (B9.out.trans (hb.mono (Nat.le_of_lt XA9.out.lt)))
      clear hb XX9 XA9 XB9 XL9 NS9 B9
      go_wp2_with fail
      go_roundw
      case rel => exact ⟨i + 1, by go_num, by omega, XA10, XB10, XL10, B10⟩
      case measure => (first | (simp [intOf]; done) | (simp [intOf]; omega))
    · obtain rfl : i = 2 := by omega
      go_wp2_with fail
      refine (lives09_any w2).mono ?_
      rintro e w3 ⟨rfl, hb⟩
      have B9 := Lib.hid (B1.out.trans (hb.mono (Nat.le_of_lt XA.out.lt)))
      clear hb B1 XA XB XL
      go_wp2_with fail
      go_ret
      exact ⟨rfl, B9.out.mono hle⟩
end Go.Proofs.Ytdmpimgbnhgiaaa
