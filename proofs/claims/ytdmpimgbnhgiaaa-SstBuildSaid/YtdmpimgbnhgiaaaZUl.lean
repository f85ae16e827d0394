/- Walk: a table's index is read. -/
import Derived.Test.YtdmpimgbnhgiaaaZEa
import Derived.Test.YtdmpimgbnhgiaaaZUj
import Derived.Deep.CutRange

namespace Go.Proofs.Ytdmpimgbnhgiaaa
open Go.RowKit Go.St Go.Shelf Go.Maps
set_option linter.unusedVariables false
set_option linter.unusedSimpArgs false
set_option maxRecDepth 100000

theorem styP : STy Try.prog 50 93 6 64 (.agg #[.int .i64 0, .int .i64 0, .string { data := #[] }, .string { data := #[] }, .int .i64 0, .bool false]) := ⟨Try.underlying50, ⟨_, rfl, by kernel_rfl, by kernel_rfl, by kernel_rfl⟩, rfl, by decide⟩
set_option maxHeartbeats 6400000 in
theorem indexed_any (A : Option Addr) (n c p : Nat) (hp : 1 ≤ p ∧ p ≤ 64) (l : List Ent) (hl : l.length ≤ 150) (hl1 : 1 ≤ l.length) (hok : ∀ x ∈ l, okE x = true) (hris : risE l = true) (hn : (idxB p l).length = n) (hnc : n ≤ c) (hc : c ≤ 9223372036854775807) (B : Nat) (w : World) (hr : Rd w B A (bv (idxB p l))) (hB : B ≤ w.heap.size) :
    Calls Try.prog 53 #[.slice A n c, .int .i64 ((outP p l (nch p l)).length : Nat)] w fun e w' => ∃ A' c', e = .returned (.tuple #[.slice A' (nch p l) c', .bool true]) ∧ w'.ownsRow w.heap.size 93 6 (.slice A' (nch p l) c') (nch p l) (plv p l (nch p l)) ∧ Below w.heap.size w w' := by
  have HN := Lib.hid hn
  have hn0 : n ≤ 82510 := by rw [← hn]; exact idxB_len hp.1 hok hl
  have hnl := nch_le hp.1 l
  have hN1 : 1 ≤ nch p l := by
    have := (nch_lt (p := p) (by omega) l 0).2 (by omega)
    omega
  have hol := outP_len p l (nch p l)
  have HOK := Lib.hid hok
  have HRIS := Lib.hid hris
  have HR := Lib.hid hr
  obtain ⟨N, hN⟩ : ∃ N, N = nch p l := ⟨_, rfl⟩
  obtain ⟨Z, hZ⟩ : ∃ Z, Z = (outP p l (nch p l)).length := ⟨_, rfl⟩
  obtain ⟨k0, hk0⟩ : ∃ k0, k0 = (uv (nch p l)).length := ⟨_, rfl⟩
  have HX0 : Hid (smU (idxB p l) 65536 = some (N, k0) ∧ (idxB p l).drop k0 = ixR p l 0) := Lib.hid (by
    rw [hN, hk0, ixR_zero]
    exact smU_at (by omega) (by omega) _ _ rfl)
  have hk1 : k0 < n := by
    have h1 := ixR_step (p := p) (l := l) (i := 0) (by omega)
    have h2 := uv_pos (blkF (chk p l 0)).length
    rw [ixR_zero] at h1
    rw [hk0, ← HN.out]
    unfold idxB
    rw [List.length_append, h1, List.length_append]
    omega
  have hk : k0 ≤ n := by omega
  rw [← hZ] at hol ⊢
  rw [← hN] at hnl hN1 hol ⊢
  have HNE := Lib.hid hN
  have HZE := Lib.hid hZ
  have S0 : Hid (IxS (w.alloc (.cells #[.slice A n c] 26)) w.heap.size A n c (idxB p l)) := Lib.hid ⟨BxV.new w _ _, (hr.more hB).alloc (Nat.le_refl _) _, hn, hnc, by omega, hc⟩
  clear hn hok hris hr hN hZ hk0
  have B0 : Hid (Below w.heap.size w (w.alloc (.cells #[.slice A n c] 26))) := Lib.hid ((Below.refl _ _).alloc (Nat.le_refl _) _)
  obtain ⟨q, hq⟩ : ∃ q, q = w.heap.size := ⟨_, rfl⟩
  rw [← hq] at S0 B0 ⊢
  clear HR
  have HQ := Lib.hid hq
  clear hq
  have N1 : ¬ (N : Int) < 1 := by omega
  have S0x := S0.out
  go_enter Try.func53, Try.ntmps53
  go_wp2_with fail
  rw [← HQ.out] at *
  generalize w.alloc (.cells #[.slice A n c] 26) = w1 at *
  have HS := Lib.hid (small_any A n c q (idxB p l) HN.out (by omega) 65536 (by omega) w1 S0.out.rd (Nat.le_of_lt S0.out.x.lt))
  rw [smV_some HX0.out.1] at HS
  refine HS.out.mono ?_
  rintro e w2 ⟨rfl, hb⟩
  have S2 := Lib.hid (S0.out.next hb)
  have B2 := Lib.hid (B0.out.trans (hb.mono (Nat.le_of_lt S0.out.x.lt)))
  clear hb S0 S0x B0 HS
  have d4 := S2.out.x.c 0 _ rfl
  have l4 := S2.out.x.lt
  have g4 := S2.out.x.fz
  have D := S2.out.cut hk (A' := if c = k0 then A else A.map (·.add k0)) rfl
  have hck : ¬ c = k0 := by omega
  rw [if_neg hck, HX0.out.2] at D
  have DD := Lib.hid D
  have DB := Lib.hid (B2.out.setCell (p := ⟨q, 0, none⟩) (Nat.le_refl _) (.slice (A.map (·.add k0)) (n - k0) (c - k0)))
  have j0 : (0 : Int) ≤ (k0 : Int) := by omega
  have j1 : (k0 : Int) ≤ (n : Int) := by omega
  have j2 : (n : Int) ≤ (c : Int) := by omega
  clear D HX0 S2 B2
  go_wp2_with fail
  have hz3 : q < (w2.setCell ⟨q, 0, none⟩ (.slice (A.map (·.add k0)) (n - k0) (c - k0))).heap.size := DD.out.x.lt
  generalize A.map (·.add k0) = A3 at *
  generalize n - k0 = n3 at *
  generalize c - k0 = c3 at *
  generalize w2.setCell ⟨q, 0, none⟩ (.slice A3 n3 c3) = w3 at *
  clear d4 l4 g4 hck j0 j1 j2 N1 hk hk1 hn0 hnc hc HN
  go_loopw [10, 11, 36] (fun s10 s11 s36 wr => ∃ (Al : Option Addr) (cl i : Nat) (As : Option Addr) (ns cs : Nat), s10 = .slice Al i cl ∧ s11 = .int .i64 ((outP p l i).length : Nat) ∧ s36 = .int .i64 (i : Int) ∧ i ≤ N ∧ Hid (wr.ownsRow (q + 1) 93 6 (.slice Al i cl) i (plv p l i)) ∧ Hid (IxS wr q As ns cs (ixR p l i)) ∧ Hid (Below q w wr)) (fun _ _ s36 _ => N - (intOf s36).toNat)
  case atStart => exact ⟨none, 0, 0, A3, n3, c3, rfl, rfl, rfl, Nat.zero_le _, Lib.hid (World.ownsRow_nil _ _ _ _), DD, DB⟩
  case round =>
    obtain ⟨Al, cl, i, As, ns, cs, rfl, rfl, rfl, hi, OL, S4, B4⟩ := hrel
    obtain ⟨w4, rfl⟩ : ∃ x, x = wr := ⟨_, rfl⟩
    by_cases hlt : i < N
    · obtain ⟨sn, k1, k2, k4, r1, r2, r3, hsq, hs1, hs2, hb1, hb2, hk1, hk2, H1, H2, H3, h3l, H4⟩ := ix_round hp HOK.out HRIS.out (i := i) (by rw [← HNE.out]; exact hlt)
      obtain ⟨bL, hbL⟩ : ∃ bL, bL = (blkF (chk p l i)).length := ⟨_, rfl⟩
      obtain ⟨Kx, hKx⟩ : ∃ Kx, Kx = (lstE (chk p l i)).key := ⟨_, rfl⟩
      obtain ⟨oL, hoL⟩ : ∃ oL, oL = (outP p l i).length := ⟨_, rfl⟩
      have hol4 : oL ≤ 150 * 400012 := by rw [hoL]; exact Nat.le_trans (outP_len p l i) (by omega)
      have HPE : Hid (plE p l i = [.int .i64 (oL : Nat), .int .i64 (bL : Nat), .string Kx, .string zB, .int .i64 (sn : Int), .bool false]) := Lib.hid (by unfold plE; rw [hoL, hbL, hKx, hsq])
      have HLX : Hid (lxE p l i = ⟨Kx, zB, (sn : Int), false⟩) := Lib.hid (by unfold lxE; rw [hKx, hsq])
      have HPV : Hid (plv p l (i + 1) = plv p l i ++ [.int .i64 (oL : Nat), .int .i64 (bL : Nat), .string Kx, .string zB, .int .i64 (sn : Int), .bool false]) := Lib.hid (by rw [plv, HPE.out])
      have HOL2 : Hid ((outP p l (i + 1)).length = oL + bL) := Lib.hid (by rw [outP, List.length_append, hoL, hbL])
      rw [← hbL] at hb1 hb2 H1
      rw [← hKx] at hk1 hk2 H2 H3 h3l
      rw [← hoL]
      clear hbL hKx hoL hsq
      have S4x := S4.out
      have i1 : (i : Int) < (N : Int) := by omega
      go_wp2_with fail
      have PB5 : Hid (BxV (w4.alloc (.cells #[.int .i64 (oL : Nat), .int .i64 0, .string { data := #[] }, .string { data := #[] }, .int .i64 0, .bool false] 93)) w4.heap.size [.int .i64 (oL : Nat), .int .i64 0, .string { data := #[] }, .string { data := #[] }, .int .i64 0, .bool false]) := Lib.hid (BxV.new w4 _ _)
      have ha : Below w4.heap.size w4 (w4.alloc (.cells #[.int .i64 (oL : Nat), .int .i64 0, .string { data := #[] }, .string { data := #[] }, .int .i64 0, .bool false] 93)) := (Below.refl _ _).alloc (Nat.le_refl _) _
      have S5 := Lib.hid (S4.out.next ha)
      have B5 := Lib.hid (B4.out.trans (ha.mono (Nat.le_of_lt S4.out.x.lt)))
      have OL5 := Lib.hid (own_keep OL.out ha (Nat.le_refl _))
      have hq4 := S4.out.x.lt
      have HGP : Hid (∀ g, (Value.slice Al i cl).ownBlock = some g → g ≠ w4.heap.size) := Lib.hid (fun g hg => by have := (OL.out.lt g hg).2; omega)
      clear ha S4 B4 OL S4x
      generalize w4.alloc (.cells #[.int .i64 (oL : Nat), .int .i64 0, .string { data := #[] }, .string { data := #[] }, .int .i64 0, .bool false] 93) = w5 at *
      generalize w4.heap.size = pb at *
      refine (ixsmall_any 13 1048588 (by omega) bL k1 q As ns cs _ H1.out.1 (by omega) w5 S5.out).mono ?_
      rintro e w6 ⟨rfl, ⟨A6, c6, s6⟩, t6⟩
      rw [H1.out.2] at s6
      have S6 := Lib.hid s6
      have PB6 := Lib.hid (t6.bxv PB5.out (PB5.out.lt) (by omega))
      have OL6 := Lib.hid (ownsRow_of OL5.out (W' := w6) (fun g hg => t6.block g (OL5.out.lt g hg).2 (by have := (OL5.out.lt g hg).1; omega)))
      have B6 := Lib.hid (B5.out.trans (t6.below (Nat.le_of_lt S5.out.x.lt) (Nat.le_refl _)))
      clear s6 t6 PB5 OL5 B5 S5 H1
      go_wp2_with fail
      refine (ixsmall_any 1 512 (by omega) Kx.size k2 q A6 _ c6 _ H2.out.1 (by omega) w6 S6.out).mono ?_
      rintro e w7 ⟨rfl, ⟨A7, c7, s7⟩, t7⟩
      rw [H2.out.2] at s7
      generalize ns - k1 - k2 = n7 at *
      have S7 := Lib.hid s7
      have PB7 := Lib.hid (t7.bxv PB6.out (PB6.out.lt) (by omega))
      have OL7 := Lib.hid (ownsRow_of OL6.out (W' := w7) (fun g hg => t7.block g (OL6.out.lt g hg).2 (by have := (OL6.out.lt g hg).1; omega)))
      have B7 := Lib.hid (B6.out.trans (t7.below (Nat.le_of_lt S6.out.x.lt) (Nat.le_refl _)))
      clear s7 t7 PB6 OL6 B6 S6 H2
      have d4 := S7.out.x.c 0 _ rfl
      have l4 := S7.out.x.lt
      have g4 := S7.out.x.fz
      have hnl7 : Kx.size < n7 := by have := S7.out.hl; omega
      have hnc7 := S7.out.nc
      have hcc7 := S7.out.hc
      have k3 : ¬ ((n7 : Int) < (Kx.size : Int)) := by omega
      go_upto_region 15 with (fail)
      have hdr : Below w7.heap.size w7 w7.drew := Below.drew (Below.refl _ _)
      have i2 : (0 : Int) ≤ (Kx.size : Int) := by omega
      have i3 : (Kx.size : Int) ≤ (c7 : Int) := by omega
      have i4 : (Kx.size : Int) ≤ (n7 : Int) := by omega
      have i5 : (n7 : Int) ≤ (c7 : Int) := by omega
      refine wp_heldall (S := fun W => IxS W q A7 n7 c7 r2) 10 (by kernel_rfl) rfl (S7.out.next hdr) (fun hHeld => ?_)
      refine takeL (i := 0) (v := ?_) rfl (by kernel_rfl) (by kernel_rfl) (by kernel_rfl) (fun _ _ _ h => h) ⟨by rfl, ?_⟩ (by first | assumption | trivial) ?_
      rotate_left
      · intro W9 hSw
        (try dsimp only at hSw)
        go_simp
        try with_reducible rfl
      (try simp only [Act.put, List.setIfInBounds_toArray, List.set_cons_zero, List.set_cons_succ])
      refine takeL (i := 1) (v := ?_) rfl (by kernel_rfl) (by kernel_rfl) (by kernel_rfl) (fun _ _ _ h => h) ⟨by rfl, ?_⟩ (by first | assumption | trivial) ?_
      rotate_left
      · intro W9 hSw
        (try dsimp only at hSw)
        (have y := hSw.x.c 0 _ rfl; have yl := hSw.x.lt)
        go_simp
        try with_reducible rfl
      (try simp only [Act.put, List.setIfInBounds_toArray, List.set_cons_zero, List.set_cons_succ])
      refine takeL (i := 2) (v := ?_) rfl (by kernel_rfl) (by kernel_rfl) (by kernel_rfl) (fun _ _ _ h => h) ⟨by rfl, ?_⟩ (by first | assumption | trivial) ?_
      rotate_left
      · intro W9 hSw
        (try dsimp only at hSw)
        go_simp
        try with_reducible rfl
      (try simp only [Act.put, List.setIfInBounds_toArray, List.set_cons_zero, List.set_cons_succ])
      refine takeL (i := 3) (v := ?_) rfl (by kernel_rfl) (by kernel_rfl) (by kernel_rfl) (fun _ _ _ h => h) ⟨by rfl, ?_⟩ (by first | assumption | trivial) ?_
      rotate_left
      · intro W9 hSw
        (try dsimp only at hSw)
        go_simp
        try with_reducible rfl
      (try simp only [Act.put, List.setIfInBounds_toArray, List.set_cons_zero, List.set_cons_succ])
      refine takeL (i := 4) (v := ?_) rfl (by kernel_rfl) (by kernel_rfl) (by kernel_rfl) (fun _ _ _ h => h) ⟨by rfl, ?_⟩ (by first | assumption | trivial) ?_
      rotate_left
      · intro W9 hSw
        (try dsimp only at hSw)
        (have kc : (convert 26 9 (.slice A7 Kx.size c7)).run Try.prog W9 = .ok (.string Kx) W9 := (conv_str (P := Try.prog) 26 9 5 Kx.size c7 Try.underlying26 Try.underlying5 Try.underlying9 (B := q) (bs := r2.take Kx.size) (by have h := hSw.rd.take Kx.size; have e : (bv r2).take Kx.size = bv (r2.take Kx.size) := (by simp [bv, List.map_take]); rwa [e] at h) (by rw [List.length_take, hSw.hl]; omega)).trans (by rw [H3.out.1, keyB]))
        go_simp
        try with_reducible rfl
      (try simp only [Act.put, List.setIfInBounds_toArray, List.set_cons_zero, List.set_cons_succ])
      clear hHeld d4 l4 g4
      have S8 := Lib.hid (S7.out.next hdr)
      have PB8 := Lib.hid (PB7.out.next hdr)
      have OL8 := Lib.hid (own_keep OL7.out hdr (Nat.le_refl _))
      have B8 := Lib.hid (B7.out.trans (hdr.mono (Nat.le_of_lt S7.out.x.lt)))
      clear hdr S7 PB7 OL7 B7
      generalize w7.drew = w8 at *
      refine takeL (i := 5) (v := ?_) rfl (by kernel_rfl) (by kernel_rfl) (by kernel_rfl) (fun _ _ _ h => h) ⟨by rfl, ?_⟩ (by first | assumption | trivial) ?_
      rotate_left
      · intro W9 hSw
        (try dsimp only at hSw)
        go_simp
        try with_reducible rfl
      (try simp only [Act.put, List.setIfInBounds_toArray, List.set_cons_zero, List.set_cons_succ])
      have p1 := PB8.out.c 1 _ rfl
      have pf := PB8.out.fz
      have pl := PB8.out.lt
      refine wpAnyH_ready (rs := [6]) (by kernel_rfl) (by simp) ?_
      refine consL rfl (by rfl) (fun K hK => ?_) ?_
      · go_simp
        have S9 := Lib.hid (S8.out.put (b := pb) (by omega) 1 (.int .i64 (bL : Int)))
        have PB9 := Lib.hid (bxv_put PB8.out 1 (by simp) (.int .i64 (bL : Int)))
        have OL9 : Hid ((w8.setCell ⟨pb, 1, none⟩ (.int .i64 (bL : Int))).ownsRow (q + 1) 93 6 (.slice Al i cl) i (plv p l i)) := Lib.hid (ownsRow_of OL8.out (fun g hg => Below.heap_setCell _ _ _ _ (HGP.out g hg)))
        have B9 := Lib.hid (B8.out.setCell (p := ⟨pb, 1, none⟩) (by show q ≤ pb; omega) (.int .i64 (bL : Int)))
        refine hK.out _ _ S9.out (fun _ => ?_)
        clear hK S8 PB8 OL8 B8 p1 pf pl
        generalize w8.setCell ⟨pb, 1, none⟩ (.int .i64 (bL : Int)) = w9 at *
        (try simp only [Act.put, List.setIfInBounds_toArray, List.set_cons_zero, List.set_cons_succ])
        refine takeL (i := 7) (v := ?_) rfl (by kernel_rfl) (by kernel_rfl) (by kernel_rfl) (fun _ _ _ h => h) ⟨by rfl, ?_⟩ (by first | assumption | trivial) ?_
        rotate_left
        · intro W9 hSw
          (try dsimp only at hSw)
          go_simp
          try with_reducible rfl
        (try simp only [Act.put, List.setIfInBounds_toArray, List.set_cons_zero, List.set_cons_succ])
        refine takeL (i := 8) (v := ?_) rfl (by kernel_rfl) (by kernel_rfl) (by kernel_rfl) (fun _ _ _ h => h) ⟨by rfl, ?_⟩ (by first | assumption | trivial) ?_
        rotate_left
        · intro W9 hSw
          (try dsimp only at hSw)
          go_simp
          try with_reducible rfl
        (try simp only [Act.put, List.setIfInBounds_toArray, List.set_cons_zero, List.set_cons_succ])
        have p1 := PB9.out.c 2 _ rfl
        have pf := PB9.out.fz
        have pl := PB9.out.lt
        refine wpAnyH_ready (rs := [9]) (by kernel_rfl) (by simp) ?_
        refine consL rfl (by rfl) (fun K hK => ?_) ?_
        · go_simp
          have S10 := Lib.hid (S9.out.put (b := pb) (by omega) 2 (.string Kx))
          have PB10 := Lib.hid (bxv_put PB9.out 2 (by simp) (.string Kx))
          have OL10 : Hid ((w9.setCell ⟨pb, 2, none⟩ (.string Kx)).ownsRow (q + 1) 93 6 (.slice Al i cl) i (plv p l i)) := Lib.hid (ownsRow_of OL9.out (fun g hg => Below.heap_setCell _ _ _ _ (HGP.out g hg)))
          have B10 := Lib.hid (B9.out.setCell (p := ⟨pb, 2, none⟩) (by show q ≤ pb; omega) (.string Kx))
          refine hK.out _ _ S10.out (fun _ => ?_)
          clear hK S9 PB9 OL9 B9 p1 pf pl
          generalize w9.setCell ⟨pb, 2, none⟩ (.string Kx) = w10 at *
          (try simp only [Act.put, List.setIfInBounds_toArray, List.set_cons_zero, List.set_cons_succ])
          refine wpAnyH_done (by kernel_rfl) ?_ _
          have d4 := S10.out.x.c 0 _ rfl
          have l4 := S10.out.x.lt
          have g4 := S10.out.x.fz
          have D := S10.out.cut (k := Kx.size) (by omega) (A' := if c7 = Kx.size then A7 else A7.map (·.add Kx.size)) rfl
          have hck : ¬ c7 = Kx.size := by omega
          rw [if_neg hck, H3.out.2] at D
          have S11 := Lib.hid D
          have PB11 := Lib.hid (bxv_far PB10.out (show q ≠ pb by omega) 0 (.slice (A7.map (·.add Kx.size)) (n7 - Kx.size) (c7 - Kx.size)))
          have OL11 : Hid ((w10.setCell ⟨q, 0, none⟩ (.slice (A7.map (·.add Kx.size)) (n7 - Kx.size) (c7 - Kx.size))).ownsRow (q + 1) 93 6 (.slice Al i cl) i (plv p l i)) := Lib.hid (ownsRow_of OL10.out (fun g hg => Below.heap_setCell _ _ _ _ (by have := (OL10.out.lt g hg).1; show g ≠ q; omega)))
          have B11 := Lib.hid (B10.out.setCell (p := ⟨q, 0, none⟩) (Nat.le_refl _) (.slice (A7.map (·.add Kx.size)) (n7 - Kx.size) (c7 - Kx.size)))
          clear D S10 PB10 OL10 B10 H3
          go_wp2_with fail
          generalize A7.map (·.add Kx.size) = A11 at *
          generalize n7 - Kx.size = n11 at *
          generalize c7 - Kx.size = c11 at *
          generalize w10.setCell ⟨q, 0, none⟩ (.slice A11 n11 c11) = w11 at *
          clear d4 l4 g4 hck i2 i3 i4 i5 k3
          refine (ixsmall_any 1 1073741824 (by omega) sn k4 q A11 _ c11 _ H4.out.1 (by omega) w11 S11.out).mono ?_
          rintro e w12 ⟨rfl, ⟨A12, c12, s12⟩, t12⟩
          rw [H4.out.2] at s12
          generalize n11 - k4 = n12 at *
          have S12 := Lib.hid s12
          have PB12 := Lib.hid (t12.bxv PB11.out (PB11.out.lt) (by omega))
          have OL12 := Lib.hid (ownsRow_of OL11.out (W' := w12) (fun g hg => t12.block g (OL11.out.lt g hg).2 (by have := (OL11.out.lt g hg).1; omega)))
          have B12 := Lib.hid (B11.out.trans (t12.below (Nat.le_of_lt S11.out.x.lt) (Nat.le_refl _)))
          clear s12 t12 PB11 OL11 B11 S11 H4
          have p1 := PB12.out.c 4 _ rfl
          have pf := PB12.out.fz
          have pl := PB12.out.lt
          go_upto_region 19 with (fail)
          have S13 := Lib.hid (S12.out.put (b := pb) (by omega) 4 (.int .i64 (sn : Int)))
          have PB13 := Lib.hid (bxv_put PB12.out 4 (by simp) (.int .i64 (sn : Int)))
          have OL13 : Hid ((w12.setCell ⟨pb, 4, none⟩ (.int .i64 (sn : Int))).ownsRow (q + 1) 93 6 (.slice Al i cl) i (plv p l i)) := Lib.hid (ownsRow_of OL12.out (fun g hg => Below.heap_setCell _ _ _ _ (HGP.out g hg)))
          have B13 := Lib.hid (B12.out.setCell (p := ⟨pb, 4, none⟩) (by show q ≤ pb; omega) (.int .i64 (sn : Int)))
          clear S12 PB12 OL12 B12 p1 pf pl
          generalize w12.setCell ⟨pb, 4, none⟩ (.int .i64 (sn : Int)) = w13 at *
          have p0 := PB13.out.c 0 _ rfl
          have p1 := PB13.out.c 1 _ rfl
          have p2 := PB13.out.c 2 _ rfl
          have p3 := PB13.out.c 3 _ rfl
          have p4 := PB13.out.c 4 _ rfl
          have p5 := PB13.out.c 5 _ rfl
          have pl := PB13.out.lt
          rcases Nat.eq_zero_or_pos i with h0 | h0
          · subst h0
            have gd : decide ((0 : Int) < ((0 : Nat) : Int)) = false := by decide
            have gd2 : decide (0 < (0 : Nat)) = false := by decide
            refine wp_qall (by kernel_rfl) (by kernel_rfl) ?_
            intro hcg
            repeat (first | go_big_quiet_step ((fail)) | quiet_step ((fail)))
            refine wpQuiet_nil ?_
            intro wq hbwq hcwq hfwq
            clear hcg
            have S14 := Lib.hid (S13.out.next hbwq)
            have PB14 := Lib.hid (PB13.out.next hbwq)
            have OL14 := Lib.hid (own_keep OL13.out hbwq (Nat.le_refl _))
            have B14 := Lib.hid (B13.out.trans (hbwq.mono (Nat.le_of_lt S13.out.x.lt)))
            clear hbwq hcwq hfwq S13 PB13 OL13 B13 p0 p1 p2 p3 p4 p5 pl
            obtain ⟨w14, rfl⟩ : ∃ x, x = wq := ⟨_, rfl⟩
            go_upto_region 21 with (fail)
            have hdr : Below w14.heap.size w14 w14.drew := Below.drew (Below.refl _ _)
            have hadd : IntKind.i64.wrap ((oL : Int) + (bL : Int)) = ((oL + bL : Nat) : Int) := by rw [IntWalk.i64_in _ (by omega)]; omega
            have hadd2 : wrap64 ((oL : Int) + (bL : Int)) = ((oL + bL : Nat) : Int) := by rw [IntWalk.wrap64_in _ ⟨by omega, by omega⟩]; omega
            refine wp_heldall (S := fun W => BxV W pb [.int .i64 (oL : Nat), .int .i64 (bL : Int), .string Kx, .string { data := #[] }, .int .i64 (sn : Int), .bool false]) 10 (by kernel_rfl) rfl (PB14.out.next hdr) (fun hHeld => ?_)
            refine takeL (i := 0) (v := ?_) rfl (by kernel_rfl) (by kernel_rfl) (by kernel_rfl) (fun _ _ _ h => h) ⟨by rfl, ?_⟩ (by first | assumption | trivial) ?_
            rotate_left
            · intro W9 hSw
              (try dsimp only at hSw)
              go_simp
              try with_reducible rfl
            (try simp only [Act.put, List.setIfInBounds_toArray, List.set_cons_zero, List.set_cons_succ])
            refine takeL (i := 1) (v := ?_) rfl (by kernel_rfl) (by kernel_rfl) (by kernel_rfl) (fun _ _ _ h => h) ⟨by rfl, ?_⟩ (by first | assumption | trivial) ?_
            rotate_left
            · intro W9 hSw
              (try dsimp only at hSw)
              (have y0 := hSw.c 0 _ rfl; have y1 := hSw.c 1 _ rfl; have y2 := hSw.c 2 _ rfl; have y3 := hSw.c 3 _ rfl; have y4 := hSw.c 4 _ rfl; have y5 := hSw.c 5 _ rfl; have yl := hSw.lt)
              go_simp
              try with_reducible rfl
            (try simp only [Act.put, List.setIfInBounds_toArray, List.set_cons_zero, List.set_cons_succ])
            refine takeL (i := 4) (v := ?_) rfl (by kernel_rfl) (by kernel_rfl) (by kernel_rfl) (fun _ _ _ h => h) ⟨by rfl, ?_⟩ (by first | assumption | trivial) ?_
            rotate_left
            · intro W9 hSw
              (try dsimp only at hSw)
              go_simp
              try with_reducible rfl
            (try simp only [Act.put, List.setIfInBounds_toArray, List.set_cons_zero, List.set_cons_succ])
            refine takeL (i := 5) (v := ?_) rfl (by kernel_rfl) (by kernel_rfl) (by kernel_rfl) (fun _ _ _ h => h) ⟨by rfl, ?_⟩ (by first | assumption | trivial) ?_
            rotate_left
            · intro W9 hSw
              (try dsimp only at hSw)
              go_simp
              try with_reducible rfl
            (try simp only [Act.put, List.setIfInBounds_toArray, List.set_cons_zero, List.set_cons_succ])
            refine takeL (i := 6) (v := ?_) rfl (by kernel_rfl) (by kernel_rfl) (by kernel_rfl) (fun _ _ _ h => h) ⟨by rfl, ?_⟩ (by first | assumption | trivial) ?_
            rotate_left
            · intro W9 hSw
              (try dsimp only at hSw)
              (have y1 := hSw.c 1 _ rfl; have yl := hSw.lt)
              go_simp
              try with_reducible rfl
            (try simp only [Act.put, List.setIfInBounds_toArray, List.set_cons_zero, List.set_cons_succ])
            refine takeL (i := 7) (v := ?_) rfl (by kernel_rfl) (by kernel_rfl) (by kernel_rfl) (fun _ _ _ h => h) ⟨by rfl, ?_⟩ (by first | assumption | trivial) ?_
            rotate_left
            · intro W9 hSw
              (try dsimp only at hSw)
              go_simp
              try with_reducible rfl
            (try simp only [Act.put, List.setIfInBounds_toArray, List.set_cons_zero, List.set_cons_succ])
            clear hHeld
            have S15 := Lib.hid (S14.out.next hdr)
            have PB15 := Lib.hid (PB14.out.next hdr)
            have OL15 := Lib.hid (own_keep OL14.out hdr (Nat.le_refl _))
            have B15 := Lib.hid (B14.out.trans (hdr.mono (Nat.le_of_lt S14.out.x.lt)))
            clear hdr S14 PB14 OL14 B14
            generalize w14.drew = w15 at *
            refine wpAnyH_ready (rs := [2]) (by kernel_rfl) (by simp) ?_
            refine consL rfl (by rfl) (fun K hK => ?_) ?_
            · go_simp
              have ha : Below w15.heap.size w15 (w15.alloc (.cells #[.int .i64 (oL : Nat), .int .i64 (bL : Int), .string Kx, .string { data := #[] }, .int .i64 (sn : Int), .bool false] 93)) := (Below.refl _ _).alloc (Nat.le_refl _) _
              have RC := Lib.hid (rd_frC w15 #[.int .i64 (oL : Nat), .int .i64 (bL : Int), .string Kx, .string { data := #[] }, .int .i64 (sn : Int), .bool false] 93 (0, 0))
              have S16 := Lib.hid (S15.out.next ha)
              have PB16 := Lib.hid (PB15.out.next ha)
              have OL16 := Lib.hid (own_keep OL15.out ha (Nat.le_refl _))
              have B16 := Lib.hid (B15.out.trans (ha.mono (Nat.le_of_lt S15.out.x.lt)))
              refine hK.out _ _ PB16.out (fun _ => ?_)
              clear hK K S15 PB15 OL15 B15 ha
              generalize w15.alloc (.cells #[.int .i64 (oL : Nat), .int .i64 (bL : Int), .string Kx, .string { data := #[] }, .int .i64 (sn : Int), .bool false] 93) = w16 at *
              (try simp only [Act.put, List.setIfInBounds_toArray, List.set_cons_zero, List.set_cons_succ])
              refine wpAnyH_ready (rs := [3]) (by kernel_rfl) (by simp) ?_
              refine consL rfl (by rfl) (fun K hK => ?_) ?_
              · refine wp_app styP (.tmp 101) (.tmp 103) rfl (q + 1) OL16.out rfl 1 1 RC.out rfl rfl (by simp [Value.oneCell']) (by unfold maxLen; omega) (by omega) (by have := S16.out.x.lt; omega) ?_
                intro v17 w17 own17 gr17 nil17 at17
                obtain ⟨A17, c17, rfl, -, -⟩ := own_sl own17
                have b17 : Below (q + 1) w16 w17 := (Below.refl _ _).grown gr17 (by have := S16.out.x.lt; omega) (fun g e => (OL16.out.lt g e).1)
                have S17 := Lib.hid (S16.out.belowB b17 (by omega))
                have PB17 := Lib.hid (BxV.grown PB16.out gr17 (fun e => HGP.out _ e rfl))
                have B17 := Lib.hid (B16.out.trans (b17.mono (by omega)))
                have OL17 : Hid (w17.ownsRow (q + 1) 93 6 (.slice A17 (0 + 1) c17) (0 + 1) (plv p l (0 + 1))) := Lib.hid (own_eq own17 rfl (by rw [HPV.out]; rfl))
                refine hK.out _ _ PB17.out (fun _ => ?_)
                clear hK K own17 gr17 nil17 at17 b17 S16 PB16 OL16 B16 RC
                (try simp only [Act.put, List.setIfInBounds_toArray, List.set_cons_zero, List.set_cons_succ])
                refine takeL (i := 8) (v := ?_) rfl (by kernel_rfl) (by kernel_rfl) (by kernel_rfl) (fun _ _ _ h => h) ⟨by rfl, ?_⟩ (by first | assumption | trivial) ?_
                rotate_left
                · intro W9 hSw
                  (try dsimp only at hSw)
                  go_simp
                  try with_reducible rfl
                (try simp only [Act.put, List.setIfInBounds_toArray, List.set_cons_zero, List.set_cons_succ])
                refine takeL (i := 9) (v := ?_) rfl (by kernel_rfl) (by kernel_rfl) (by kernel_rfl) (fun _ _ _ h => h) ⟨by rfl, ?_⟩ (by first | assumption | trivial) ?_
                rotate_left
                · intro W9 hSw
                  (try dsimp only at hSw)
                  go_simp
                  try with_reducible rfl
                (try simp only [Act.put, List.setIfInBounds_toArray, List.set_cons_zero, List.set_cons_succ])
                refine wpAnyH_done (by kernel_rfl) ?_ _
                go_wp2_with fail
                go_roundw
                case rel => exact ⟨A17, c17, 0 + 1, A12, n12, c12, rfl, by rw [HOL2.out, Int.natCast_add], by go_num, by omega, OL17, S17, B17⟩
                case measure => (first | (simp [intOf]; done) | (simp [intOf]; omega))
              · exact AllReadyH.nil
            · exact AllReadyH.nil
          · obtain ⟨m, rfl⟩ : ∃ m, i = m + 1 := ⟨i - 1, by omega⟩
            have HLT := lx_lt hp.1 HRIS.out (show m < m + 1 by omega) (by rw [← HNE.out]; exact hlt)
            obtain ⟨A13, c13, e13, -, r13⟩ := own_sl OL13.out
            injection e13 with e13 _ e13c
            subst e13 e13c
            obtain ⟨lb, lo, rfl, hlb, hpl⟩ := pl_at r13 (show m < m + 1 by omega)
            obtain ⟨f0, f1, f2, f3, f4, f5⟩ := hpl
            have HAH : Hid (∀ W, Calls Try.prog 37 #[.agg #[.string (lstE (chk p l m)).key, .string { data := #[] }, .int .i64 (lstE (chk p l m)).seq, .bool false], .agg #[.string Kx, .string { data := #[] }, .int .i64 (sn : Int), .bool false]] W fun e w' => e = .returned (.bool true) ∧ Below W.heap.size W w') := Lib.hid (fun W => by
              have h := ahead_any (lxE p l m) ⟨Kx, zB, (sn : Int), false⟩ W
              have e : ltE (lxE p l m) ⟨Kx, zB, (sn : Int), false⟩ = true := by rw [← HLX.out]; exact HLT
              rw [e] at h
              exact h)
            unfold zB at f3
            generalize (lstE (chk p l m)).key = Km at *
            generalize (lstE (chk p l m)).seq = sm at *
            have gd : decide ((0 : Int) < ((m + 1 : Nat) : Int)) = true := decide_eq_true (by omega)
            have gd2 : decide (0 < m + 1) = true := decide_eq_true (by omega)
            have hw1 : IntKind.i64.wrap (((m + 1 : Nat) : Int) - 1) = (m : Int) := by rw [IntWalk.i64_in _ (by omega)]; omega
            have hw2 : wrap64 (((m + 1 : Nat) : Int) - 1) = (m : Int) := by rw [IntWalk.wrap64_in _ ⟨by omega, by omega⟩]; omega
            have m0 : (0 : Int) ≤ (m : Int) := by omega
            have m1 : (m : Int) < ((m + 1 : Nat) : Int) := by omega
            clear HLT
            refine wp_qall (by kernel_rfl) (by kernel_rfl) ?_
            intro hcg
            repeat (first | go_big_quiet_step ((with_reducible exact Calls.reg (HAH.out _))) | quiet_step ((with_reducible exact Calls.reg (HAH.out _))))
            refine wpQuiet_nil ?_
            intro wq hbwq hcwq hfwq
            clear hcg
            clear f0 f1 f2 f3 f4 f5
            have S14 := Lib.hid (S13.out.next hbwq)
            have PB14 := Lib.hid (PB13.out.next hbwq)
            have OL14 := Lib.hid (own_keep OL13.out hbwq (Nat.le_refl _))
            have B14 := Lib.hid (B13.out.trans (hbwq.mono (Nat.le_of_lt S13.out.x.lt)))
            clear hbwq hcwq hfwq S13 PB13 OL13 B13 p0 p1 p2 p3 p4 p5 pl
            obtain ⟨w14, rfl⟩ : ∃ x, x = wq := ⟨_, rfl⟩
            go_upto_region 21 with (fail)
            have hdr : Below w14.heap.size w14 w14.drew := Below.drew (Below.refl _ _)
            have hadd : IntKind.i64.wrap ((oL : Int) + (bL : Int)) = ((oL + bL : Nat) : Int) := by rw [IntWalk.i64_in _ (by omega)]; omega
            have hadd2 : wrap64 ((oL : Int) + (bL : Int)) = ((oL + bL : Nat) : Int) := by rw [IntWalk.wrap64_in _ ⟨by omega, by omega⟩]; omega
            refine wp_heldall (S := fun W => BxV W pb [.int .i64 (oL : Nat), .int .i64 (bL : Int), .string Kx, .string { data := #[] }, .int .i64 (sn : Int), .bool false]) 10 (by kernel_rfl) rfl (PB14.out.next hdr) (fun hHeld => ?_)
            refine takeL (i := 0) (v := ?_) rfl (by kernel_rfl) (by kernel_rfl) (by kernel_rfl) (fun _ _ _ h => h) ⟨by rfl, ?_⟩ (by first | assumption | trivial) ?_
            rotate_left
            · intro W9 hSw
              (try dsimp only at hSw)
              go_simp
              try with_reducible rfl
            (try simp only [Act.put, List.setIfInBounds_toArray, List.set_cons_zero, List.set_cons_succ])
            refine takeL (i := 1) (v := ?_) rfl (by kernel_rfl) (by kernel_rfl) (by kernel_rfl) (fun _ _ _ h => h) ⟨by rfl, ?_⟩ (by first | assumption | trivial) ?_
            rotate_left
            · intro W9 hSw
              (try dsimp only at hSw)
              (have y0 := hSw.c 0 _ rfl; have y1 := hSw.c 1 _ rfl; have y2 := hSw.c 2 _ rfl; have y3 := hSw.c 3 _ rfl; have y4 := hSw.c 4 _ rfl; have y5 := hSw.c 5 _ rfl; have yl := hSw.lt)
              go_simp
              try with_reducible rfl
            (try simp only [Act.put, List.setIfInBounds_toArray, List.set_cons_zero, List.set_cons_succ])
            refine takeL (i := 4) (v := ?_) rfl (by kernel_rfl) (by kernel_rfl) (by kernel_rfl) (fun _ _ _ h => h) ⟨by rfl, ?_⟩ (by first | assumption | trivial) ?_
            rotate_left
            · intro W9 hSw
              (try dsimp only at hSw)
              go_simp
              try with_reducible rfl
            (try simp only [Act.put, List.setIfInBounds_toArray, List.set_cons_zero, List.set_cons_succ])
            refine takeL (i := 5) (v := ?_) rfl (by kernel_rfl) (by kernel_rfl) (by kernel_rfl) (fun _ _ _ h => h) ⟨by rfl, ?_⟩ (by first | assumption | trivial) ?_
            rotate_left
            · intro W9 hSw
              (try dsimp only at hSw)
              go_simp
              try with_reducible rfl
            (try simp only [Act.put, List.setIfInBounds_toArray, List.set_cons_zero, List.set_cons_succ])
            refine takeL (i := 6) (v := ?_) rfl (by kernel_rfl) (by kernel_rfl) (by kernel_rfl) (fun _ _ _ h => h) ⟨by rfl, ?_⟩ (by first | assumption | trivial) ?_
            rotate_left
            · intro W9 hSw
              (try dsimp only at hSw)
              (have y1 := hSw.c 1 _ rfl; have yl := hSw.lt)
              go_simp
              try with_reducible rfl
            (try simp only [Act.put, List.setIfInBounds_toArray, List.set_cons_zero, List.set_cons_succ])
            refine takeL (i := 7) (v := ?_) rfl (by kernel_rfl) (by kernel_rfl) (by kernel_rfl) (fun _ _ _ h => h) ⟨by rfl, ?_⟩ (by first | assumption | trivial) ?_
            rotate_left
            · intro W9 hSw
              (try dsimp only at hSw)
              go_simp
              try with_reducible rfl
            (try simp only [Act.put, List.setIfInBounds_toArray, List.set_cons_zero, List.set_cons_succ])
            clear hHeld
            have S15 := Lib.hid (S14.out.next hdr)
            have PB15 := Lib.hid (PB14.out.next hdr)
            have OL15 := Lib.hid (own_keep OL14.out hdr (Nat.le_refl _))
            have B15 := Lib.hid (B14.out.trans (hdr.mono (Nat.le_of_lt S14.out.x.lt)))
            clear hdr S14 PB14 OL14 B14
            generalize w14.drew = w15 at *
            refine wpAnyH_ready (rs := [2]) (by kernel_rfl) (by simp) ?_
            refine consL rfl (by rfl) (fun K hK => ?_) ?_
            · go_simp
              have ha : Below w15.heap.size w15 (w15.alloc (.cells #[.int .i64 (oL : Nat), .int .i64 (bL : Int), .string Kx, .string { data := #[] }, .int .i64 (sn : Int), .bool false] 93)) := (Below.refl _ _).alloc (Nat.le_refl _) _
              have RC := Lib.hid (rd_frC w15 #[.int .i64 (oL : Nat), .int .i64 (bL : Int), .string Kx, .string { data := #[] }, .int .i64 (sn : Int), .bool false] 93 (0, 0))
              have S16 := Lib.hid (S15.out.next ha)
              have PB16 := Lib.hid (PB15.out.next ha)
              have OL16 := Lib.hid (own_keep OL15.out ha (Nat.le_refl _))
              have B16 := Lib.hid (B15.out.trans (ha.mono (Nat.le_of_lt S15.out.x.lt)))
              refine hK.out _ _ PB16.out (fun _ => ?_)
              clear hK K S15 PB15 OL15 B15 ha
              generalize w15.alloc (.cells #[.int .i64 (oL : Nat), .int .i64 (bL : Int), .string Kx, .string { data := #[] }, .int .i64 (sn : Int), .bool false] 93) = w16 at *
              (try simp only [Act.put, List.setIfInBounds_toArray, List.set_cons_zero, List.set_cons_succ])
              refine wpAnyH_ready (rs := [3]) (by kernel_rfl) (by simp) ?_
              refine consL rfl (by rfl) (fun K hK => ?_) ?_
              · refine wp_app styP (.tmp 101) (.tmp 103) rfl (q + 1) OL16.out rfl 1 1 RC.out rfl rfl (by simp [Value.oneCell']) (by unfold maxLen; omega) (by omega) (by have := S16.out.x.lt; omega) ?_
                intro v17 w17 own17 gr17 nil17 at17
                obtain ⟨A17, c17, rfl, -, -⟩ := own_sl own17
                have b17 : Below (q + 1) w16 w17 := (Below.refl _ _).grown gr17 (by have := S16.out.x.lt; omega) (fun g e => (OL16.out.lt g e).1)
                have S17 := Lib.hid (S16.out.belowB b17 (by omega))
                have PB17 := Lib.hid (BxV.grown PB16.out gr17 (fun e => HGP.out _ e rfl))
                have B17 := Lib.hid (B16.out.trans (b17.mono (by omega)))
                have OL17 : Hid (w17.ownsRow (q + 1) 93 6 (.slice A17 ((m + 1) + 1) c17) ((m + 1) + 1) (plv p l ((m + 1) + 1))) := Lib.hid (own_eq own17 rfl (by rw [HPV.out]; rfl))
                refine hK.out _ _ PB17.out (fun _ => ?_)
                clear hK K own17 gr17 nil17 at17 b17 S16 PB16 OL16 B16 RC
                (try simp only [Act.put, List.setIfInBounds_toArray, List.set_cons_zero, List.set_cons_succ])
                refine takeL (i := 8) (v := ?_) rfl (by kernel_rfl) (by kernel_rfl) (by kernel_rfl) (fun _ _ _ h => h) ⟨by rfl, ?_⟩ (by first | assumption | trivial) ?_
                rotate_left
                · intro W9 hSw
                  (try dsimp only at hSw)
                  go_simp
                  try with_reducible rfl
                (try simp only [Act.put, List.setIfInBounds_toArray, List.set_cons_zero, List.set_cons_succ])
                refine takeL (i := 9) (v := ?_) rfl (by kernel_rfl) (by kernel_rfl) (by kernel_rfl) (fun _ _ _ h => h) ⟨by rfl, ?_⟩ (by first | assumption | trivial) ?_
                rotate_left
                · intro W9 hSw
                  (try dsimp only at hSw)
                  go_simp
                  try with_reducible rfl
                (try simp only [Act.put, List.setIfInBounds_toArray, List.set_cons_zero, List.set_cons_succ])
                refine wpAnyH_done (by kernel_rfl) ?_ _
                go_wp2_with fail
                go_roundw
                case rel => exact ⟨A17, c17, (m + 1) + 1, A12, n12, c12, rfl, by rw [HOL2.out, Int.natCast_add], by go_num, by omega, OL17, S17, B17⟩
                case measure => (first | (simp [intOf]; done) | (simp [intOf]; omega))
              · exact AllReadyH.nil
            · exact AllReadyH.nil
        · exact AllReadyH.nil
      · exact AllReadyH.nil
    obtain rfl : i = N := by omega
    have i1 : ¬ (i : Int) < (i : Int) := by omega
    have hns : ns = 0 := by
      have h := S4.out.hl
      rw [HNE.out, ixR_end] at h
      exact h.symm
    subst hns
    have d4 := S4.out.x.c 0 _ rfl
    have l4 := S4.out.x.lt
    have hZ2 : (outP p l i).length = Z := by rw [HZE.out, HNE.out]
    rw [hZ2]
    have HZ3 := Lib.hid hZ2
    clear hZ2
    go_wp2_with fail
    go_ret2
    exact ⟨Al, cl, rfl, own_base OL.out (by omega), B4.out⟩
end Go.Proofs.Ytdmpimgbnhgiaaa
