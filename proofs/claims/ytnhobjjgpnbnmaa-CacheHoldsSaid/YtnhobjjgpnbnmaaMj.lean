/- Walks: the low mark raised. -/
import Derived.Test.YtnhobjjgpnbnmaaMi
namespace Go.Proofs.Ytnhobjjgpnbnmaa
open Go.RowKit Go.St
set_option linter.unusedVariables false
set_option linter.unusedSimpArgs false
set_option maxRecDepth 100000

theorem CaB.setV {E : TypeId} {W W' : World} {base b : Nat} {v v' : Value} {s : Stp} {l l' : List Mk} (h : CaB E W base b v s l) (hs : W.heap.size ≤ W'.heap.size) (hc : ∀ o, W'.cell? ⟨b, o, none⟩ = W.cell? ⟨b, o, none⟩) (hz : ∀ o, W'.frozen? ⟨b, o, none⟩ = W.frozen? ⟨b, o, none⟩)
    (own : W'.ownsRow base E 7 v' l'.length (mv l')) (hne : v'.ownBlock ≠ some b) (hn : l'.length ≤ 1025) : CaB E (W'.setCell ⟨b, 4, none⟩ v') base b v' s l' := by
  refine ⟨by simpa [World.setCell] using Nat.lt_of_lt_of_le h.lt hs, h.lo, fun o => by simpa using (hz o).trans (h.fz o), ?_, ?_, ?_, ?_, World.cell?_setCell_same _ _ _ ((hc 4).trans h.c4), ?_, hne, hn⟩
  · rw [World.cell?_setCell_other _ _ _ _ (by simp)]; exact (hc 0).trans h.c0
  · rw [World.cell?_setCell_other _ _ _ _ (by simp)]; exact (hc 1).trans h.c1
  · rw [World.cell?_setCell_other _ _ _ _ (by simp)]; exact (hc 2).trans h.c2
  · rw [World.cell?_setCell_other _ _ _ _ (by simp)]; exact (hc 3).trans h.c3
  · exact own.kept (row := some b) ⟨rfl, rfl, rfl, by simp [World.setCell], fun k _ hk => Below.heap_setCell _ _ _ _ (fun e => hk (by rw [e]))⟩ (.inr hne)
def setL (w : World) (b : Nat) (s : Stp) : World := ((w.setCell ⟨b, 1, none⟩ (.int .i64 s.wall)).setCell ⟨b, 2, none⟩ (.int .i32 s.logic)).setCell ⟨b, 3, none⟩ (.int .i32 s.tag)
theorem setL_far (w : World) (b : Nat) (s : Stp) (q : Addr) (h : q.block ≠ b) : (setL w b s).cell? q = w.cell? q := by
  unfold setL
  have hn : ∀ o, (⟨b, o, none⟩ : Addr) ≠ q := fun o e => h (congrArg Addr.block e).symm
  rw [World.cell?_setCell_other _ _ _ _ (hn 3), World.cell?_setCell_other _ _ _ _ (hn 2), World.cell?_setCell_other _ _ _ _ (hn 1)]
theorem setL_fr {b : Nat} {row : Option Nat} {x w : World} (h : Fr b row x w) (s : Stp) : Fr b row x (setL w b s) := ((h.setCell (p := ⟨b, 1, none⟩) (.inl rfl) _).setCell (p := ⟨b, 2, none⟩) (.inl rfl) _).setCell (p := ⟨b, 3, none⟩) (.inl rfl) _
theorem CaB.setL {E : TypeId} {W : World} {base b : Nat} {v : Value} {s : Stp} {l : List Mk} (h : CaB E W base b v s l) (s' : Stp) : CaB E (Go.Proofs.Ytnhobjjgpnbnmaa.setL W b s') base b v s' l := by
  obtain ⟨h1, h2, h3, h4, h5, h6, h7, h8, h9, h10, h11⟩ := h
  have ho : ∀ (i j : Nat), i ≠ j → (⟨b, i, none⟩ : Addr) ≠ ⟨b, j, none⟩ := fun i j hij e => hij (congrArg Addr.off e)
  unfold Go.Proofs.Ytnhobjjgpnbnmaa.setL
  refine ⟨by simpa [World.setCell] using h1, h2, fun o => by simpa using h3 o, ?_, ?_, ?_, ?_, ?_, ?_, h10, h11⟩
  · rw [World.cell?_setCell_other _ _ _ _ (ho 3 0 (by decide)), World.cell?_setCell_other _ _ _ _ (ho 2 0 (by decide)), World.cell?_setCell_other _ _ _ _ (ho 1 0 (by decide))]; exact h4
  · rw [World.cell?_setCell_other _ _ _ _ (ho 3 1 (by decide)), World.cell?_setCell_other _ _ _ _ (ho 2 1 (by decide))]; exact World.cell?_setCell_same _ _ _ h5
  · rw [World.cell?_setCell_other _ _ _ _ (ho 3 2 (by decide))]; exact World.cell?_setCell_same _ _ _ ((World.cell?_setCell_other _ _ _ _ (ho 1 2 (by decide))).trans h6)
  · exact World.cell?_setCell_same _ _ _ ((World.cell?_setCell_other _ _ _ _ (ho 2 3 (by decide))).trans ((World.cell?_setCell_other _ _ _ _ (ho 1 3 (by decide))).trans h7))
  · rw [World.cell?_setCell_other _ _ _ _ (ho 3 4 (by decide)), World.cell?_setCell_other _ _ _ _ (ho 2 4 (by decide)), World.cell?_setCell_other _ _ _ _ (ho 1 4 (by decide))]; exact h8
  · have hk : ∀ (w : World) (o : Nat) (u : Value), w.ownsRow base E 7 v l.length (mv l) → (w.setCell ⟨b, o, none⟩ u).ownsRow base E 7 v l.length (mv l) := fun w o u h => h.kept (row := some b) ⟨rfl, rfl, rfl, by simp [World.setCell], fun k _ hk => Below.heap_setCell _ _ _ _ (fun e => hk (by rw [e]))⟩ (.inr h10)
    exact hk _ _ _ (hk _ _ _ (hk _ _ _ h9))
theorem Fr.of_only {b g : Nat} {w w' : World} (h : Only w.heap.size g w w') : Fr b (some g) w w' := ⟨h.os, h.tape, h.output, h.size, fun k hk _ hg => h.block k hk (fun e => hg (by rw [e]))⟩
theorem Fr.any {b : Nat} {row : Option Nat} {w w' : World} (h : Fr w.heap.size row w w') : Fr b row w w' := ⟨h.os, h.tape, h.output, h.size, fun k hk _ hg => h.block k hk (by omega) hg⟩
theorem drop_len (s : Stp) (l : List Mk) : (dropL s l).length ≤ l.length := List.length_filter_le ..
theorem cdelv_any {W : World} {q b base : Nat} {v : Value} {s : Stp} {l : List Mk} (h : CaB 63 W base b v s l) (hq : ClS W q b s) (hqv : v.ownBlock ≠ some q) :
    Calls Try.prog 35 #[v, .func (.func 36) #[] #[.pointer (some ⟨q, 0, none⟩)]] W
      fun e w' => ∃ v', e = .returned v' ∧ w'.ownsRow base 63 7 v' (dropL s l).length (mv (dropL s l)) ∧ v'.ownBlock = v.ownBlock ∧ Fr W.heap.size v.ownBlock W w' := by
  have hlen := h.len
  rcases h.own.2 with ⟨rfl, h0⟩ | ⟨g, cap, cur, e0, hg, hh, h1, h2, h3⟩
  · have hl : l = [] := List.eq_nil_of_length_eq_zero h0
    subst hl
    have HI := Lib.hid (cidx_any hq none 0 0 [] rfl (by omega) Rd.nil)
    have e1 : fstI (delP s) [] = -1 := rfl
    rw [e1] at HI
    clear h hq hqv e1 hlen
    go_enter Try.func35, Try.ntmps35
    go_wp2_with fail
    refine HI.out.mono ?_
    rintro e w1 ⟨rfl, hb⟩
    clear HI
    go_wp2_with fail
    go_ret
    exact ⟨_, rfl, ⟨rfl, .inl ⟨rfl, rfl⟩⟩, rfl, Fr.of_below hb⟩
  · subst e0
    refine (cdelf_any hq g l.length cap l rfl (by omega) h.own (fun e => hqv (by rw [e]; rfl)) (fun e => h.ne (by rw [e]; rfl))).mono ?_
    rintro e w' ⟨k, rfl, rfl, own, ho⟩
    exact ⟨_, rfl, own, rfl, Fr.of_only ho⟩
/-- Raise's boxes. -/
structure RaB (W : World) (q b : Nat) (a : Stp) : Prop where
  lt : q + 1 < W.heap.size
  p : W.cell? ⟨q, 0, none⟩ = some (.pointer (some ⟨b, 0, none⟩))
  a0 : W.cell? ⟨q + 1, 0, none⟩ = some (.int .i64 a.wall)
  a1 : W.cell? ⟨q + 1, 1, none⟩ = some (.int .i32 a.logic)
  a2 : W.cell? ⟨q + 1, 2, none⟩ = some (.int .i32 a.tag)
theorem RaB.keep {W W' : World} {q b : Nat} {a : Stp} (h : RaB W q b a) (hs : W.heap.size ≤ W'.heap.size) (hc : ∀ p : Addr, q ≤ p.block → p.block ≤ q + 1 → W'.cell? p = W.cell? p) : RaB W' q b a :=
  ⟨Nat.lt_of_lt_of_le h.lt hs, (hc ⟨q, 0, none⟩ (Nat.le_refl _) (Nat.le_succ _)).trans h.p, (hc ⟨q + 1, 0, none⟩ (Nat.le_succ _) (Nat.le_refl _)).trans h.a0, (hc ⟨q + 1, 1, none⟩ (Nat.le_succ _) (Nat.le_refl _)).trans h.a1, (hc ⟨q + 1, 2, none⟩ (Nat.le_succ _) (Nat.le_refl _)).trans h.a2⟩
theorem RaB.next {W W' : World} {q b : Nat} {a : Stp} (h : RaB W q b a) (hb : Below W.heap.size W W') : RaB W' q b a := h.keep hb.size (fun p _ h2 => hb.cell (by have := h.lt; omega))
theorem rab_new (W : World) (b : Nat) (a : Stp) : RaB ((W.alloc (.cells #[.pointer (some ⟨b, 0, none⟩)] 27)).alloc (.cells #[.int .i64 a.wall, .int .i32 a.logic, .int .i32 a.tag] 23)) W.heap.size b a := by
  have l1 : W.heap.size < (W.alloc (.cells #[.pointer (some ⟨b, 0, none⟩)] 27)).heap.size := by simp
  have p0 := fun i => World.cell?_alloc_mark W #[.pointer (some ⟨b, 0, none⟩)] 27 (0, 0) i
  have p1 := fun i => World.cell?_alloc_mark (W.alloc (.cells #[.pointer (some ⟨b, 0, none⟩)] 27)) #[.int .i64 a.wall, .int .i32 a.logic, .int .i32 a.tag] 23 (0, 0) i
  rw [World.size_alloc] at p1
  exact ⟨by simp, (World.cell?_alloc_lt _ _ ⟨W.heap.size, 0, none⟩ l1).trans (p0 0), p1 0, p1 1, p1 2⟩
theorem craise_no {W : World} {base b : Nat} {v : Value} {s : Stp} {l : List Mk} (h : CaB 63 W base b v s l) (a : Stp) (hc : chk a ≠ 0) : Calls Try.prog 11 #[.pointer (some ⟨b, 0, none⟩), .agg #[.int .i64 a.wall, .int .i32 a.logic, .int .i32 a.tag]] W fun e w' => e = .returned (.int .i64 (chk a)) ∧ Below W.heap.size W w' := by
  have HN := Lib.hid (fun X (k : Below W.heap.size W X) => cnone_any (h.next k))
  have HK := Lib.hid (fun X => hcheck_any a X)
  generalize chk a = E at *
  have e1 : (E == 0) = false := by simpa using hc
  clear h
  go_enter Try.func11, Try.ntmps11
  go_wp2_with fail
  refine (HN.out _ (by go_grown)).mono ?_
  rintro e w' ⟨rfl, rfl⟩
  have BX := rab_new W b a
  have B2 : Below W.heap.size W ((W.alloc (.cells #[.pointer (some ⟨b, 0, none⟩)] 27)).alloc (.cells #[.int .i64 a.wall, .int .i32 a.logic, .int .i32 a.tag] 23)) := by go_grown
  generalize hw2 : ((W.alloc (.cells #[.pointer (some ⟨b, 0, none⟩)] 27)).alloc (.cells #[.int .i64 a.wall, .int .i32 a.logic, .int .i32 a.tag] 23)) = w2 at *
  clear hw2 HN
  obtain ⟨b0, b1, b2, b3, b4⟩ := BX
  have BX := Lib.hid (⟨b0, b1, b2, b3, b4⟩ : RaB w2 W.heap.size b a); have B2 := Lib.hid B2
  go_wp2_with fail
  refine (HK.out w2).mono ?_
  rintro e w1 ⟨rfl, hb⟩
  have BX1 := Lib.hid (BX.out.next hb)
  have B1 : Hid (Below W.heap.size W w1) := Lib.hid (B2.out.trans (hb.mono B2.out.size))
  clear hb BX B2 b0 b1 b2 b3 b4 HK
  go_wp2_with fail
  go_ret
  exact ⟨rfl, B1.out⟩
set_option maxHeartbeats 1600000 in
theorem craise_ok {W : World} {base b : Nat} {v : Value} {s : Stp} {l : List Mk} (h : CaB 63 W base b v s l) (a : Stp) (hc : chk a = 0) : Calls Try.prog 11 #[.pointer (some ⟨b, 0, none⟩), .agg #[.int .i64 a.wall, .int .i32 a.logic, .int .i32 a.tag]] W fun e w' => e = .returned (.int .i64 0) ∧ RdP 63 base b v.ownBlock (maxS s a) (dropL (maxS s a) l) W w' := by
  have HN := Lib.hid (fun X (k : Below W.heap.size W X) => cnone_any (h.next k))
  have HK := Lib.hid (fun X => hcheck_any a X)
  have HM := Lib.hid (fun X => hmax_any s a X)
  rw [hc] at HK
  have hvq : v.ownBlock ≠ some W.heap.size := fun e => by have := (h.own.lt _ e).2; omega
  generalize maxS s a = s2 at *
  go_enter Try.func11, Try.ntmps11
  go_wp2_with fail
  refine (HN.out _ (by go_grown)).mono ?_
  rintro e w' ⟨rfl, rfl⟩
  have BX := rab_new W b a
  have B2 : Below W.heap.size W ((W.alloc (.cells #[.pointer (some ⟨b, 0, none⟩)] 27)).alloc (.cells #[.int .i64 a.wall, .int .i32 a.logic, .int .i32 a.tag] 23)) := by go_grown
  generalize hw2 : ((W.alloc (.cells #[.pointer (some ⟨b, 0, none⟩)] 27)).alloc (.cells #[.int .i64 a.wall, .int .i32 a.logic, .int .i32 a.tag] 23)) = w2 at *
  clear hw2 HN
  obtain ⟨b0, b1, b2, b3, b4⟩ := BX
  have BX := Lib.hid (⟨b0, b1, b2, b3, b4⟩ : RaB w2 W.heap.size b a); have B2 := Lib.hid B2
  go_wp2_with fail
  refine (HK.out w2).mono ?_
  rintro e w1 ⟨rfl, hb⟩
  have BX1 := Lib.hid (BX.out.next hb)
  have B1 : Hid (Below W.heap.size W w1) := Lib.hid (B2.out.trans (hb.mono B2.out.size))
  clear hb BX B2 b0 b1 b2 b3 b4 HK
  have H1 := Lib.hid (h.next B1.out)
  have hbW : b < W.heap.size := h.lt
  have hvl : ∀ g, v.ownBlock = some g → g < W.heap.size := fun g e => (h.own.lt g e).2
  obtain ⟨b0, b1, b2, b3, b4⟩ := BX1.out
  obtain ⟨d1, d2, d3⟩ := (⟨H1.out.c1, H1.out.c2, H1.out.c3⟩ : _ ∧ _ ∧ _)
  have dl := H1.out.lt
  have y0 : W.heap.size < w1.heap.size := by omega
  go_upto_region 6 with (fail)
  refine wp_qtail 7 (by kernel_rfl) (by kernel_rfl) ?_
  intro hcg
  simp only [List.take_succ_cons, List.take_zero, List.drop_succ_cons, List.drop_zero]
  repeat (first | go_big_quiet_step ((with_reducible (first | exact Calls.reg (HM.out _)))) | quiet_step ((with_reducible (first | exact Calls.reg (HM.out _)))))
  refine wpQuiet_nil ?_
  intro w3 hbw3 hcw3 hfw3
  clear hcg
  have H3 := Lib.hid (H1.out.next hbw3)
  have BX3 := Lib.hid (BX1.out.next hbw3)
  have F3 : Hid (Fr b v.ownBlock W w3) := Lib.hid (Fr.of_below (B1.out.trans (hbw3.mono B1.out.size)))
  clear b0 b1 b2 b3 b4 d1 d2 d3 hbw3 hcw3 hfw3 H1 BX1 HM B1 dl y0
  obtain ⟨d1, d2, d3⟩ := (⟨H3.out.c1, H3.out.c2, H3.out.c3⟩ : _ ∧ _ ∧ _)
  have df := H3.out.fz
  go_upto_region 7 with (fail)
  have H4 := Lib.hid (H3.out.setL s2)
  have BX4 : Hid (RaB (setL w3 b s2) W.heap.size b a) := Lib.hid (BX3.out.keep (by unfold setL; simp [World.setCell]) (fun p hp _ => setL_far _ _ _ _ (by omega)))
  have F4 := Lib.hid (setL_fr F3.out s2)
  unfold setL at H4 BX4 F4
  generalize hw4 : ((w3.setCell ⟨b, 1, none⟩ (.int .i64 s2.wall)).setCell ⟨b, 2, none⟩ (.int .i32 s2.logic)).setCell ⟨b, 3, none⟩ (.int .i32 s2.tag) = w4 at *
  clear hw4 d1 d2 d3 df H3 BX3 F3
  refine wp_heldcut (S := fun X => X.cell? ⟨W.heap.size, 0, none⟩ = some (.pointer (some ⟨b, 0, none⟩)) ∧ X.cell? ⟨b, 4, none⟩ = some v) 7 (by kernel_rfl) (by kernel_rfl) ⟨BX4.out.p, H4.out.c4⟩ (fun hHeld => ?_)
  simp only [List.take_succ_cons, List.take_zero]
  refine takeL (i := 0) (v := ?_) rfl (by kernel_rfl) (by kernel_rfl) (by kernel_rfl) (fun _ _ _ h => h) ⟨by rfl, ?_⟩ (by assumption) ?_
  rotate_left
  · intro W9 hSw
    (try dsimp only at hSw)
    obtain ⟨s0, s1⟩ := hSw
    go_simp
    try with_reducible rfl
  (try simp only [Act.put, List.setIfInBounds_toArray, List.set_cons_zero, List.set_cons_succ])
  refine takeL (i := 1) (v := ?_) rfl (by kernel_rfl) (by kernel_rfl) (by kernel_rfl) (fun _ _ _ h => h) ⟨by rfl, ?_⟩ (by assumption) ?_
  rotate_left
  · intro W9 hSw
    (try dsimp only at hSw)
    obtain ⟨s0, s1⟩ := hSw
    go_simp
    try with_reducible rfl
  (try simp only [Act.put, List.setIfInBounds_toArray, List.set_cons_zero, List.set_cons_succ])
  refine takeL (i := 2) (v := ?_) rfl (by kernel_rfl) (by kernel_rfl) (by kernel_rfl) (fun _ _ _ h => h) ⟨by rfl, ?_⟩ (by assumption) ?_
  rotate_left
  · intro W9 hSw
    (try dsimp only at hSw)
    go_simp
    try with_reducible rfl
  (try simp only [Act.put, List.setIfInBounds_toArray, List.set_cons_zero, List.set_cons_succ])
  refine takeL (i := 3) (v := ?_) rfl (by kernel_rfl) (by kernel_rfl) (by kernel_rfl) (fun _ _ _ h => h) ⟨by rfl, ?_⟩ (by assumption) ?_
  rotate_left
  · intro W9 hSw
    (try dsimp only at hSw)
    go_simp
    try with_reducible rfl
  (try simp only [Act.put, List.setIfInBounds_toArray, List.set_cons_zero, List.set_cons_succ])
  refine takeL (i := 4) (v := ?_) rfl (by kernel_rfl) (by kernel_rfl) (by kernel_rfl) (fun _ _ _ h => h) ⟨by rfl, ?_⟩ (by assumption) ?_
  rotate_left
  · intro W9 hSw
    (try dsimp only at hSw)
    obtain ⟨s0, s1⟩ := hSw
    go_simp
    try with_reducible rfl
  (try simp only [Act.put, List.setIfInBounds_toArray, List.set_cons_zero, List.set_cons_succ])
  refine takeL (i := 5) (v := ?_) rfl (by kernel_rfl) (by kernel_rfl) (by kernel_rfl) (fun _ _ _ h => h) ⟨by rfl, ?_⟩ (by assumption) ?_
  rotate_left
  · intro W9 hSw
    (try dsimp only at hSw)
    go_simp
    try with_reducible rfl
  (try simp only [Act.put, List.setIfInBounds_toArray, List.set_cons_zero, List.set_cons_succ])
  have hd : Below w4.heap.size w4 w4.drew := Below.drew (Below.refl _ _)
  have H5 := H4.out.next hd
  have Q5 : ClS w4.drew W.heap.size b s2 := ⟨by have h1 := BX4.out.lt; have h2 := hd.size; omega, H5.lt, (BX4.out.next hd).p, H5.c1, H5.c2, H5.c3⟩
  have F5 := F4.out.below hd
  clear hHeld hd
  generalize w4.drew = X at *
  refine wpAnyH_ready (rs := [6]) (by kernel_rfl) (by simp) ?_
  refine consL rfl (by rfl) (fun K hK => ?_) ?_
  · go_simp
    go_at_call 35
    refine (cdelv_any H5 Q5 hvq).mono ?_
    rintro e X2 ⟨v2, rfl, own2, hv2, hf2⟩
    have hp2 := (hf2.cell (p := ⟨W.heap.size, 0, none⟩) Q5.lq (by have := Q5.lq; show W.heap.size ≠ _; omega) hvq).trans Q5.p
    have hbc := fun o => hf2.cell (p := ⟨b, o, none⟩) H5.lt (by have := H5.lt; show b ≠ _; omega) H5.ne
    have hbz := fun o => hf2.frozen (p := ⟨b, o, none⟩) H5.lt (by have := H5.lt; show b ≠ _; omega) H5.ne
    have c4 := (hbc 4).trans H5.c4
    have fz := (hbz 4).trans (H5.fz 4)
    refine hK.out _ _ ⟨hp2, c4⟩ (fun hX' => ?_)
    have HC := Lib.hid (H5.setV hf2.size hbc hbz own2 (by rw [hv2]; exact H5.ne) (Nat.le_trans (drop_len _ _) H5.len))
    have HF := Lib.hid ((F5.trans hf2.any (.inl rfl)).setCell (p := ⟨b, 4, none⟩) (.inl rfl) v2)
    have bl : b < X2.heap.size := Nat.lt_of_lt_of_le H5.lt hf2.size
    clear hK K hbc hbz H5 Q5 F5 hf2 own2 hp2 hX'
    refine wpAnyH_done (by kernel_rfl) ?_ _
    simp only [tailPost, List.drop_succ_cons, List.drop_zero]
    obtain ⟨A2, c2, rfl, -, -, -⟩ := HC.out.row
    go_wp2_with fail
    go_ret
    exact ⟨rfl, HF.out, _, HC.out, .inl hv2⟩
  exact AllReadyH.nil
end Go.Proofs.Ytnhobjjgpnbnmaa
