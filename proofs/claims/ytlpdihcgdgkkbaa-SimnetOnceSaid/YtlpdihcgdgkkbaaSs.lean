/- Walks: the document's net: Twice, Deliver, Drop. -/
import Derived.Test.YtlpdihcgdgkkbaaSr
import Derived.Test.YtlpdihcgdgkkbaaCut2
namespace Go.Proofs.Ytlpdihcgdgkkbaa
open Go.RowKit Go.St
set_option linter.unusedVariables false
set_option linter.unusedSimpArgs false
set_option maxRecDepth 100000

theorem RowI.keep {W W' : World} {b g i n c : Nat} {x : Ltr} (h : RowI W b g i n c x) (h1 : W'.heap[b]? = W.heap[b]?) (h2 : W'.heap[g]? = W.heap[g]?) : RowI W' b g i n c x :=
  have hb := fun o => World.cell?_of_block (w := W) (w' := W') (a := ⟨b, o, none⟩) h1
  have hg := fun o => World.cell?_of_block (w := W) (w' := W') (a := ⟨g, o, none⟩) h2
  ⟨(hb _).trans h.c2, (hg _).trans h.d0, (hg _).trans h.d1, (hg _).trans h.d2, (hg _).trans h.d3⟩
set_option maxHeartbeats 1600000 in
theorem rtwice_any {W : World} {base b : Nat} {v : Value} {F : Nat → Prop} {s : Nt} (h : NetR W base b v F s) (hw : s.WF) (hb : s.last ≤ 4611686018427387904) (num : Int) :
    Calls Try.prog 81 #[.pointer (some ⟨b, 0, none⟩), .int .i64 num] W fun e w' => e = .returned (.tuple #[.int .i64 (againV s num), .int .i64 (againE s num)]) ∧ OutR base b v.ownBlock F (againS s num) W w' := by
  have HR := Lib.hid h
  have HN := Lib.hid (rnone_net h)
  have HP := Lib.hid (rplace_any h num)
  cases hh : hitB s num
  · have e1 : placeI s num = -1 := by unfold placeI; rw [hh]; rfl
    have e2 : againE s num = 4 := by unfold againE; rw [hh]; rfl
    unfold againV againS
    rw [e1] at HP
    rw [e2]
    have HO := Lib.hid (HR.out.same (Below.refl _ _))
    clear h hw e1 e2
    go_enter Try.func81, Try.ntmps81
    go_wp2_with fail
    refine HN.out.mono ?_
    rintro e w' ⟨rfl, rfl⟩
    go_wp2_with fail
    refine HP.out.mono ?_
    rintro e w' ⟨rfl, rfl⟩
    go_wp2
    go_ret2
    exact ⟨rfl, HO.out⟩
  · have e1 : placeI s num = hitI s num := by unfold placeI; rw [hh]; rfl
    rw [e1] at HP
    have e2 := again_send hw hh
    have hlt := hit_lt hh
    obtain ⟨l, el, hs⟩ := h
    obtain ⟨x, hx, hk⟩ := hit_at hh el
    obtain ⟨g, c, hv, hg, hlc, hr⟩ := hs.rowI rfl hx
    have hl : l.length = s.ks.length := by rw [← el, List.length_map]
    have hX := Lib.hid ((hs.byt x (List.mem_of_getElem? hx)).mono (fun k hF => (hs.Fp k hF).2.2.1))
    have HI := Lib.hid hr
    have hbl := hs.lt
    have hhi : hitK s num = x.k := hk.symm
    unfold againV againS
    rw [hhi] at e2 ⊢
    have HQ := Lib.hid (fun W' (k : Below W.heap.size W W') => rsend_any (HR.out.next k) hw hb x.k.fr x.k.to x.A x.n x.c x.k.bs (by
      have := hX.out.keep (W' := W') k.size (fun j _ hj => k.block j hj)
      exact ⟨this.len, this.bnd, this.rd⟩))
    unfold sendV sendS at HQ
    rw [e2] at HQ
    have i1 : (hitI s num : Int) < (l.length : Int) := by omega
    have i3 : hitI s num < l.length := by omega
    have i0 : (0 : Int) ≤ (hitI s num : Int) := by omega
    have i2 : ¬ ((hitI s num : Int) < 0) := by omega
    generalize hitI s num = i at *
    generalize againE s num = E at *
    generalize (if E = 0 then s.last + 1 else 0) = V at *
    generalize (if E = 0 then putS s x.k.fr x.k.to x.k.bs else s) = S' at *
    clear hs hx hk e1 e2 hr hh hhi hX hlt hw el hv hl
    go_enter Try.func81, Try.ntmps81
    go_wp2_with fail
    refine HN.out.mono ?_
    rintro e w' ⟨rfl, rfl⟩
    go_wp2_with fail
    refine HP.out.mono ?_
    rintro e w' ⟨rfl, rfl⟩
    go_upto_region 6 with (fail)
    refine wp_heldcut2 (S := fun X => RowI X b g i l.length c x) 25 (by kernel_rfl) (by kernel_rfl) (HI.out.keep rfl rfl) (fun hHeld => ?_)
    simp only [List.take_succ_cons, List.take_zero]
    refine takeL (i := 0) (v := ?_) rfl (by kernel_rfl) (by kernel_rfl) (by kernel_rfl) (fun _ _ _ h => h) ⟨by rfl, ?_⟩ (by first | assumption | trivial) ?_
    rotate_left
    · intro W9 hSw
      (try dsimp only at hSw)
      obtain ⟨z0, z1, z2, z3, z4⟩ := hSw
      go_simp
      try with_reducible rfl
    (try simp only [Act.put, List.setIfInBounds_toArray, List.set_cons_zero, List.set_cons_succ])
    refine takeL (i := 1) (v := ?_) rfl (by kernel_rfl) (by kernel_rfl) (by kernel_rfl) (fun _ _ _ h => h) ⟨by rfl, ?_⟩ (by first | assumption | trivial) ?_
    rotate_left
    · intro W9 hSw
      (try dsimp only at hSw)
      obtain ⟨z0, z1, z2, z3, z4⟩ := hSw
      go_simp
      try with_reducible rfl
    (try simp only [Act.put, List.setIfInBounds_toArray, List.set_cons_zero, List.set_cons_succ])
    refine takeL (i := 2) (v := ?_) rfl (by kernel_rfl) (by kernel_rfl) (by kernel_rfl) (fun _ _ _ h => h) ⟨by rfl, ?_⟩ (by first | assumption | trivial) ?_
    rotate_left
    · intro W9 hSw
      (try dsimp only at hSw)
      obtain ⟨z0, z1, z2, z3, z4⟩ := hSw
      go_simp
      try with_reducible rfl
    (try simp only [Act.put, List.setIfInBounds_toArray, List.set_cons_zero, List.set_cons_succ])
    refine takeL (i := 3) (v := ?_) rfl (by kernel_rfl) (by kernel_rfl) (by kernel_rfl) (fun _ _ _ h => h) ⟨by rfl, ?_⟩ (by first | assumption | trivial) ?_
    rotate_left
    · intro W9 hSw
      (try dsimp only at hSw)
      obtain ⟨z0, z1, z2, z3, z4⟩ := hSw
      go_simp
      try with_reducible rfl
    (try simp only [Act.put, List.setIfInBounds_toArray, List.set_cons_zero, List.set_cons_succ])
    refine takeL (i := 4) (v := ?_) rfl (by kernel_rfl) (by kernel_rfl) (by kernel_rfl) (fun _ _ _ h => h) ⟨by rfl, ?_⟩ (by first | assumption | trivial) ?_
    rotate_left
    · intro W9 hSw
      (try dsimp only at hSw)
      obtain ⟨z0, z1, z2, z3, z4⟩ := hSw
      go_simp
      try with_reducible rfl
    (try simp only [Act.put, List.setIfInBounds_toArray, List.set_cons_zero, List.set_cons_succ])
    refine takeL (i := 5) (v := ?_) rfl (by kernel_rfl) (by kernel_rfl) (by kernel_rfl) (fun _ _ _ h => h) ⟨by rfl, ?_⟩ (by first | assumption | trivial) ?_
    rotate_left
    · intro W9 hSw
      (try dsimp only at hSw)
      obtain ⟨z0, z1, z2, z3, z4⟩ := hSw
      go_simp
      try with_reducible rfl
    (try simp only [Act.put, List.setIfInBounds_toArray, List.set_cons_zero, List.set_cons_succ])
    refine takeL (i := 6) (v := ?_) rfl (by kernel_rfl) (by kernel_rfl) (by kernel_rfl) (fun _ _ _ h => h) ⟨by rfl, ?_⟩ (by first | assumption | trivial) ?_
    rotate_left
    · intro W9 hSw
      (try dsimp only at hSw)
      obtain ⟨z0, z1, z2, z3, z4⟩ := hSw
      go_simp
      try with_reducible rfl
    (try simp only [Act.put, List.setIfInBounds_toArray, List.set_cons_zero, List.set_cons_succ])
    refine takeL (i := 7) (v := ?_) rfl (by kernel_rfl) (by kernel_rfl) (by kernel_rfl) (fun _ _ _ h => h) ⟨by rfl, ?_⟩ (by first | assumption | trivial) ?_
    rotate_left
    · intro W9 hSw
      (try dsimp only at hSw)
      obtain ⟨z0, z1, z2, z3, z4⟩ := hSw
      go_simp
      try with_reducible rfl
    (try simp only [Act.put, List.setIfInBounds_toArray, List.set_cons_zero, List.set_cons_succ])
    refine takeL (i := 8) (v := ?_) rfl (by kernel_rfl) (by kernel_rfl) (by kernel_rfl) (fun _ _ _ h => h) ⟨by rfl, ?_⟩ (by first | assumption | trivial) ?_
    rotate_left
    · intro W9 hSw
      (try dsimp only at hSw)
      obtain ⟨z0, z1, z2, z3, z4⟩ := hSw
      go_simp
      try with_reducible rfl
    (try simp only [Act.put, List.setIfInBounds_toArray, List.set_cons_zero, List.set_cons_succ])
    refine takeL (i := 9) (v := ?_) rfl (by kernel_rfl) (by kernel_rfl) (by kernel_rfl) (fun _ _ _ h => h) ⟨by rfl, ?_⟩ (by first | assumption | trivial) ?_
    rotate_left
    · intro W9 hSw
      (try dsimp only at hSw)
      obtain ⟨z0, z1, z2, z3, z4⟩ := hSw
      go_simp
      try with_reducible rfl
    (try simp only [Act.put, List.setIfInBounds_toArray, List.set_cons_zero, List.set_cons_succ])
    refine takeL (i := 10) (v := ?_) rfl (by kernel_rfl) (by kernel_rfl) (by kernel_rfl) (fun _ _ _ h => h) ⟨by rfl, ?_⟩ (by first | assumption | trivial) ?_
    rotate_left
    · intro W9 hSw
      (try dsimp only at hSw)
      obtain ⟨z0, z1, z2, z3, z4⟩ := hSw
      go_simp
      try with_reducible rfl
    (try simp only [Act.put, List.setIfInBounds_toArray, List.set_cons_zero, List.set_cons_succ])
    refine takeL (i := 11) (v := ?_) rfl (by kernel_rfl) (by kernel_rfl) (by kernel_rfl) (fun _ _ _ h => h) ⟨by rfl, ?_⟩ (by first | assumption | trivial) ?_
    rotate_left
    · intro W9 hSw
      (try dsimp only at hSw)
      obtain ⟨z0, z1, z2, z3, z4⟩ := hSw
      go_simp
      try with_reducible rfl
    (try simp only [Act.put, List.setIfInBounds_toArray, List.set_cons_zero, List.set_cons_succ])
    refine takeL (i := 12) (v := ?_) rfl (by kernel_rfl) (by kernel_rfl) (by kernel_rfl) (fun _ _ _ h => h) ⟨by rfl, ?_⟩ (by first | assumption | trivial) ?_
    rotate_left
    · intro W9 hSw
      (try dsimp only at hSw)
      obtain ⟨z0, z1, z2, z3, z4⟩ := hSw
      go_simp
      try with_reducible rfl
    (try simp only [Act.put, List.setIfInBounds_toArray, List.set_cons_zero, List.set_cons_succ])
    refine takeL (i := 13) (v := ?_) rfl (by kernel_rfl) (by kernel_rfl) (by kernel_rfl) (fun _ _ _ h => h) ⟨by rfl, ?_⟩ (by first | assumption | trivial) ?_
    rotate_left
    · intro W9 hSw
      (try dsimp only at hSw)
      obtain ⟨z0, z1, z2, z3, z4⟩ := hSw
      go_simp
      try with_reducible rfl
    (try simp only [Act.put, List.setIfInBounds_toArray, List.set_cons_zero, List.set_cons_succ])
    refine takeL (i := 14) (v := ?_) rfl (by kernel_rfl) (by kernel_rfl) (by kernel_rfl) (fun _ _ _ h => h) ⟨by rfl, ?_⟩ (by first | assumption | trivial) ?_
    rotate_left
    · intro W9 hSw
      (try dsimp only at hSw)
      obtain ⟨z0, z1, z2, z3, z4⟩ := hSw
      go_simp
      try with_reducible rfl
    (try simp only [Act.put, List.setIfInBounds_toArray, List.set_cons_zero, List.set_cons_succ])
    refine takeL (i := 15) (v := ?_) rfl (by kernel_rfl) (by kernel_rfl) (by kernel_rfl) (fun _ _ _ h => h) ⟨by rfl, ?_⟩ (by first | assumption | trivial) ?_
    rotate_left
    · intro W9 hSw
      (try dsimp only at hSw)
      obtain ⟨z0, z1, z2, z3, z4⟩ := hSw
      go_simp
      try with_reducible rfl
    (try simp only [Act.put, List.setIfInBounds_toArray, List.set_cons_zero, List.set_cons_succ])
    refine takeL (i := 16) (v := ?_) rfl (by kernel_rfl) (by kernel_rfl) (by kernel_rfl) (fun _ _ _ h => h) ⟨by rfl, ?_⟩ (by first | assumption | trivial) ?_
    rotate_left
    · intro W9 hSw
      (try dsimp only at hSw)
      obtain ⟨z0, z1, z2, z3, z4⟩ := hSw
      go_simp
      try with_reducible rfl
    (try simp only [Act.put, List.setIfInBounds_toArray, List.set_cons_zero, List.set_cons_succ])
    refine takeL (i := 17) (v := ?_) rfl (by kernel_rfl) (by kernel_rfl) (by kernel_rfl) (fun _ _ _ h => h) ⟨by rfl, ?_⟩ (by first | assumption | trivial) ?_
    rotate_left
    · intro W9 hSw
      (try dsimp only at hSw)
      obtain ⟨z0, z1, z2, z3, z4⟩ := hSw
      go_simp
      try with_reducible rfl
    (try simp only [Act.put, List.setIfInBounds_toArray, List.set_cons_zero, List.set_cons_succ])
    refine takeL (i := 18) (v := ?_) rfl (by kernel_rfl) (by kernel_rfl) (by kernel_rfl) (fun _ _ _ h => h) ⟨by rfl, ?_⟩ (by first | assumption | trivial) ?_
    rotate_left
    · intro W9 hSw
      (try dsimp only at hSw)
      obtain ⟨z0, z1, z2, z3, z4⟩ := hSw
      go_simp
      try with_reducible rfl
    (try simp only [Act.put, List.setIfInBounds_toArray, List.set_cons_zero, List.set_cons_succ])
    refine takeL (i := 19) (v := ?_) rfl (by kernel_rfl) (by kernel_rfl) (by kernel_rfl) (fun _ _ _ h => h) ⟨by rfl, ?_⟩ (by first | assumption | trivial) ?_
    rotate_left
    · intro W9 hSw
      (try dsimp only at hSw)
      obtain ⟨z0, z1, z2, z3, z4⟩ := hSw
      go_simp
      try with_reducible rfl
    (try simp only [Act.put, List.setIfInBounds_toArray, List.set_cons_zero, List.set_cons_succ])
    refine takeL (i := 20) (v := ?_) rfl (by kernel_rfl) (by kernel_rfl) (by kernel_rfl) (fun _ _ _ h => h) ⟨by rfl, ?_⟩ (by first | assumption | trivial) ?_
    rotate_left
    · intro W9 hSw
      (try dsimp only at hSw)
      obtain ⟨z0, z1, z2, z3, z4⟩ := hSw
      go_simp
      try with_reducible rfl
    (try simp only [Act.put, List.setIfInBounds_toArray, List.set_cons_zero, List.set_cons_succ])
    refine takeL (i := 21) (v := ?_) rfl (by kernel_rfl) (by kernel_rfl) (by kernel_rfl) (fun _ _ _ h => h) ⟨by rfl, ?_⟩ (by first | assumption | trivial) ?_
    rotate_left
    · intro W9 hSw
      (try dsimp only at hSw)
      obtain ⟨z0, z1, z2, z3, z4⟩ := hSw
      go_simp
      try with_reducible rfl
    (try simp only [Act.put, List.setIfInBounds_toArray, List.set_cons_zero, List.set_cons_succ])
    refine takeL (i := 22) (v := ?_) rfl (by kernel_rfl) (by kernel_rfl) (by kernel_rfl) (fun _ _ _ h => h) ⟨by rfl, ?_⟩ (by first | assumption | trivial) ?_
    rotate_left
    · intro W9 hSw
      (try dsimp only at hSw)
      obtain ⟨z0, z1, z2, z3, z4⟩ := hSw
      go_simp
      try with_reducible rfl
    (try simp only [Act.put, List.setIfInBounds_toArray, List.set_cons_zero, List.set_cons_succ])
    refine takeL (i := 23) (v := ?_) rfl (by kernel_rfl) (by kernel_rfl) (by kernel_rfl) (fun _ _ _ h => h) ⟨by rfl, ?_⟩ (by first | assumption | trivial) ?_
    rotate_left
    · intro W9 hSw
      (try dsimp only at hSw)
      obtain ⟨z0, z1, z2, z3, z4⟩ := hSw
      go_simp
      try with_reducible rfl
    (try simp only [Act.put, List.setIfInBounds_toArray, List.set_cons_zero, List.set_cons_succ])
    refine takeL (i := 24) (v := ?_) rfl (by kernel_rfl) (by kernel_rfl) (by kernel_rfl) (fun _ _ _ h => h) ⟨by rfl, ?_⟩ (by first | assumption | trivial) ?_
    rotate_left
    · intro W9 hSw
      (try dsimp only at hSw)
      obtain ⟨z0, z1, z2, z3, z4⟩ := hSw
      go_simp
      try with_reducible rfl
    (try simp only [Act.put, List.setIfInBounds_toArray, List.set_cons_zero, List.set_cons_succ])
    have HB : Hid (Below W.heap.size W W.drew) := Lib.hid (Below.drew (Below.refl _ _))
    generalize W.drew = X at *
    refine wpAnyH_done (by kernel_rfl) ?_ _
    refine tail_held (fun _ => True) 5 (by rfl) ?_
    refine wpAnyH_ready (rs := [25]) (by kernel_rfl) (by simp) ?_
    refine consL rfl (by rfl) (fun K hK => ?_) ?_
    · go_simp
      go_at_call 79
      refine (HQ.out _ HB.out).mono ?_
      rintro e w' ⟨rfl, ho⟩
      have HO := Lib.hid (NetG.pre HB.out ho)
      refine hK.out _ _ trivial (fun _ => ?_)
      clear ho HQ hK K hHeld
      (try simp only [Act.put, List.setIfInBounds_toArray, List.set_cons_zero, List.set_cons_succ])
      refine takeL (i := 26) (v := ?_) rfl (by kernel_rfl) (by kernel_rfl) (by kernel_rfl) (fun _ _ _ h => h) ⟨by rfl, ?_⟩ (by first | assumption | trivial) ?_
      rotate_left
      · intro W9 hSw
        (try dsimp only at hSw)
        go_simp
        try with_reducible rfl
      (try simp only [Act.put, List.setIfInBounds_toArray, List.set_cons_zero, List.set_cons_succ])
      refine takeL (i := 27) (v := ?_) rfl (by kernel_rfl) (by kernel_rfl) (by kernel_rfl) (fun _ _ _ h => h) ⟨by rfl, ?_⟩ (by first | assumption | trivial) ?_
      rotate_left
      · intro W9 hSw
        (try dsimp only at hSw)
        go_simp
        try with_reducible rfl
      (try simp only [Act.put, List.setIfInBounds_toArray, List.set_cons_zero, List.set_cons_succ])
      refine takeL (i := 28) (v := ?_) rfl (by kernel_rfl) (by kernel_rfl) (by kernel_rfl) (fun _ _ _ h => h) ⟨by rfl, ?_⟩ (by first | assumption | trivial) ?_
      rotate_left
      · intro W9 hSw
        (try dsimp only at hSw)
        go_simp
        try with_reducible rfl
      (try simp only [Act.put, List.setIfInBounds_toArray, List.set_cons_zero, List.set_cons_succ])
      refine takeL (i := 29) (v := ?_) rfl (by kernel_rfl) (by kernel_rfl) (by kernel_rfl) (fun _ _ _ h => h) ⟨by rfl, ?_⟩ (by first | assumption | trivial) ?_
      rotate_left
      · intro W9 hSw
        (try dsimp only at hSw)
        go_simp
        try with_reducible rfl
      (try simp only [Act.put, List.setIfInBounds_toArray, List.set_cons_zero, List.set_cons_succ])
      refine wpAnyH_done (by kernel_rfl) ?_ _
      go_wp2
      go_ret2
      exact ⟨rfl, HO.out⟩
    exact AllReadyH.nil
theorem own_sl {w : World} {base n size : Nat} {e : TypeId} {v : Value} {xs : List Value} (h : w.ownsRow base e size v n xs) : ∃ A c, v = .slice A n c ∧ n ≤ c ∧ c ≤ maxLen := by
  rcases h.2 with ⟨hv, h0⟩ | ⟨g, cap, cur, e0, _, _, h1, h2, _⟩
  · exact ⟨none, 0, by rw [hv, h0], by omega, Nat.zero_le _⟩
  · exact ⟨_, cap, e0, h1, h2⟩
/-- The letters' row replaced, in memory. -/
theorem NetS.row2 {W W' : World} {base b n' : Nat} {cs : List Value} {v v' : Value} {F : Nat → Prop} {l l' : List Ltr} (h : NetS W base b cs v F l) (hs : W.heap.size ≤ W'.heap.size) (hb : W'.heap[b]? = W.heap[b]?) (hF : ∀ k, F k → W'.heap[k]? = W.heap[k]?)
    (own : W'.ownsRow base 51 4 v' n' (lv l')) (hn : l'.length = n') (hsub : ∀ x ∈ l', x ∈ l) (hne : v'.ownBlock ≠ some b) (hv : ∀ k, F k → v'.ownBlock ≠ some k) (hlen : l'.length ≤ 2048) :
    NetS (W'.setCell ⟨b, 2, none⟩ v') base b (cs.set 2 v') v' F l' := by
  have hs2 : W.heap.size ≤ (W'.setCell ⟨b, 2, none⟩ v').heap.size := by simpa [World.setCell] using hs
  have hc := fun o => World.cell?_of_block (w := W) (w' := W') (a := ⟨b, o, none⟩) hb
  have hz := fun o => World.frozen?_of_block (w := W) (w' := W') (a := ⟨b, o, none⟩) hb
  refine ⟨Nat.lt_of_lt_of_le h.lt hs2, h.lo, fun o => by simpa using (hz o).trans (h.fz o), ?_, ?_, hne, fun k hk => ?_, fun y hy => ?_, hlen⟩
  · intro i u hu
    by_cases e : 2 = i
    · subst e
      have hi : 2 < cs.length := by have := (List.getElem?_eq_some_iff.1 hu).1; simpa using this
      rw [List.getElem?_set_self hi] at hu
      cases hu
      exact World.cell?_setCell_same _ _ _ ((hc 2).trans (h.cell 2 _ (List.getElem?_eq_getElem hi)))
    · rw [List.getElem?_set_ne e] at hu
      rw [World.cell?_setCell_other _ _ _ _ (fun h => e (congrArg Addr.off h))]
      exact (hc i).trans (h.cell i _ hu)
  · rw [hn]
    exact own.kept (row := some b) ⟨rfl, rfl, rfl, by simp [World.setCell], fun k _ hk => Below.heap_setCell _ _ _ _ (fun e => hk (by rw [e]))⟩ (.inr hne)
  · obtain ⟨h1, h2, h3, h4⟩ := h.Fp k hk
    exact ⟨Nat.lt_of_lt_of_le h1 hs2, h2, h3, hv k hk⟩
  · refine (h.byt y (hsub y hy)).keep hs2 (fun k hk hlt => ?_)
    exact (Below.heap_setCell _ _ _ _ (h.Fp k hk).2.2.1).trans (hF k hk)
set_option maxHeartbeats 1600000 in
theorem rdeliver_any {W : World} {base b : Nat} {v : Value} {F : Nat → Prop} {s : Nt} (h : NetR W base b v F s) (num : Int) :
    Calls Try.prog 80 #[.pointer (some ⟨b, 0, none⟩), .int .i64 num] W fun e w' => ∃ x, e = .returned (.tuple #[ltV x, .int .i64 (hitE s num)]) ∧ x.k = outK s num ∧ LtB w' F x ∧ OutR base b v.ownBlock F (outS s num) W w' := by
  have HR := Lib.hid h
  have HN := Lib.hid (fun W' (k : Below W.heap.size W W') => rnone_net (h.next k))
  have HP := Lib.hid (fun W' (k : Below W.heap.size W W') => rplace_any (h.next k) num)
  cases hh : hitB s num
  · have e0 : placeI s num = -1 := by unfold placeI; rw [hh]; rfl
    have e1 : hitE s num = 4 := by unfold hitE; rw [hh]; rfl
    have e2 : outK s num = nilK := by unfold outK; rw [hh]; rfl
    have e3 : outS s num = s := by unfold outS; rw [hh]; rfl
    rw [e0] at HP
    rw [e1, e2, e3]
    clear h e0 e1 e2 e3
    go_enter Try.func80, Try.ntmps80
    go_wp2_with fail
    refine (HN.out _ (by go_grown)).mono ?_
    rintro e w1 ⟨rfl, rfl⟩
    go_wp2_with fail
    refine (HP.out _ (by go_grown)).mono ?_
    rintro e w1 ⟨rfl, rfl⟩
    go_wp2
    refine bodyPost_ret (v := .tuple #[ltV nilL, .int .i64 4]) (by simp [results, Try.results80, go_sem, ltV, nilL, nilK, *]) rfl ⟨nilL, rfl, rfl, LtB.nil _ _, HR.out.same (by go_grown)⟩
  · have e0 : placeI s num = hitI s num := by unfold placeI; rw [hh]; rfl
    have e1 : hitE s num = 0 := by unfold hitE; rw [hh]; rfl
    have e2 : outK s num = hitK s num := by unfold outK; rw [hh]; rfl
    have e3 : outS s num = ⟨s.nodes, s.last, s.ks.eraseIdx (hitI s num)⟩ := by unfold outS; rw [hh]; rfl
    rw [e0] at HP
    rw [e1, e2, e3]
    have hlt := hit_lt hh
    obtain ⟨l, el, hs⟩ := h
    obtain ⟨x, hx, hk⟩ := hit_at hh el
    obtain ⟨g, c, hv, hg, hlc, hr⟩ := hs.rowI rfl hx
    have hl : l.length = s.ks.length := by rw [← el, List.length_map]
    have HI := Lib.hid hr
    have hbl := hs.lt
    rw [← hk]
    generalize hitI s num = i at *
    have him : i < l.length := by omega
    have hel : (l.eraseIdx i).length = l.length - 1 := by rw [List.length_eraseIdx, if_pos him]
    have hln := hs.len
    have hRD : Rd W W.heap.size (some ⟨g, 0, none⟩) (lv l) := by subst hv; exact hs.rd
    have HRD := Lib.hid hRD
    have hmap : (l.eraseIdx i).map Ltr.k = s.ks.eraseIdx i := by rw [← el]; simp [List.eraseIdx_eq_take_drop_succ, List.map_take, List.map_drop]
    have HM := Lib.hid hmap
    have HS := Lib.hid hs
    have HX := Lib.hid (hs.byt x (List.mem_of_getElem? hx))
    have i1 : (i : Int) < (l.length : Int) := by omega
    have i0 : (0 : Int) ≤ (i : Int) := by omega
    have i2 : ¬ ((i : Int) < 0) := by omega
    have i3 : (i : Int) ≤ (l.length : Int) := by omega
    have i4 : (i : Int) + 1 ≤ (l.length : Int) := by omega
    have i5 : i ≤ c := by omega
    have i6 : i + 1 ≤ c := by omega
    have i7 : i + 1 ≤ l.length := by omega
    have i8 : i ≤ 2048 := by omega
    have hpF := Lib.hid (fun k (hk : F k) => hs.Fp k hk)
    obtain ⟨ad, hif, hnew⟩ : ∃ ad : Addr, (if c = i + 1 then some (⟨g, 0, none⟩ : Addr) else some ⟨g, (i + 1) * 4, none⟩) = some ad ∧ Rd W W.heap.size (some ad) ((lv l).drop ((i + 1) * 4)) := by
      by_cases hc : c = i + 1
      · refine ⟨⟨g, 0, none⟩, by rw [if_pos hc], ?_⟩
        rw [List.drop_of_length_le (by rw [lv_length]; omega)]
        exact Rd.nil
      · refine ⟨⟨g, (i + 1) * 4, none⟩, by rw [if_neg hc], ?_⟩
        intro hne
        obtain ⟨b', off, e, hb', hc'⟩ := hRD (by rintro e; rw [e] at hne; simp at hne)
        injection e with e
        injection e with e1 e2
        subst e1 e2
        refine ⟨g, (i + 1) * 4, rfl, hb', fun j u hu => ?_⟩
        rw [List.getElem?_drop] at hu
        have := hc' _ u hu
        rwa [Nat.zero_add] at this
    have HW := Lib.hid hnew
    clear hh hk e0 e1 e2 e3 hlt hs hx el hr hmap hl hRD hnew hv
    unfold OutR
    dsimp only
    have hbs : base ≤ W.heap.size := Nat.le_trans HS.out.lo (Nat.le_of_lt hbl)
    go_enter Try.func80, Try.ntmps80
    go_wp2_with fail
    refine (HN.out _ (by go_grown)).mono ?_
    rintro e w1 ⟨rfl, rfl⟩
    go_wp2_with fail
    refine (HP.out _ (by go_grown)).mono ?_
    rintro e w1 ⟨rfl, rfl⟩
    obtain ⟨c2, d0, d1, d2, d3⟩ := HI.out
    go_upto_region 8 with (fail)
    have BA : Hid (Below W.heap.size W ((W.alloc (.cells #[.int .i64 0, .int .i64 0, .int .i64 0, .slice none 0 0] 51)).alloc (.cells #[.int .i64 x.k.num, .int .i64 x.k.fr, .int .i64 x.k.to, .slice x.A x.n x.c] 51))) := Lib.hid (((Below.refl _ _).alloc (Nat.le_refl _) _).alloc (by simp) _)
    have qA := fun o => World.cell?_alloc_mark (W.alloc (.cells #[.int .i64 0, .int .i64 0, .int .i64 0, .slice none 0 0] 51)) #[.int .i64 x.k.num, .int .i64 x.k.fr, .int .i64 x.k.to, .slice x.A x.n x.c] 51 (0, 0) o
    rw [show (W.alloc (.cells #[.int .i64 0, .int .i64 0, .int .i64 0, .slice none 0 0] 51)).heap.size = W.heap.size + 1 by simp] at qA
    have pA := fun o => (World.cell?_alloc_lt (W.alloc (.cells #[.int .i64 0, .int .i64 0, .int .i64 0, .slice none 0 0] 51)) (.cells #[.int .i64 x.k.num, .int .i64 x.k.fr, .int .i64 x.k.to, .slice x.A x.n x.c] 51) ⟨W.heap.size, o, none⟩ (by simp)).trans (World.cell?_alloc_mark W #[.int .i64 0, .int .i64 0, .int .i64 0, .slice none 0 0] 51 (0, 0) o)
    have fA := fun o => (frozen?_alloc_cells (W.alloc (.cells #[.int .i64 0, .int .i64 0, .int .i64 0, .slice none 0 0] 51)) #[.int .i64 x.k.num, .int .i64 x.k.fr, .int .i64 x.k.to, .slice x.A x.n x.c] 51 ⟨W.heap.size, o, none⟩).trans (World.frozen?_alloc_at #[.int .i64 0, .int .i64 0, .int .i64 0, .slice none 0 0] 51 W.heap.size o rfl)
    have zA : ((W.alloc (.cells #[.int .i64 0, .int .i64 0, .int .i64 0, .slice none 0 0] 51)).alloc (.cells #[.int .i64 x.k.num, .int .i64 x.k.fr, .int .i64 x.k.to, .slice x.A x.n x.c] 51)).heap.size = W.heap.size + 1 + 1 := by simp
    have cA := (bcell BA.out).1 b 2 hbl
    rw [c2] at cA
    clear c2 d0 d1 d2 d3
    generalize ((W.alloc (.cells #[.int .i64 0, .int .i64 0, .int .i64 0, .slice none 0 0] 51)).alloc (.cells #[.int .i64 x.k.num, .int .i64 x.k.fr, .int .i64 x.k.to, .slice x.A x.n x.c] 51)) = wA at *
    have RA := HRD.out.below BA.out
    have WA := HW.out.below BA.out
    generalize hp : W.heap.size = p at *
    go_upto_region 9 with (at_builtin; refine wpList_app styL (.tmp 25) (.tmp 31) rfl rfl base (World.ownsRow_nil wA base 51 4) rfl i c (RA.take (i * 4)) rfl (by rw [List.length_take, lv_length]; omega) (fun u hu => lv_one l u (List.mem_of_mem_take hu)) (by unfold maxLen; omega) (by omega) (by omega) ?_; intro v1 w1 own1 gr1 nil1 at1)
    have gB : Below wA.heap.size wA w1 := (Below.refl _ _).grown gr1 (Nat.le_refl _) (by simp [Value.ownBlock])
    have B1 : Hid (Below p W w1) := Lib.hid (BA.out.trans (gB.mono (by omega)))
    have q1 := fun o => (gB.cell (p := ⟨p + 1, o, none⟩) (by simp; omega)).trans (qA o)
    have p1 := fun o => (gB.cell (p := ⟨p, o, none⟩) (by simp; omega)).trans (pA o)
    have f1 := fun o => (gB.frozen (p := ⟨p, o, none⟩) (by simp; omega)).trans (fA o)
    have c1 := (gB.cell (p := ⟨b, 2, none⟩) (by simp; omega)).trans cA
    have z1 : p + 1 + 1 ≤ w1.heap.size := by have := gB.size; omega
    have W1 := HW.out.below B1.out
    have hv1 : ∀ k, v1.ownBlock = some k → p + 1 < k ∧ k < w1.heap.size := fun k e => by
      rcases at1 with e1 | e1
      · rw [e1] at e; simp [Value.ownBlock] at e
      · have h1 := (own1.lt k e).2
        rw [e1] at e
        injection e with e
        omega
    clear gB qA pA fA cA RA WA gr1 nil1 at1
    rw [Nat.zero_add, List.nil_append] at own1
    obtain ⟨A1, c1', rfl, -, -⟩ := own_sl own1
    have O1 := Lib.hid own1
    have HV1 := Lib.hid hv1
    clear own1 hv1
    have BL1 := fun k (hk : k < p) => B1.out.block k (by rw [← hp] at hk ⊢; exact hk)
    have fb1 : w1.frozen? ⟨b, 2, none⟩ = false := (World.frozen?_of_block (w := W) (w' := w1) (a := ⟨b, 2, none⟩) (BL1 b hbl)).trans (HS.out.fz 2)
    go_upto_region 10 with (at_builtin; refine wpList_app styL (.tmp 34) (.tmp 41) rfl rfl base O1.out rfl (l.length - (i + 1)) (c - (i + 1)) W1 rfl (by rw [List.length_drop, lv_length]; omega) (fun u hu => lv_one l u (List.mem_of_mem_drop hu)) (by unfold maxLen; omega) (by omega) (by omega) ?_; intro v2 w2 own2 gr2 nil2 at2; rw [show i + (l.length - (i + 1)) = l.length - 1 by omega, lv_erase] at own2; obtain ⟨A2, c2', rfl, -, -⟩ := own_sl own2; have c2b := (World.grownBy.cell_far gr2 ⟨b, 2, none⟩ (by simp; omega) (fun e => by have := (HV1.out b e.symm).1; omega)).trans c1; have f2b := (World.grownBy.frozen_far gr2 ⟨b, 2, none⟩ (by simp; omega) (fun e => by have := (HV1.out b e.symm).1; omega)).trans fb1)
    have q2 := fun o => (World.grownBy.cell_far gr2 ⟨p + 1, o, none⟩ (by simp; omega) (fun e => by have := (HV1.out (p + 1) e.symm).1; omega)).trans (q1 o)
    have p2 := fun o => (World.grownBy.cell_far gr2 ⟨p, o, none⟩ (by simp; omega) (fun e => by have := (HV1.out p e.symm).1; omega)).trans (p1 o)
    have f2 := fun o => (World.grownBy.frozen_far gr2 ⟨p, o, none⟩ (by simp; omega) (fun e => by have := (HV1.out p e.symm).1; omega)).trans (f1 o)
    have BL2 := fun k (hk : k < p) => (gr2.block k (by omega) (fun e => by have := (HV1.out k e.symm).1; omega)).trans (BL1 k hk)
    have hz2 := gr2.size
    have hv2 : ∀ k, (Value.slice A2 (l.length - 1) c2').ownBlock = some k → p < k := fun k e => by
      rcases at2 with e1 | e1
      · rw [e1] at e; have := (HV1.out k e).1; omega
      · rw [e1] at e; injection e with e; omega
    have S3 := Lib.hid (HS.out.row2 (W' := w2) (by omega) (BL2 b hbl) (fun k hk => BL2 k (by have := (hpF.out k hk).1; omega)) own2 hel (fun x hx => List.mem_of_mem_eraseIdx hx) (fun e => by have := hv2 b e; omega) (fun k hk e => by have h1 := hv2 k e; have h2 := (hpF.out k hk).1; omega) (by omega))
    have R2 : Fr b v.ownBlock W w2 := ⟨gr2.os.trans B1.out.os, gr2.tape.trans B1.out.tape, gr2.output.trans B1.out.output, by omega, fun k hk _ _ => BL2 k (by omega)⟩
    have R3 : Hid (Fr b v.ownBlock W (w2.setCell ⟨b, 2, none⟩ (.slice A2 (l.length - 1) c2'))) := Lib.hid (R2.setCell (p := ⟨b, 2, none⟩) (.inl rfl) _)
    have hqb : p + 1 ≠ b := by omega
    have hpb : p ≠ b := by omega
    have s0 := q2 0; have s1 := q2 1; have s2 := q2 2; have s3 := q2 3
    have t0 := p2 0; have t1 := p2 1; have t2 := p2 2; have t3 := p2 3
    simp only [List.getElem?_toArray, List.getElem?_cons_zero, List.getElem?_cons_succ] at s0 s1 s2 s3 t0 t1 t2 t3
    have hz3 : p < w2.heap.size := by omega
    have HV2 := Lib.hid hv2
    clear q2 p2 q1 p1 f1 c1 BL1 BL2 own2 gr2 nil2 at2 R2 W1 O1 HV1 hv2 fb1
    have hfar := fun (W : World) (i j : Nat) (v : Value) => World.cell?_setCell_other W ⟨b, i, none⟩ ⟨p + 1, j, none⟩ v (fun e => hqb (congrArg Addr.block e).symm)
    have hfar2 := fun (W : World) (i j : Nat) (v : Value) => World.cell?_setCell_other W ⟨b, i, none⟩ ⟨p, j, none⟩ v (fun e => hpb (congrArg Addr.block e).symm)
    go_wp2_with fail
    have hk4 : ∀ k, k ≠ p → (((((w2.setCell ⟨b, 2, none⟩ (.slice A2 (l.length - 1) c2')).setCell ⟨p, 0, none⟩ (.int .i64 x.k.num)).setCell ⟨p, 1, none⟩ (.int .i64 x.k.fr)).setCell ⟨p, 2, none⟩ (.int .i64 x.k.to)).setCell ⟨p, 3, none⟩ (.slice x.A x.n x.c)).heap[k]? = (w2.setCell ⟨b, 2, none⟩ (.slice A2 (l.length - 1) c2')).heap[k]? := fun k e => (heap_set2 _ _ _ _ _ _ e).trans (heap_set2 _ _ _ _ _ _ e)
    have R4 := (((R3.out.setCell (p := ⟨p, 0, none⟩) (.inr (.inr (by simp; omega))) (.int .i64 x.k.num)).setCell (p := ⟨p, 1, none⟩) (.inr (.inr (by simp; omega))) (.int .i64 x.k.fr)).setCell (p := ⟨p, 2, none⟩) (.inr (.inr (by simp; omega))) (.int .i64 x.k.to)).setCell (p := ⟨p, 3, none⟩) (.inr (.inr (by simp; omega))) (.slice x.A x.n x.c)
    have S4 := S3.out.keep (W' := ((((w2.setCell ⟨b, 2, none⟩ (.slice A2 (l.length - 1) c2')).setCell ⟨p, 0, none⟩ (.int .i64 x.k.num)).setCell ⟨p, 1, none⟩ (.int .i64 x.k.fr)).setCell ⟨p, 2, none⟩ (.int .i64 x.k.to)).setCell ⟨p, 3, none⟩ (.slice x.A x.n x.c)) (by simp [World.setCell]) (fun k hkl hk => by
      by_cases e : k = p
      · exfalso
        rcases hk with h | h | h
        · omega
        · have := HV2.out k h; omega
        · have := (hpF.out k h).1; omega
      · exact hk4 k e)
    have L4 := HX.out.keep (W' := ((((w2.setCell ⟨b, 2, none⟩ (.slice A2 (l.length - 1) c2')).setCell ⟨p, 0, none⟩ (.int .i64 x.k.num)).setCell ⟨p, 1, none⟩ (.int .i64 x.k.fr)).setCell ⟨p, 2, none⟩ (.int .i64 x.k.to)).setCell ⟨p, 3, none⟩ (.slice x.A x.n x.c)) R4.size (fun k hF hlt => by
      obtain ⟨_, _, h3, h4⟩ := hpF.out k hF
      exact R4.block k hlt h3 h4)
    have H4 := Lib.hid (And.intro R4 (And.intro S4 L4))
    clear hk4 R4 S4 L4
    refine bodyPost_ret (v := .tuple #[ltV x, .int .i64 0]) (by simp [results, Try.results80, go_sem, ltV, *]) rfl ⟨x, rfl, rfl, H4.out.2.2, H4.out.1, _, F, _, H4.out.2.1, HM.out, .inr (fun g e => by have := HV2.out g e; omega), fun k hk => .inl hk⟩
theorem rdrop_any {W : World} {base b : Nat} {v : Value} {F : Nat → Prop} {s : Nt} (h : NetR W base b v F s) (num : Int) :
    Calls Try.prog 82 #[.pointer (some ⟨b, 0, none⟩), .int .i64 num] W fun e w' => e = .returned (.int .i64 (hitE s num)) ∧ OutR base b v.ownBlock F (outS s num) W w' := by
  have H := Lib.hid (rdeliver_any h num)
  clear h
  go_enter Try.func82, Try.ntmps82
  go_wp2_with fail
  refine H.out.mono ?_
  rintro e w' ⟨x, rfl, -, -, ho⟩
  have HO := Lib.hid ho
  clear ho H
  unfold ltV
  go_wp2
  go_ret
  exact ⟨rfl, HO.out.post ((Below.refl _ _).alloc (Nat.le_refl _) _)⟩
end Go.Proofs.Ytlpdihcgdgkkbaa
