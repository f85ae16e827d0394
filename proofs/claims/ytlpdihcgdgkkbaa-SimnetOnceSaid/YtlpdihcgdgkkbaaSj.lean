/- Walks: a letter put into a net. -/
import Derived.Test.YtlpdihcgdgkkbaaSi
namespace Go.Proofs.Ytlpdihcgdgkkbaa
open Go.RowKit Go.St
set_option linter.unusedVariables false
set_option linter.unusedSimpArgs false
set_option maxRecDepth 100000

/-- What put reads behind its first stores: the net's last number and letters, the letter's box. -/
structure PutS (W : World) (b p : Nat) (last : Int) (v : Value) (num fr to : Int) (A : Option Addr) (n c : Nat) : Prop where
  lb : b < W.heap.size
  lp : p < W.heap.size
  fp : ∀ o, W.frozen? ⟨p, o, none⟩ = false
  c1 : W.cell? ⟨b, 1, none⟩ = some (.int .i64 last)
  c2 : W.cell? ⟨b, 2, none⟩ = some v
  p0 : W.cell? ⟨p, 0, none⟩ = some (.int .i64 num)
  p1 : W.cell? ⟨p, 1, none⟩ = some (.int .i64 fr)
  p2 : W.cell? ⟨p, 2, none⟩ = some (.int .i64 to)
  p3 : W.cell? ⟨p, 3, none⟩ = some (.slice A n c)
theorem PutS.keep {W W' : World} {b p : Nat} {last : Int} {v : Value} {num fr to : Int} {A : Option Addr} {n c : Nat} (h : PutS W b p last v num fr to A n c) (hs : W.heap.size ≤ W'.heap.size)
    (h1 : W'.heap[b]? = W.heap[b]?) (h2 : W'.heap[p]? = W.heap[p]?) : PutS W' b p last v num fr to A n c :=
  have hb := fun o => World.cell?_of_block (w := W) (w' := W') (a := ⟨b, o, none⟩) h1
  have hp := fun o => World.cell?_of_block (w := W) (w' := W') (a := ⟨p, o, none⟩) h2
  have hf := fun o => World.frozen?_of_block (w := W) (w' := W') (a := ⟨p, o, none⟩) h2
  ⟨Nat.lt_of_lt_of_le h.lb hs, Nat.lt_of_lt_of_le h.lp hs, fun o => (hf o).trans (h.fp o), (hb 1).trans h.c1, (hb 2).trans h.c2, (hp 0).trans h.p0, (hp 1).trans h.p1, (hp 2).trans h.p2, (hp 3).trans h.p3⟩
theorem PutS.next {W W' : World} {b p : Nat} {last : Int} {v : Value} {num fr to : Int} {A : Option Addr} {n c : Nat} (h : PutS W b p last v num fr to A n c) (hb : Below W.heap.size W W') : PutS W' b p last v num fr to A n c :=
  h.keep hb.size (hb.block b h.lb) (hb.block p h.lp)
theorem PutS.grown {W W' : World} {b p : Nat} {last : Int} {v : Value} {num fr to : Int} {A : Option Addr} {n c : Nat} (h : PutS W b p last v num fr to A n c) {row : Option Nat} (hg : W.grownBy W' row) (h1 : row ≠ some b) (h2 : row ≠ some p) : PutS W' b p last v num fr to A n c :=
  h.keep hg.size (hg.block b h.lb (fun e => h1 e.symm)) (hg.block p h.lp (fun e => h2 e.symm))
theorem PutS.sets {W : World} {b p : Nat} {last : Int} {v : Value} {num fr to : Int} {A : Option Addr} {n c : Nat} (h : PutS W b p last v num fr to A n c) (hbp : b ≠ p) (z : Int) (A' : Option Addr) (n' c' : Nat) :
    PutS ((W.setCell ⟨p, 0, none⟩ (.int .i64 z)).setCell ⟨p, 3, none⟩ (.slice A' n' c')) b p last v z fr to A' n' c' := by
  obtain ⟨y0, y1, y2, y3, y4, y5, y6, y7, y8⟩ := h
  have hf := fun (W : World) (i j : Nat) (v : Value) => World.cell?_setCell_other W ⟨p, i, none⟩ ⟨b, j, none⟩ v (fun e => hbp (congrArg Addr.block e).symm)
  refine ⟨by simpa [World.setCell] using y0, by simpa [World.setCell] using y1, fun o => by simp [y2], ?_, ?_, ?_, ?_, ?_, ?_⟩
  · rw [hf, hf]; exact y3
  · rw [hf, hf]; exact y4
  · rw [World.cell?_setCell_other _ _ _ _ (by simp)]; exact World.cell?_setCell_same _ _ _ y5
  · rw [World.cell?_setCell_other _ _ _ _ (by simp), World.cell?_setCell_other _ _ _ _ (by simp)]; exact y6
  · rw [World.cell?_setCell_other _ _ _ _ (by simp), World.cell?_setCell_other _ _ _ _ (by simp)]; exact y7
  · exact World.cell?_setCell_same _ _ _ ((World.cell?_setCell_other _ _ _ _ (by simp)).trans y8)
theorem heap_set2 (W : World) (p i j : Nat) (u v : Value) {k : Nat} (e : k ≠ p) : ((W.setCell ⟨p, i, none⟩ u).setCell ⟨p, j, none⟩ v).heap[k]? = W.heap[k]? := (Below.heap_setCell _ _ _ _ e).trans (Below.heap_setCell _ _ _ _ e)
theorem NetS.setAt {W : World} {base b : Nat} {cs : List Value} {v : Value} {F : Nat → Prop} {l : List Ltr} (h : NetS W base b cs v F l) (i : Nat) (u : Value) : NetS (W.setCell ⟨b, i, none⟩ u) base b (cs.set i u) v F l := by
  have hs : W.heap.size ≤ (W.setCell ⟨b, i, none⟩ u).heap.size := by simp [World.setCell]
  have hk : ∀ k, k ≠ b → (W.setCell ⟨b, i, none⟩ u).heap[k]? = W.heap[k]? := fun k e => Below.heap_setCell _ _ _ _ e
  refine ⟨Nat.lt_of_lt_of_le h.lt hs, h.lo, fun o => by simpa using h.fz o, ?_, ownsRow_of h.own (fun g e => hk g (fun e2 => h.ne (by rw [e, e2]))), h.ne, fun k hF => ?_, fun x hx => (h.byt x hx).keep hs (fun k hF _ => hk k (h.Fp k hF).2.2.1), h.len⟩
  · intro j y hy
    by_cases e : i = j
    · subst e
      have hi : i < cs.length := by have := (List.getElem?_eq_some_iff.1 hy).1; simpa using this
      rw [List.getElem?_set_self hi] at hy
      cases hy
      exact World.cell?_setCell_same _ _ _ (h.cell i _ (List.getElem?_eq_getElem hi))
    · rw [List.getElem?_set_ne e] at hy
      rw [World.cell?_setCell_other _ _ _ _ (fun h => e (congrArg Addr.off h))]
      exact h.cell j _ hy
  · obtain ⟨h1, h2⟩ := h.Fp k hF
    exact ⟨Nat.lt_of_lt_of_le h1 hs, h2⟩
theorem NetS.setLast {W : World} {base b : Nat} {nodes last : Int} {v : Value} {F : Nat → Prop} {l : List Ltr} (h : NetS W base b (csP nodes last v) v F l) (z : Int) : NetS (W.setCell ⟨b, 1, none⟩ (.int .i64 z)) base b (csP nodes z v) v F l := h.setAt 1 _
theorem NetS.setLastR {W : World} {base b : Nat} {nodes last : Int} {v : Value} {F : Nat → Prop} {l : List Ltr} (h : NetS W base b (csR nodes last v) v F l) (z : Int) : NetS (W.setCell ⟨b, 3, none⟩ (.int .i64 z)) base b (csR nodes z v) v F l := h.setAt 3 _
theorem sput_full {W : World} {base b : Nat} {nodes last : Int} {v : Value} {F : Nat → Prop} {l : List Ltr} (h : NetS W base b (csP nodes last v) v F l) (x : Ltr) (hn : l.length = 2048) :
    Calls Try.prog 74 #[.pointer (some ⟨b, 0, none⟩), ltV x] W fun e w' => e = .returned (.tuple #[.int .i64 0, .int .i64 3]) ∧ Below W.heap.size W w' := by
  obtain ⟨A, c, hv, -, -, -⟩ := h.row
  have c2 := h.cell 2 v rfl
  have lt := h.lt
  rw [hn] at hv
  subst hv
  unfold ltV
  clear h hn
  go_enter Try.func74, Try.ntmps74
  go_wp2
  go_ret2
  exact ⟨rfl, by go_grown⟩
/-- A letter put behind the others, in memory. -/
theorem NetS.put {W W' : World} {base b : Nat} {cs : List Value} {v v' : Value} {F : Nat → Prop} {l : List Ltr} (h : NetS W base b cs v F l) {x : Ltr} (hg : W.grownBy W' v.ownBlock) (own : W'.ownsRow base 51 4 v' (l.length + 1) (lv (l ++ [x])))
    (hv : v'.ownBlock = v.ownBlock ∨ v'.ownBlock = some W.heap.size) (hn : l.length < 2048) {G : Nat → Prop} (hG : ∀ k, G k → F k ∨ (base ≤ k ∧ k < W.heap.size ∧ k ≠ b ∧ v.ownBlock ≠ some k)) (hFG : ∀ k, F k → G k) (hx : LtB W G x) :
    NetS (W'.setCell ⟨b, 2, none⟩ v') base b (cs.set 2 v') v' G (l ++ [x]) := by
  have hGp : ∀ k, G k → k < W.heap.size ∧ base ≤ k ∧ k ≠ b ∧ v.ownBlock ≠ some k := fun k hk => by
    rcases hG k hk with h1 | h1
    · exact h.Fp k h1
    · exact ⟨h1.2.1, h1.1, h1.2.2.1, h1.2.2.2⟩
  have hne : v'.ownBlock ≠ some b := by
    rcases hv with e | e
    · rw [e]; exact h.ne
    · rw [e]; intro e2; have := h.lt; simp at e2; omega
  have hc := fun o => World.grownBy.cell_far hg ⟨b, o, none⟩ h.lt (fun e => h.ne e.symm)
  have hz := fun o => World.grownBy.frozen_far hg ⟨b, o, none⟩ h.lt (fun e => h.ne e.symm)
  have hs : W.heap.size ≤ (W'.setCell ⟨b, 2, none⟩ v').heap.size := by simpa [World.setCell] using hg.size
  have hkeep : ∀ k, G k → k < W.heap.size → (W'.setCell ⟨b, 2, none⟩ v').heap[k]? = W.heap[k]? := fun k hk hlt => by
    obtain ⟨_, _, h1, h2⟩ := hGp k hk
    exact (Below.heap_setCell _ _ _ _ (fun e => h1 e)).trans (hg.block k hlt (fun e => h2 e.symm))
  refine ⟨Nat.lt_of_lt_of_le h.lt hs, h.lo, fun o => by simpa using (hz o).trans (h.fz o), ?_, ?_, hne, fun k hk => ?_, fun y hy => ?_, by simp; omega⟩
  · intro i u hu
    by_cases e : 2 = i
    · subst e
      have hi : 2 < cs.length := by have := (List.getElem?_eq_some_iff.1 hu).1; simpa using this
      rw [List.getElem?_set_self hi] at hu
      cases hu
      exact World.cell?_setCell_same _ _ _ ((hc 2).trans (h.cell 2 _ (List.getElem?_eq_getElem hi)))
    · rw [List.getElem?_set_ne e] at hu
      rw [World.cell?_setCell_other _ _ _ _ (fun h => e (congrArg Addr.off h))]
      exact (hc i).trans (h.cell i _ hu)
  · have h2 : (l ++ [x]).length = l.length + 1 := by simp
    rw [h2]
    exact own.kept (row := some b) ⟨rfl, rfl, rfl, by simp [World.setCell], fun k _ hk => Below.heap_setCell _ _ _ _ (fun e => hk (by rw [e]))⟩ (.inr hne)
  · obtain ⟨h1, h2, h3, h4⟩ := hGp k hk
    refine ⟨Nat.lt_of_lt_of_le h1 hs, h2, h3, ?_⟩
    rcases hv with e | e
    · rw [e]; exact h4
    · rw [e]; intro e2; simp at e2; omega
  · rcases List.mem_append.1 hy with h1 | h1
    · exact ((h.byt y h1).mono hFG).keep hs hkeep
    · simp at h1; subst h1; exact hx.keep hs hkeep
set_option maxHeartbeats 1600000 in
theorem sput_any {W : World} {base b : Nat} {nodes last : Int} {v : Value} {F : Nat → Prop} {l : List Ltr} (h : NetS W base b (csP nodes last v) v F l) (x : Ltr) (hx : LtB W (fun k => k ≠ b) x) (hn : l.length < 2048) (h0 : 0 ≤ last) (h1 : last ≤ 4611686018427387904) :
    Calls Try.prog 74 #[.pointer (some ⟨b, 0, none⟩), ltV x] W fun e w' => e = .returned (.tuple #[.int .i64 (last + 1), .int .i64 0]) ∧ NetG base b v.ownBlock F (csP nodes (last + 1)) (l.map Ltr.k ++ [⟨last + 1, x.k.fr, x.k.to, x.k.bs⟩]) W w' := by
  obtain ⟨⟨num, fr, to, bs⟩, A2, n2, c2⟩ := x
  unfold ltV
  dsimp only
  obtain ⟨A, c, hv, -, -, -⟩ := h.row
  subst hv
  have k1 := h.cell 1 _ rfl
  have k2 := h.cell 2 _ rfl
  have lt := h.lt
  have fz := h.fz
  have HS := Lib.hid h
  have HX := Lib.hid hx
  have i1 : (l.length : Int) < 2048 := by omega
  have i2 : ¬ (2048 : Int) ≤ (l.length : Int) := by omega
  clear h hx
  go_enter Try.func74, Try.ntmps74
  go_upto_region 4 with (fail)
  have S1 : Hid (NetS ((W.setCell ⟨b, 1, none⟩ (.int .i64 (last + 1))).alloc (.cells #[.int .i64 num, .int .i64 fr, .int .i64 to, .slice A2 n2 c2] 51)) base b (csP nodes (last + 1) (.slice A l.length c)) (.slice A l.length c) F l) := Lib.hid ((HS.out.setLast (last + 1)).next ((Below.refl _ _).alloc (Nat.le_refl _) _))
  have X1 : Hid (LtB ((W.setCell ⟨b, 1, none⟩ (.int .i64 (last + 1))).alloc (.cells #[.int .i64 num, .int .i64 fr, .int .i64 to, .slice A2 n2 c2] 51)) (fun k => k ≠ b) ⟨⟨num, fr, to, bs⟩, A2, n2, c2⟩) := Lib.hid ((HX.out.keep (W' := W.setCell ⟨b, 1, none⟩ (.int .i64 (last + 1))) (by simp [World.setCell]) (fun k e _ => Below.heap_setCell _ _ _ _ e)).keep (by simp) (fun k e h => ((Below.refl _ _).alloc (Nat.le_refl _) _).block k h))
  have R1 : Hid (Fr b (Value.slice A l.length c).ownBlock W ((W.setCell ⟨b, 1, none⟩ (.int .i64 (last + 1))).alloc (.cells #[.int .i64 num, .int .i64 fr, .int .i64 to, .slice A2 n2 c2] 51))) := Lib.hid (((Fr.refl b (Value.slice A l.length c).ownBlock W).setCell (p := ⟨b, 1, none⟩) (.inl rfl) _).below ((Below.refl _ _).alloc (Nat.le_refl _) _))
  have P1 : Hid (PutS ((W.setCell ⟨b, 1, none⟩ (.int .i64 (last + 1))).alloc (.cells #[.int .i64 num, .int .i64 fr, .int .i64 to, .slice A2 n2 c2] 51)) b W.heap.size (last + 1) (.slice A l.length c) num fr to A2 n2 c2) := by
    have hz : (W.setCell ⟨b, 1, none⟩ (.int .i64 (last + 1))).heap.size = W.heap.size := by simp [World.setCell]
    have hc := fun o => World.cell?_alloc_mark (W.setCell ⟨b, 1, none⟩ (.int .i64 (last + 1))) #[.int .i64 num, .int .i64 fr, .int .i64 to, .slice A2 n2 c2] 51 (0, 0) o
    rw [hz] at hc
    exact Lib.hid ⟨S1.out.lt, by simp [World.setCell], fun o => World.frozen?_alloc_at _ _ _ _ hz.symm, S1.out.cell 1 _ rfl, S1.out.cell 2 _ rfl, hc 0, hc 1, hc 2, hc 3⟩
  have hbp : b ≠ W.heap.size := by omega
  have hrp : (Value.slice A l.length c).ownBlock ≠ some W.heap.size := fun e => by have := (HS.out.own.lt _ e).2; omega
  have bo := HS.out.lo
  generalize (W.setCell ⟨b, 1, none⟩ (.int .i64 (last + 1))).alloc (.cells #[.int .i64 num, .int .i64 fr, .int .i64 to, .slice A2 n2 c2] 51) = w1 at *
  have hW1 := R1.out.size
  have hp1 := P1.out.lp
  generalize hp : W.heap.size = p at *
  clear k1 k2 fz lt HX
  refine wp_heldcut (S := fun X => Below w1.heap.size w1 X) 8 (by kernel_rfl) (by kernel_rfl) (Below.drew (Below.refl _ _)) (fun hHeld => ?_)
  simp only [List.take_succ_cons, List.take_zero]
  refine takeL (i := 0) (v := ?_) rfl (by kernel_rfl) (by kernel_rfl) (by kernel_rfl) (fun _ _ _ h => h) ⟨by rfl, ?_⟩ (by assumption) ?_
  rotate_left
  · intro W9 hSw
    (try dsimp only at hSw)
    obtain ⟨z0, z1, z2, z3, z4, z5, z6, z7, z8⟩ := P1.out.next hSw
    go_simp
    try with_reducible rfl
  (try simp only [Act.put, List.setIfInBounds_toArray, List.set_cons_zero, List.set_cons_succ])
  refine takeL (i := 1) (v := ?_) rfl (by kernel_rfl) (by kernel_rfl) (by kernel_rfl) (fun _ _ _ h => h) ⟨by rfl, ?_⟩ (by assumption) ?_
  rotate_left
  · intro W9 hSw
    (try dsimp only at hSw)
    obtain ⟨z0, z1, z2, z3, z4, z5, z6, z7, z8⟩ := P1.out.next hSw
    go_simp
    try with_reducible rfl
  (try simp only [Act.put, List.setIfInBounds_toArray, List.set_cons_zero, List.set_cons_succ])
  refine takeL (i := 2) (v := ?_) rfl (by kernel_rfl) (by kernel_rfl) (by kernel_rfl) (fun _ _ _ h => h) ⟨by rfl, ?_⟩ (by assumption) ?_
  rotate_left
  · intro W9 hSw
    (try dsimp only at hSw)
    obtain ⟨z0, z1, z2, z3, z4, z5, z6, z7, z8⟩ := P1.out.next hSw
    go_simp
    try with_reducible rfl
  (try simp only [Act.put, List.setIfInBounds_toArray, List.set_cons_zero, List.set_cons_succ])
  refine takeL (i := 3) (v := ?_) rfl (by kernel_rfl) (by kernel_rfl) (by kernel_rfl) (fun _ _ _ h => h) ⟨by rfl, ?_⟩ (by assumption) ?_
  rotate_left
  · intro W9 hSw
    (try dsimp only at hSw)
    obtain ⟨z0, z1, z2, z3, z4, z5, z6, z7, z8⟩ := P1.out.next hSw
    go_simp
    try with_reducible rfl
  (try simp only [Act.put, List.setIfInBounds_toArray, List.set_cons_zero, List.set_cons_succ])
  refine takeL (i := 4) (v := ?_) rfl (by kernel_rfl) (by kernel_rfl) (by kernel_rfl) (fun _ _ _ h => h) ⟨by rfl, ?_⟩ (by assumption) ?_
  rotate_left
  · intro W9 hSw
    (try dsimp only at hSw)
    obtain ⟨z0, z1, z2, z3, z4, z5, z6, z7, z8⟩ := P1.out.next hSw
    go_simp
    try with_reducible rfl
  (try simp only [Act.put, List.setIfInBounds_toArray, List.set_cons_zero, List.set_cons_succ])
  refine takeL (i := 5) (v := ?_) rfl (by kernel_rfl) (by kernel_rfl) (by kernel_rfl) (fun _ _ _ h => h) ⟨by rfl, ?_⟩ (by assumption) ?_
  rotate_left
  · intro W9 hSw
    (try dsimp only at hSw)
    obtain ⟨z0, z1, z2, z3, z4, z5, z6, z7, z8⟩ := P1.out.next hSw
    go_simp
    try with_reducible rfl
  (try simp only [Act.put, List.setIfInBounds_toArray, List.set_cons_zero, List.set_cons_succ])
  refine takeL (i := 7) (v := ?_) rfl (by kernel_rfl) (by kernel_rfl) (by kernel_rfl) (fun _ _ _ h => h) ⟨by rfl, ?_⟩ (by assumption) ?_
  rotate_left
  · intro W9 hSw
    (try dsimp only at hSw)
    go_simp
    try with_reducible rfl
  (try simp only [Act.put, List.setIfInBounds_toArray, List.set_cons_zero, List.set_cons_succ])
  generalize hX0 : w1.drew = X0 at *
  refine wpAnyH_ready (rs := [6]) (by kernel_rfl) (by simp) ?_
  refine consL rfl (by rfl) (fun K hK => ?_) ?_
  · have hx0 := X1.out.keep (W' := X0) hHeld.size (fun k _ h => hHeld.block k h)
    have hl0 := hx0.len
    have hb0 := hx0.bnd
    have hr0 := hx0.read
    dsimp only at hl0 hb0 hr0
    go_simp
    go_at_call 84
    refine (bclone_any A2 n2 c2 X0.heap.size bs hl0 (by omega) X0 hr0 (Nat.le_refl _)).mono ?_
    rintro e w4 ⟨v4, rfl, own4, hb4⟩
    have k4 : Below w1.heap.size w1 w4 := hHeld.trans (hb4.mono hHeld.size)
    refine hK.out _ _ k4 (fun hX' => ?_)
    clear hK K hX'
    have S4 := Lib.hid (S1.out.next k4)
    have P4 := Lib.hid (P1.out.next k4)
    have R4 := Lib.hid (R1.out.below k4)
    have O4 := Lib.hid own4
    have hz4 : w1.heap.size ≤ X0.heap.size := hHeld.size
    have hz5 := hb4.size
    clear hx0 hl0 hr0 S1 P1 R1 X1 hb4 own4 k4
    refine wpAnyH_done (by kernel_rfl) ?_ _
    simp only [tailPost, List.drop_succ_cons, List.drop_zero]
    obtain ⟨y0, y1, y2, y3, y4, y5, y6, y7, y8⟩ := P4.out
    obtain ⟨A4, c4, rfl, -, -, rd4⟩ := own_rd4 O4.out
    have LT4 : Hid (∀ k o, A4 = some ⟨k, o, none⟩ → X0.heap.size ≤ k ∧ k < w4.heap.size) := Lib.hid (fun k o e => O4.out.lt k (by rw [e]; rfl))
    have RD4 := Lib.hid rd4
    clear rd4
    go_upto_region 5 with (fail)
    have hpF : ∀ k, F k → k ≠ p := fun k hk e => by have := (HS.out.Fp k hk).1; omega
    have S5 : Hid (NetS ((w4.setCell ⟨p, 0, none⟩ (.int .i64 (last + 1))).setCell ⟨p, 3, none⟩ (.slice A4 n2 c4)) base b (csP nodes (last + 1) (.slice A l.length c)) (.slice A l.length c) F l) := Lib.hid (S4.out.keep (by simp [World.setCell]) (fun k _ hk => heap_set2 _ _ _ _ _ _ (by
      rcases hk with h | h | h
      · omega
      · exact fun e => hrp (by rw [h, e])
      · exact hpF k h)))
    have P5 := Lib.hid (P4.out.sets hbp (last + 1) A4 n2 c4)
    have R5 : Hid (Fr b (Value.slice A l.length c).ownBlock W ((w4.setCell ⟨p, 0, none⟩ (.int .i64 (last + 1))).setCell ⟨p, 3, none⟩ (.slice A4 n2 c4))) := Lib.hid ((R4.out.setCell (p := ⟨p, 0, none⟩) (.inr (.inr (by simp; omega))) _).setCell (p := ⟨p, 3, none⟩) (.inr (.inr (by simp; omega))) _)
    have L4 : LtB w4 (fun k => F k ∨ (X0.heap.size ≤ k ∧ k < w4.heap.size)) ⟨⟨last + 1, fr, to, bs⟩, A4, n2, c4⟩ := LtB.of_rd (by have := O4.out.1; simpa [bv] using this) hb0 RD4.out (fun k o e => .inr (LT4.out k o e))
    have L5 : Hid (LtB ((w4.setCell ⟨p, 0, none⟩ (.int .i64 (last + 1))).setCell ⟨p, 3, none⟩ (.slice A4 n2 c4)) (fun k => F k ∨ (X0.heap.size ≤ k ∧ k < w4.heap.size)) ⟨⟨last + 1, fr, to, bs⟩, A4, n2, c4⟩) := Lib.hid (L4.keep (by simp [World.setCell]) (fun k hk _ => heap_set2 _ _ _ _ _ _ (by
      rcases hk with h | h
      · exact hpF k h
      · have := P4.out.lp; intro e; subst e; have := hW1; omega)))
    have hbX : b < X0.heap.size := by have := S4.out.lt; have := HS.out.lt; omega
    have hrX : ∀ k, (Value.slice A l.length c).ownBlock = some k → k < X0.heap.size := fun k e => by have := (HS.out.own.lt k e).2; omega
    have hWX : W.heap.size ≤ X0.heap.size := by omega
    have hz45 : w4.heap.size ≤ ((w4.setCell ⟨p, 0, none⟩ (.int .i64 (last + 1))).setCell ⟨p, 3, none⟩ (.slice A4 n2 c4)).heap.size := by simp [World.setCell]
    clear y0 y1 y2 y3 y4 y5 y6 y7 y8 O4 RD4 LT4 L4 S4 P4 R4
    generalize (w4.setCell ⟨p, 0, none⟩ (.int .i64 (last + 1))).setCell ⟨p, 3, none⟩ (.slice A4 n2 c4) = w5 at *
    refine wp_heldcut (S := fun X => PutS X b p (last + 1) (.slice A l.length c) (last + 1) fr to A4 n2 c4) 8 (by kernel_rfl) (by kernel_rfl) (P5.out.next (Below.drew (Below.refl _ _))) (fun hHeld => ?_)
    simp only [List.take_succ_cons, List.take_zero]
    refine takeL (i := 0) (v := ?_) rfl (by kernel_rfl) (by kernel_rfl) (by kernel_rfl) (fun _ _ _ h => h) ⟨by rfl, ?_⟩ (by assumption) ?_
    rotate_left
    · intro W9 hSw
      (try dsimp only at hSw)
      obtain ⟨z0, z1, z2, z3, z4, z5, z6, z7, z8⟩ := hSw
      go_simp
      try with_reducible rfl
    (try simp only [Act.put, List.setIfInBounds_toArray, List.set_cons_zero, List.set_cons_succ])
    refine takeL (i := 1) (v := ?_) rfl (by kernel_rfl) (by kernel_rfl) (by kernel_rfl) (fun _ _ _ h => h) ⟨by rfl, ?_⟩ (by assumption) ?_
    rotate_left
    · intro W9 hSw
      (try dsimp only at hSw)
      obtain ⟨z0, z1, z2, z3, z4, z5, z6, z7, z8⟩ := hSw
      go_simp
      try with_reducible rfl
    (try simp only [Act.put, List.setIfInBounds_toArray, List.set_cons_zero, List.set_cons_succ])
    refine takeL (i := 2) (v := ?_) rfl (by kernel_rfl) (by kernel_rfl) (by kernel_rfl) (fun _ _ _ h => h) ⟨by rfl, ?_⟩ (by assumption) ?_
    rotate_left
    · intro W9 hSw
      (try dsimp only at hSw)
      obtain ⟨z0, z1, z2, z3, z4, z5, z6, z7, z8⟩ := hSw
      go_simp
      try with_reducible rfl
    (try simp only [Act.put, List.setIfInBounds_toArray, List.set_cons_zero, List.set_cons_succ])
    refine takeL (i := 3) (v := ?_) rfl (by kernel_rfl) (by kernel_rfl) (by kernel_rfl) (fun _ _ _ h => h) ⟨by rfl, ?_⟩ (by assumption) ?_
    rotate_left
    · intro W9 hSw
      (try dsimp only at hSw)
      obtain ⟨z0, z1, z2, z3, z4, z5, z6, z7, z8⟩ := hSw
      go_simp
      try with_reducible rfl
    (try simp only [Act.put, List.setIfInBounds_toArray, List.set_cons_zero, List.set_cons_succ])
    refine takeL (i := 4) (v := ?_) rfl (by kernel_rfl) (by kernel_rfl) (by kernel_rfl) (fun _ _ _ h => h) ⟨by rfl, ?_⟩ (by assumption) ?_
    rotate_left
    · intro W9 hSw
      (try dsimp only at hSw)
      obtain ⟨z0, z1, z2, z3, z4, z5, z6, z7, z8⟩ := hSw
      go_simp
      try with_reducible rfl
    (try simp only [Act.put, List.setIfInBounds_toArray, List.set_cons_zero, List.set_cons_succ])
    refine takeL (i := 5) (v := ?_) rfl (by kernel_rfl) (by kernel_rfl) (by kernel_rfl) (fun _ _ _ h => h) ⟨by rfl, ?_⟩ (by assumption) ?_
    rotate_left
    · intro W9 hSw
      (try dsimp only at hSw)
      obtain ⟨z0, z1, z2, z3, z4, z5, z6, z7, z8⟩ := hSw
      go_simp
      try with_reducible rfl
    (try simp only [Act.put, List.setIfInBounds_toArray, List.set_cons_zero, List.set_cons_succ])
    have kX : Below w5.heap.size w5 w5.drew := Below.drew (Below.refl _ _)
    have hX := hHeld
    clear hHeld
    generalize w5.drew = X at *
    refine wpAnyH_ready (rs := [6]) (by kernel_rfl) (by simp) ?_
    refine consL rfl (by rfl) (fun K hK => ?_) ?_
    · go_simp
      have kx2 : Below X.heap.size X (X.alloc (.cells #[.int .i64 (last + 1), .int .i64 fr, .int .i64 to, .slice A4 n2 c4] 51)) := (Below.refl _ _).alloc (Nat.le_refl _) _
      refine hK.out _ _ (hX.next kx2) (fun hX' => ?_)
      clear hK K
      have HM : Hid (Rd (X.alloc (.cells #[.int .i64 (last + 1), .int .i64 fr, .int .i64 to, .slice A4 n2 c4] 51)) (X.heap.size + 1) (some ⟨X.heap.size, 0, none⟩) (ltc ⟨⟨last + 1, fr, to, bs⟩, A4, n2, c4⟩)) := Lib.hid (fun _ => ⟨X.heap.size, 0, rfl, by omega, fun i u hu => by rw [World.cell?_alloc_mark]; simpa [ltc] using hu⟩)
      have k2 : Below w5.heap.size w5 (X.alloc (.cells #[.int .i64 (last + 1), .int .i64 fr, .int .i64 to, .slice A4 n2 c4] 51)) := kX.trans (kx2.mono kX.size)
      clear kx2 hX kX
      generalize hX9 : X.alloc (.cells #[.int .i64 (last + 1), .int .i64 fr, .int .i64 to, .slice A4 n2 c4] 51) = X2 at *
      generalize hX8 : X.heap.size = nb at *
      clear hX9 hX8 X
      have S6 := Lib.hid (S5.out.next k2)
      have R6 := Lib.hid (R5.out.below k2)
      have L6 := Lib.hid (L5.out.keep k2.size (fun k _ h => k2.block k h))
      have hz6 := k2.size
      refine wpAnyH_ready (rs := [7]) (by kernel_rfl) (by simp) ?_
      refine consL rfl (by rfl) (fun K hK => ?_) ?_
      · refine wp_app styL (.tmp 32) (.tmp 34) rfl base S6.out.own rfl 1 1 HM.out rfl rfl (by intro u hu; simp [ltc] at hu; rcases hu with rfl | rfl | rfl | rfl <;> rfl) (by unfold maxLen; omega) (by omega) (Nat.le_trans S6.out.lo (Nat.le_of_lt S6.out.lt)) ?_
        intro v2 w2 own2 gr2 nil2 at2
        have hv2 : v2.ownBlock = (Value.slice A l.length c).ownBlock ∨ ∀ g, v2.ownBlock = some g → W.heap.size ≤ g := by
          rcases at2 with e | e
          · exact .inl e
          · refine .inr (fun g e2 => ?_)
            rw [e] at e2
            have h1 := R6.out.size
            simp at e2
            omega
        have hfr : Hid (Fr b (Value.slice A l.length c).ownBlock W w2) := Lib.hid (R6.out.grown gr2 (.inl rfl))
        refine hK.out _ _ (hX'.grown gr2 S6.out.ne hrp) (fun hX2 => ?_)
        have HC : Hid (NetS (w2.setCell ⟨b, 2, none⟩ v2) base b (csP nodes (last + 1) v2) v2 (fun k => F k ∨ (X0.heap.size ≤ k ∧ k < w4.heap.size)) (l ++ [⟨⟨last + 1, fr, to, bs⟩, A4, n2, c4⟩])) := Lib.hid (S6.out.put gr2 (by rw [lv_append]; exact own_eq own2 rfl (by simp [lv])) at2 hn (fun k hk => by
          rcases hk with hk | hk
          · exact .inl hk
          · refine .inr ⟨by omega, ?_, by omega, fun e => by have := hrX k e; omega⟩
            have h3 := R6.out.size
            have h4 := hz45
            omega) (fun k hk => .inl hk) L6.out)
        have hfx : w2.frozen? ⟨b, 2, none⟩ = false := (World.grownBy.frozen_far gr2 ⟨b, 2, none⟩ S6.out.lt (fun e => S6.out.ne e.symm)).trans (S6.out.fz 2)
        have hcx := hX2.c2
        have hc1 := hX2.c1
        have hlx := hX2.lb
        clear hK K gr2 nil2 at2 own2 hX' hX2 HM k2 S6 R6 L6 S5 R5 L5 P5
        refine wpAnyH_done (by kernel_rfl) ?_ _
        simp only [tailPost, List.drop_succ_cons, List.drop_zero]
        have hfr2 : Hid (Fr b (Value.slice A l.length c).ownBlock W (w2.setCell ⟨b, 2, none⟩ v2)) := Lib.hid (hfr.out.setCell (p := ⟨b, 2, none⟩) (.inl rfl) _)
        obtain ⟨A5, c5, hv5, -, -, -⟩ := HC.out.row
        rw [show (l ++ [(⟨⟨last + 1, fr, to, bs⟩, A4, n2, c4⟩ : Ltr)]).length = l.length + 1 by simp] at hv5
        subst hv5
        go_wp2_with fail
        go_ret2
        exact ⟨rfl, hfr2.out, _, _, _, HC.out, by simp, hv2, fun k hk => Or.imp_right (fun h => by omega) hk⟩
      exact AllReadyH.nil
    exact AllReadyH.nil
  exact AllReadyH.nil
end Go.Proofs.Ytlpdihcgdgkkbaa
