/- The walk: no read is ever forgotten. -/
import Derived.Test.YtnhobjjgpnbnmaaMx
namespace Go.Proofs.Ytnhobjjgpnbnmaa
open Go.RowKit Go.St
set_option linter.unusedVariables false
set_option linter.unusedSimpArgs false
set_option maxRecDepth 100000

/-- The cache, the greatest that was heard, the least that each question may be told. -/
structure HoS (w W : World) (B pg gl b nk : Nat) (v : Value) (s : Stp) (l : List Mk) (G : Stp) (ls : List Stp) : Prop where
  bel : Below w.heap.size w W
  lo : w.heap.size ≤ B
  pl : B ≤ pg
  c : CaB 63 W B b v s l
  len : l.length ≤ 1024
  g : SpB W pg G
  gf : ∀ o, W.frozen? ⟨pg, o, none⟩ = false
  row : W.ownsRow B 23 3 (.slice (some ⟨gl, 0, none⟩) nk nk) nk (rv ls)
  n1 : pg ≠ b
  n2 : pg ≠ gl
  n3 : b ≠ gl
  n4 : v.ownBlock ≠ some pg
  n5 : v.ownBlock ≠ some gl
section
variable {w W W' : World} {B pg gl b nk : Nat} {v : Value} {s : Stp} {l : List Mk} {G : Stp} {ls : List Stp}
theorem HoS.rl (h : HoS w W B pg gl b nk v s l G ls) : ls.length = nk := by
  have := h.row.1
  rw [rv_length] at this
  omega
theorem HoS.gl_lt (h : HoS w W B pg gl b nk v s l G ls) : gl < W.heap.size := (h.row.lt gl rfl).2
theorem HoS.next (h : HoS w W B pg gl b nk v s l G ls) (hb : Below W.heap.size W W') : HoS w W' B pg gl b nk v s l G ls :=
  ⟨h.bel.trans (hb.mono h.bel.size), h.lo, h.pl, h.c.next hb, h.len, h.g.next hb, fun o => (hb.frozen (p := ⟨pg, o, none⟩) h.g.lt).trans (h.gf o), own_keep h.row hb (Nat.le_refl _), h.n1, h.n2, h.n3, h.n4, h.n5⟩
theorem HoS.op (h : HoS w W B pg gl b nk v s l G ls) {s2 : Stp} {l2 : List Mk} (hr : RdP 63 B b v.ownBlock s2 l2 W W') (hl2 : l2.length ≤ 1024) : ∃ v2, HoS w W' B pg gl b nk v2 s2 l2 G ls := by
  obtain ⟨hf, v2, c2, hv2⟩ := hr
  have hBW : w.heap.size ≤ W.heap.size := h.bel.size
  have hcell := fun o => hf.cell (p := ⟨pg, o, none⟩) h.g.lt h.n1 h.n4
  have hrow : W'.ownsRow B 23 3 (.slice (some ⟨gl, 0, none⟩) nk nk) nk (rv ls) := by
    refine ⟨h.row.1, ?_⟩
    rcases h.row.2 with hn | ⟨g, cap, cur, e0, hg, hh, rest⟩
    · exact .inl hn
    · refine .inr ⟨g, cap, cur, e0, hg, ?_, rest⟩
      have e1 : gl = g := by injection e0 with e1 _ _; injection e1 with e1; exact congrArg Addr.block e1
      subst e1
      rw [hf.block gl h.gl_lt (fun e => h.n3 e.symm) h.n5]
      exact hh
  have hfresh : ∀ k, k < W.heap.size → v.ownBlock ≠ some k → v2.ownBlock ≠ some k := fun k hk hne e => by
    rcases hv2 with e2 | e2
    · rw [e2] at e; exact hne e
    · have := e2 k e; omega
  exact ⟨v2, h.bel.trans (hf.to_below hBW (Nat.le_trans h.lo h.c.lo) (fun g e => Nat.le_trans h.lo (h.c.own.lt g e).1)), h.lo, h.pl, c2, hl2, ⟨Nat.lt_of_lt_of_le h.g.lt hf.size, (hcell 0).trans h.g.a0, (hcell 1).trans h.g.a1, (hcell 2).trans h.g.a2⟩, fun o => (hf.frozen (p := ⟨pg, o, none⟩) h.g.lt h.n1 h.n4).trans (h.gf o), hrow, h.n1, h.n2, h.n3, hfresh pg h.g.lt h.n4, hfresh gl h.gl_lt h.n5⟩
theorem CaB.far {E : TypeId} {W W' : World} {base b : Nat} {v : Value} {s : Stp} {l : List Mk} (h : CaB E W base b v s l) {p : Nat} (hg : W.grownBy W' (some p)) (h1 : b ≠ p) (h2 : v.ownBlock ≠ some p) : CaB E W' base b v s l := by
  have hc := fun o => World.grownBy.cell_far hg ⟨b, o, none⟩ h.lt (fun e => h1 (by injection e))
  have hz := fun o => World.grownBy.frozen_far hg ⟨b, o, none⟩ h.lt (fun e => h1 (by injection e))
  exact ⟨Nat.lt_of_lt_of_le h.lt hg.size, h.lo, fun o => (hz o).trans (h.fz o), (hc 0).trans h.c0, (hc 1).trans h.c1, (hc 2).trans h.c2, (hc 3).trans h.c3, (hc 4).trans h.c4, h.own.kept hg (.inr h2), h.ne, h.len⟩
theorem grA (W : World) (p : Nat) (s : Stp) : W.grownBy (setA W p s) (some p) := by
  unfold setA
  have h : ∀ (X : World) (o : Nat) (u : Value), X.grownBy (X.setCell ⟨p, o, none⟩ u) (some p) := fun X o u => ⟨rfl, rfl, rfl, by simp [World.setCell], fun k _ hk => Below.heap_setCell _ _ _ _ (fun e => hk (by rw [e]))⟩
  exact ((h _ _ _).trans (h _ _ _)).trans (h _ _ _)
theorem HoS.putG (h : HoS w W B pg gl b nk v s l G ls) (G2 : Stp) : HoS w (setA W pg G2) B pg gl b nk v s l G2 ls := by
  have hg := grA W pg G2
  obtain ⟨k0, k1, k2⟩ := setA_own W pg G2 h.g.a0 h.g.a1 h.g.a2
  have hlo := h.lo; have hpl := h.pl
  exact ⟨h.bel.grown hg h.bel.size (fun k e => by injection e with e; omega), h.lo, h.pl, h.c.far hg h.n1.symm h.n4, h.len, ⟨by rw [setA_size]; exact h.g.lt, k0, k1, k2⟩, fun o => (setA_fz ..).trans (h.gf o), h.row.kept hg (.inr (fun e => h.n2 (by simpa [Value.ownBlock] using e.symm))), h.n1, h.n2, h.n3, h.n4, h.n5⟩
theorem HoS.putL (h : HoS w W B pg gl b nk v s l G ls) (k : Nat) (y : Stp) (hk : k < nk) : HoS w (setT W gl (k * 3) y) B pg gl b nk v s l G (ls.set k y) := by
  have hp := own_putT h.row k y (by rw [h.rl]; exact hk)
  have hg := hp.2
  have hlo := h.lo
  have hgB := (h.row.lt gl rfl).1
  have hc := fun o => World.grownBy.cell_far hg ⟨pg, o, none⟩ h.g.lt (fun e => h.n2 (by injection e))
  have hz := fun o => World.grownBy.frozen_far hg ⟨pg, o, none⟩ h.g.lt (fun e => h.n2 (by injection e))
  exact ⟨h.bel.grown hg h.bel.size (fun j e => by injection e with e; omega), h.lo, h.pl, h.c.far hg h.n3 h.n5, h.len, ⟨Nat.lt_of_lt_of_le h.g.lt hg.size, (hc 0).trans h.g.a0, (hc 1).trans h.g.a1, (hc 2).trans h.g.a2⟩, fun o => (hz o).trans (h.gf o), hp.1, h.n1, h.n2, h.n3, h.n4, h.n5⟩
end
theorem AmB.gr {W W' : World} {p k : Nat} {x : ActM} (h : AmB W p x) (hg : W.grownBy W' (some k)) (hk : p ≠ k) : AmB W' p x := h.keep hg.size (fun o => World.grownBy.cell_far hg ⟨p, o, none⟩ h.lt (fun e => hk (by injection e)))
theorem AkI.keep {w W X : World} {g o : Nat} {y : AskM} (h : AkI W g o y) (hg : g < w.heap.size) (hW : Below w.heap.size w W) (hX : Below w.heap.size w X) : AkI X g o y := by
  have hq := fun i => (hX.cell (p := ⟨g, i, none⟩) hg).trans (hW.cell (p := ⟨g, i, none⟩) hg).symm
  exact ⟨(hq _).trans h.c0, (hq _).trans h.c1, (hq _).trans h.c2⟩
theorem AkI.next {W W' : World} {g o : Nat} {y : AskM} (h : AkI W g o y) (hg : g < W.heap.size) (hb : Below W.heap.size W W') : AkI W' g o y := ⟨(hb.cell (p := ⟨g, _, none⟩) hg).trans h.c0, (hb.cell (p := ⟨g, _, none⟩) hg).trans h.c1, (hb.cell (p := ⟨g, _, none⟩) hg).trans h.c2⟩
/-- What each question is told is not below its least. -/
def Hold (lk : List AskM) (s : Stp) (l : List Mk) (ls : List Stp) : Prop := ∀ (k : Nat) (x : AskM) (y : Stp), lk[k]? = some x → ls[k]? = some y → less (atF (atP x.k x.nd x.nu) s l) y = false
theorem Hold.mono {lk : List AskM} {s s2 : Stp} {l l2 : List Mk} {ls : List Stp} (h : Hold lk s l ls) (hm : ∀ p, less (atF p s2 l2) (atF p s l) = false) : Hold lk s2 l2 ls := fun k x y hx hy => nlt_trans (h k x y hx hy) (hm _)
theorem Hold.set {lk : List AskM} {s : Stp} {l : List Mk} {ls : List Stp} (h : Hold lk s l ls) (k : Nat) (y : Stp) (hy : ∀ x, lk[k]? = some x → less (atF (atP x.k x.nd x.nu) s l) y = false) : Hold lk s l (ls.set k y) := fun j x z hx hz => by
  rw [List.getElem?_set] at hz
  split at hz
  · rename_i e; subst e
    split at hz
    · injection hz with hz; subst hz; exact hy x hx
    · cases hz
  · exact h j x z hx hz
/-- What a call has made of the cache. -/
structure Dn (pk : Int) (OK : Bool) (m : Mk) (G s s2 : Stp) (l l2 : List Mk) : Prop where
  mono : ∀ p, less (atF p s2 l2) (atF p s l) = false
  un : under (if OK then maxS G m.a else G) s2 l2
  ra : OK = true → pk = 1 → ∀ p, less (atF p s2 l2) m.a = false
  rd : OK = true → pk = 0 → ∀ p, sEmp m.f m.t = false → p m = true → less (atF p s2 l2) m.a = false
theorem dn_read {m : Mk} {G s : Stp} {l : List Mk} (h : under G s l) : Dn 0 (decide (chk m.a = 0)) m G s (rdS s l m) l (rdL s l m) := by
  refine ⟨fun p => rd_mono p s l m, ?_, fun _ h => (by cases h), fun hc _ p he hp => hold_read p s l m (of_decide_eq_true hc) he hp⟩
  have := rd_under h m
  unfold grS at this
  by_cases hc : chk m.a = 0
  · rw [if_pos hc] at this; rw [decide_eq_true hc]; exact this
  · rw [if_neg hc] at this; rw [decide_eq_false hc]; exact this
theorem dn_raise {m : Mk} {G s : Stp} {l : List Mk} (h : under G s l) : Dn 1 (decide (chk m.a = 0)) m G s (raS s m.a) l (raL s l m.a) := by
  refine ⟨fun p => ra_mono p s l m.a, ?_, fun hc _ p => hold_raise p s l m.a (of_decide_eq_true hc), fun _ h => (by cases h)⟩
  have := ra_under h m.a
  unfold grS at this
  by_cases hc : chk m.a = 0
  · rw [if_pos hc] at this; rw [decide_eq_true hc]; exact this
  · rw [if_neg hc] at this; rw [decide_eq_false hc]; exact this
set_option maxHeartbeats 12800000 in
theorem cacheHolds_walk (w : World) (low : Stp) (Aa : Option Addr) (nl ca : Nat) (la : List ActM) (hla : la.length = nl) (hin : ∀ x ∈ la, -9223372036854775808 ≤ x.k ∧ x.k ≤ 9223372036854775807) (hra : Rd w w.heap.size Aa (la.map amCells).flatten)
    (Ak : Option Addr) (nk ck : Nat) (lk : List AskM) (hlk : lk.length = nk) (hrk : Rd w w.heap.size Ak (lk.map akCells).flatten) :
    Calls Try.prog 3 #[.agg #[.int .i64 low.wall, .int .i32 low.logic, .int .i32 low.tag], .slice Aa nl ca, .slice Ak nk ck] w fun e w' => e = .returned (.bool true) ∧ Below w.heap.size w w' := by
  have HRA := Lib.hid (fun W (h : Below w.heap.size w W) => hra.below h)
  have HRK := Lib.hid (fun W (h : Below w.heap.size w W) => hrk.below h)
  have HLA := Lib.hid hla; have HLK := Lib.hid hlk; have HIN := Lib.hid hin
  clear hra hrk hla hlk hin
  go_enter Try.func3, Try.ntmps3
  go_wp2_with fail
  refine (lives26_any _).mono ?_
  rintro e w1 ⟨rfl, hb⟩
  have S1 := Lib.hid ((spb_new w low 23).next hb)
  have B1 : Hid (Below w.heap.size w w1) := Lib.hid (((Below.refl _ _).alloc (Nat.le_refl _) _).trans (hb.mono (by simp)))
  have hw1 : w.heap.size ≤ w1.heap.size := B1.out.size
  clear hb
  obtain ⟨z0, z1, z2, z3⟩ := S1.out
  by_cases hc : chk low = 0
  rotate_left
  · have HN1 := Lib.hid (cnew_no low hc)
    generalize chk low = E at *
    have e1 : (E == 0) = false := by simpa using hc
    go_wp2_with fail
    refine (HN1.out w1).mono ?_
    rintro e w2 ⟨rfl, hb2⟩
    have B2 := Lib.hid (B1.out.trans (hb2.mono B1.out.size))
    clear hb2 z0 z1 z2 z3 S1 B1 HN1
    go_wp2_with fail
    go_ret
    exact ⟨rfl, B2.out⟩
  go_wp2_with fail
  refine (cnew_ok low hc w1).mono ?_
  rintro e w2 ⟨b, rfl, hC, hb2⟩
  have S2 := Lib.hid (S1.out.next hb2)
  have B2 := Lib.hid (B1.out.trans (hb2.mono B1.out.size))
  have C2 := Lib.hid hC
  clear hC hb2 z0 z1 z2 z3 S1 B1
  by_cases h1 : nl ≤ 1300
  rotate_left
  · have i1 : (1300 : Int) < (nl : Int) := by omega
    go_wp2_with fail
    go_ret
    exact ⟨rfl, B2.out⟩
  have i1 : ¬ ((1300 : Int) < (nl : Int)) := by omega
  by_cases h2 : nk ≤ 10
  rotate_left
  · have i2 : (10 : Int) < (nk : Int) := by omega
    go_wp2_with fail
    go_ret
    exact ⟨rfl, B2.out⟩
  have i2 : ¬ ((10 : Int) < (nk : Int)) := by omega
  have hmk := fun W => mk_stamps nk (by omega) W
  obtain ⟨z0, z1, z2, z3⟩ := S2.out
  have hpl : w.heap.size < w2.heap.size := z0
  go_upto_region 8 with (fail)
  have H0 : Hid (HoS w ((w2.alloc (.cells (madeCells #[.int .i64 0, .int .i32 0, .int .i32 0] (nk * 3)) 23)).alloc (.cells #[.int .i64 low.wall, .int .i32 low.logic, .int .i32 low.tag] 23)) w1.heap.size (w2.heap.size + 1) w2.heap.size b nk (.slice none 0 0) low [] low (List.replicate nk ⟨0, 0, 0⟩)) := by
    have b1 : Below w2.heap.size w2 (w2.alloc (.cells (madeCells #[.int .i64 0, .int .i32 0, .int .i32 0] (nk * 3)) 23)) := (Below.refl _ _).alloc (Nat.le_refl _) _
    have b2 : Below (w2.alloc (.cells (madeCells #[.int .i64 0, .int .i32 0, .int .i32 0] (nk * 3)) 23)).heap.size (w2.alloc (.cells (madeCells #[.int .i64 0, .int .i32 0, .int .i32 0] (nk * 3)) 23)) ((w2.alloc (.cells (madeCells #[.int .i64 0, .int .i32 0, .int .i32 0] (nk * 3)) 23)).alloc (.cells #[.int .i64 low.wall, .int .i32 low.logic, .int .i32 low.tag] 23)) := (Below.refl _ _).alloc (Nat.le_refl _) _
    have sp := spb_new (w2.alloc (.cells (madeCells #[.int .i64 0, .int .i32 0, .int .i32 0] (nk * 3)) 23)) low 23
    rw [World.size_alloc] at sp
    have hbl := C2.out.lt
    have hbo := C2.out.lo
    exact Lib.hid ⟨(B2.out.trans (b1.mono B2.out.size)).trans (b2.mono (Nat.le_trans B2.out.size b1.size)), hw1, by omega, (C2.out.next b1).next b2, by simp, sp, fun o => World.frozen?_alloc_at _ _ _ _ (by simp), (own_keep (made_row w2 nk (by omega)) b2 (Nat.le_refl _)).mono (by omega), by omega, by omega, by omega, by simp [Value.ownBlock], by simp [Value.ownBlock]⟩
  have U0 : Hid (under low low []) := Lib.hid ⟨less_irrefl _, by simp⟩
  have L0 : Hid (Hold lk low [] (List.replicate nk ⟨0, 0, 0⟩)) := Lib.hid (fun k x y _ hy => by
    rw [List.getElem?_replicate] at hy
    split at hy
    · injection hy with hy; subst hy; exact low_zero hc
    · cases hy)
  generalize hw3 : (w2.alloc (.cells (madeCells #[.int .i64 0, .int .i32 0, .int .i32 0] (nk * 3)) 23)).alloc (.cells #[.int .i64 low.wall, .int .i32 low.logic, .int .i32 low.tag] 23) = w3 at *
  obtain ⟨gl, hgl⟩ : ∃ g, g = w2.heap.size := ⟨_, rfl⟩
  rw [← hgl] at H0 ⊢
  obtain ⟨pg, hpg⟩ : ∃ g, g = gl + 1 := ⟨_, rfl⟩
  rw [← hpg] at H0 ⊢
  clear hw3 hgl hpg hmk z0 z1 z2 z3 S2 B2 C2 hpl i1 i2
  go_wp2_with fail
  go_loopw [11] (fun i wr => ∃ (j : Nat) (v : Value) (s : Stp) (l : List Mk) (G : Stp) (ls : List Stp), j ≤ nl ∧ i = .int .i64 j ∧ Hid (HoS w wr w1.heap.size pg gl b nk v s l G ls) ∧ Hid (under G s l) ∧ Hid (Hold lk s l ls)) (fun i _ => nl - (intOf i).toNat)
  case atStart => exact ⟨0, _, _, _, _, _, Nat.zero_le _, rfl, H0, U0, L0⟩
  case round =>
    obtain ⟨j, v, s, l, G, ls, hj, rfl, H, U, L⟩ := hrel
    clear H0 U0 L0
    by_cases hlt : j < nl
    · skip
      have hjl : j < la.length := by rw [HLA.out]; exact hlt
      have hik := HIN.out la[j] (List.getElem_mem hjl)
      obtain ⟨g, off, rfl, hgB, M⟩ := am_at (HRA.out wr H.out.bel) j la[j] (List.getElem?_eq_getElem hjl)
      generalize la[j] = x at *
      have c0 := M 0 _ rfl; have c1 := M 1 _ rfl; have c2 := M 2 _ rfl; have c3 := M 3 _ rfl; have c4 := M 4 _ rfl; have c5 := M 5 _ rfl; have c6 := M 6 _ rfl; have c7 := M 7 _ rfl
      simp only [Nat.add_zero] at c0
      have i1 : (j : Int) < (nl : Int) := by omega
      have i0 : (0 : Int) ≤ (j : Int) := by omega
      clear M
      go_upto_region 12 with (fail)
      have hba : Below wr.heap.size wr (wr.alloc (.cells #[.int .i64 x.k, .string x.m.f, .string x.m.t, .int .i64 x.m.a.wall, .int .i32 x.m.a.logic, .int .i32 x.m.a.tag, .int .i32 x.m.nd, .int .i32 x.m.nu] 37)) := (Below.refl _ _).alloc (Nat.le_refl _) _
      have A1 := Lib.hid (amb_new wr x 37)
      have H1 := Lib.hid (H.out.next hba)
      have kb : b < wr.heap.size := H.out.c.lt
      have kv : ∀ k, v.ownBlock = some k → k < wr.heap.size := fun k e => (H.out.c.own.lt k e).2
      have kg : pg < wr.heap.size := H.out.g.lt
      have kl : gl < wr.heap.size := H.out.gl_lt
      clear c0 c1 c2 c3 c4 c5 c6 c7 hba H
      generalize hwa : wr.alloc (.cells #[.int .i64 x.k, .string x.m.f, .string x.m.t, .int .i64 x.m.a.wall, .int .i32 x.m.a.logic, .int .i32 x.m.a.tag, .int .i32 x.m.nd, .int .i32 x.m.nu] 37) = wa at *
      generalize hkk : wr.heap.size = kk at *
      clear hwa hkk
      obtain ⟨s0, s1, s2, s3, s4, s5, s6, s7, s8⟩ := A1.out
      have HPK := Lib.hid (fun X => pick_any x.k 2 (by omega) (by omega) hik X)
      have hmod : x.k % 2 = 0 ∨ x.k % 2 = 1 := by omega
      generalize x.k % 2 = pk at *
      clear hik
      go_upto_if 73 with (refine (HPK.out _).mono ?_; rintro e w' ⟨rfl, rfl⟩)
      go_cut [13] from 74 to 87 (fun s13 wc => ∃ (OK : Bool) (v2 : Value) (st2 : Stp) (l2 : List Mk), s13 = .bool OK ∧ Hid (HoS w wc w1.heap.size pg gl b nk v2 st2 l2 G ls) ∧ Hid (AmB wc kk x) ∧ Hid (Dn pk OK x.m G s st2 l l2))
      case first =>
        rcases hmod with rfl | rfl
        · skip
          have hp := cread_gen H1.out.c H1.out.len x.m
          have hd := dn_read (m := x.m) U.out
          by_cases hc : chk x.m.a = 0
          · rw [hc] at hp
            rw [decide_eq_true hc] at hd
            have HP := Lib.hid hp; have HD := Lib.hid hd
            clear hp hd
            go_wp2_with fail
            refine HP.out.mono ?_
            rintro e w5 ⟨rfl, hr⟩
            obtain ⟨v2, h2⟩ := H1.out.op hr (rd_len _ _ _ H1.out.len)
            have H2 := Lib.hid h2
            have A2 := Lib.hid (A1.out.fr hr.1 (by omega) (fun e => by have := kv kk e; omega))
            clear hr h2 HP s0 s1 s2 s3 s4 s5 s6 s7 s8
            go_wp2_with fail
            go_meet
            case rel => exact ⟨true, v2, _, _, rfl, H2, A2, HD⟩
          · have hne : (chk x.m.a == 0) = false := by simpa using hc
            rw [decide_eq_false hc] at hd
            generalize chk x.m.a = E at *
            have HP := Lib.hid hp; have HD := Lib.hid hd
            clear hp hd
            go_wp2_with fail
            refine HP.out.mono ?_
            rintro e w5 ⟨rfl, hr⟩
            obtain ⟨v2, h2⟩ := H1.out.op hr (rd_len _ _ _ H1.out.len)
            have H2 := Lib.hid h2
            have A2 := Lib.hid (A1.out.fr hr.1 (by omega) (fun e => by have := kv kk e; omega))
            clear hr h2 HP s0 s1 s2 s3 s4 s5 s6 s7 s8
            go_wp2_with fail
            go_meet
            case rel => exact ⟨false, v2, _, _, rfl, H2, A2, HD⟩
        · skip
          have hp := craise_gen H1.out.c x.m.a
          have hd := dn_raise (m := x.m) U.out
          by_cases hc : chk x.m.a = 0
          · rw [hc] at hp
            rw [decide_eq_true hc] at hd
            have HP := Lib.hid hp; have HD := Lib.hid hd
            clear hp hd
            go_wp2_with fail
            refine HP.out.mono ?_
            rintro e w5 ⟨rfl, hr⟩
            obtain ⟨v2, h2⟩ := H1.out.op hr (ra_len _ _ _ H1.out.len)
            have H2 := Lib.hid h2
            have A2 := Lib.hid (A1.out.fr hr.1 (by omega) (fun e => by have := kv kk e; omega))
            clear hr h2 HP s0 s1 s2 s3 s4 s5 s6 s7 s8
            go_wp2_with fail
            go_meet
            case rel => exact ⟨true, v2, _, _, rfl, H2, A2, HD⟩
          · have hne : (chk x.m.a == 0) = false := by simpa using hc
            rw [decide_eq_false hc] at hd
            generalize chk x.m.a = E at *
            have HP := Lib.hid hp; have HD := Lib.hid hd
            clear hp hd
            go_wp2_with fail
            refine HP.out.mono ?_
            rintro e w5 ⟨rfl, hr⟩
            obtain ⟨v2, h2⟩ := H1.out.op hr (ra_len _ _ _ H1.out.len)
            have H2 := Lib.hid h2
            have A2 := Lib.hid (A1.out.fr hr.1 (by omega) (fun e => by have := kv kk e; omega))
            clear hr h2 HP s0 s1 s2 s3 s4 s5 s6 s7 s8
            go_wp2_with fail
            go_meet
            case rel => exact ⟨false, v2, _, _, rfl, H2, A2, HD⟩
      case rest =>
        obtain ⟨OK, v2, st2, l2, rfl, H2, A2, D2⟩ := hcut
        obtain ⟨w5, rfl⟩ : ∃ x, x = wc := ⟨_, rfl⟩
        have L2 := Lib.hid (L.out.mono D2.out.mono)
        clear H1 A1 U L s0 s1 s2 s3 s4 s5 s6 s7 s8 kv
        go_upto_if 88 with (fail)
        go_cut [13] from 89 to 92 (fun s13 wc => s13 = .bool OK ∧ Hid (HoS w wc w1.heap.size pg gl b nk v2 st2 l2 (if OK then maxS G x.m.a else G) ls) ∧ Hid (AmB wc kk x))
        case first =>
          cases OK
          · go_wp2_with fail
            go_meet
            case rel => exact ⟨rfl, H2, A2⟩
          · have HM := Lib.hid (fun X => rmax_any G x.m.a X)
            generalize maxS G x.m.a = G2 at *
            obtain ⟨s0, s1, s2, s3, s4, s5, s6, s7, s8⟩ := A2.out
            obtain ⟨t0, t1, t2, t3⟩ := H2.out.g
            go_wp2_with fail
            refine (HM.out _).mono ?_
            rintro e w6 ⟨rfl, hb⟩
            have H3 := Lib.hid (H2.out.next hb)
            have A3 := Lib.hid (A2.out.next hb)
            clear hb s0 s1 s2 s3 s4 s5 s6 s7 s8 t0 t1 t2 t3 H2 A2 HM
            obtain ⟨t0, t1, t2, t3⟩ := H3.out.g
            have tf := H3.out.gf
            have H4 := Lib.hid (H3.out.putG G2)
            have A4 := Lib.hid (A3.out.gr (grA w6 pg G2) (by omega))
            unfold setA at H4 A4
            go_wp2_with fail
            go_meet
            case rel => exact ⟨rfl, H4, A4⟩
        case rest =>
          obtain ⟨rfl, H3, A3⟩ := hcut
          obtain ⟨w6, rfl⟩ : ∃ x, x = wc := ⟨_, rfl⟩
          have U3 := Lib.hid D2.out.un
          generalize (if OK then maxS G x.m.a else G) = G2 at *
          clear H2 A2
          go_wp2_with fail
          go_loopw [14] (fun i wr => ∃ (k : Nat) (ls : List Stp), k ≤ nk ∧ i = .int .i64 k ∧ Hid (HoS w wr w1.heap.size pg gl b nk v2 st2 l2 G2 ls) ∧ Hid (AmB wr kk x) ∧ Hid (Hold lk st2 l2 ls)) (fun i _ => nk - (intOf i).toNat)
          case atStart => exact ⟨0, ls, Nat.zero_le _, rfl, H3, A3, L2⟩
          case round =>
            obtain ⟨k, ls, hk, rfl, H, A, L⟩ := hrel
            clear H3 A3 L2
            by_cases hlk : k < nk
            · skip
              have hkl : k < lk.length := by rw [HLK.out]; exact hlk
              have hyl : k < ls.length := by rw [H.out.rl]; exact hlk
              obtain ⟨y, hy⟩ : ∃ y, lk[k]? = some y := ⟨_, List.getElem?_eq_getElem hkl⟩
              obtain ⟨cur, hcu⟩ : ∃ c, ls[k]? = some c := ⟨_, List.getElem?_eq_getElem hyl⟩
              have HCU := Lib.hid hcu
              obtain ⟨g, off, rfl, hgB, M⟩ := ak_at (HRK.out wr H.out.bel) k y hy
              have hst := fun (z : Stp) (hz : less (atF (atP y.k y.nd y.nu) st2 l2) z = false) => L.out.set k z (fun x hx => by
                rw [hy] at hx
                injection hx with hx; subst hx; exact hz)
              have hcur := L.out k y cur hy hcu
              have HAT := Lib.hid (fun X (h : Below wr.heap.size wr X) => cat_any (H.out.c.next h) y.k y.nd y.nu)
              have hun := under_at U3.out (atP y.k y.nd y.nu)
              have hdr := fun (h1 : OK = true) (h2 : pk = 1) => D2.out.ra h1 h2 (atP y.k y.nd y.nu)
              have hdd := fun (h1 : OK = true) (h2 : pk = 0) (h3 : sEmp x.m.f x.m.t = false) (h4 : atP y.k y.nd y.nu x.m = true) => D2.out.rd h1 h2 (atP y.k y.nd y.nu) h3 h4
              have hby := fun (h1 : sHas x.m.f x.m.t y.k = true) (h2 : (!sameT x.m.nd x.m.nu y.nd y.nu || sameT x.m.nd x.m.nu 0 0) = true) => by_atP h1 h2
              obtain ⟨now, hnow⟩ : ∃ n, n = atF (atP y.k y.nd y.nu) st2 l2 := ⟨_, rfl⟩
              rw [← hnow] at hst hcur HAT hun hdr hdd
              have HNW := Lib.hid hnow
              clear hy hcu HAT hnow
              have HAK : Hid (∀ X, Below w.heap.size w X → AkI X g (off + k * 3) y) := Lib.hid (fun X h => M.keep hgB H.out.bel h)
              obtain ⟨c0, c1, c2⟩ := M
              have HST := Lib.hid hst; have HUN := Lib.hid hun; have HCR := Lib.hid hcur
              obtain ⟨s0, s1, s2, s3, s4, s5, s6, s7, s8⟩ := A.out
              have k1 : (k : Int) < (nk : Int) := by omega
              have k0 : (0 : Int) ≤ (k : Int) := by omega
              have hgw : g < wr.heap.size := by have := H.out.bel.size; omega
              -- the condition
              have hC : ∃ C : Bool, C = (OK && ((pk == 1) || (sHas x.m.f x.m.t y.k && !sEmp x.m.f x.m.t && (!sameT x.m.nd x.m.nu y.nd y.nu || sameT x.m.nd x.m.nu 0 0)))) := ⟨_, rfl⟩
              obtain ⟨C, hC⟩ := hC
              have hCn : C = true → less now x.m.a = false := by
                intro h
                rw [hC] at h
                simp only [Bool.and_eq_true, Bool.or_eq_true, beq_iff_eq] at h
                obtain ⟨h1, h2⟩ := h
                rcases h2 with h2 | ⟨⟨h2, h3⟩, h4⟩
                · exact hdr h1 h2
                · rcases hmod with e | e
                  · exact hdd h1 e (by simpa using h3) (hby h2 (by simpa using h4))
                  · exact hdr h1 e
              have HCN := Lib.hid hCn
              have hHas := fun X => rhas21_any x.m.f x.m.t y.k X
              have hEmp := fun X => rempty_any x.m.f x.m.t X
              have hne := fun X => ne_txn x.m.nd x.m.nu y.nd y.nu X
              have heq := fun X => eq_txn x.m.nd x.m.nu 0 0 X
              clear hst hun hcur hdr hdd hby hCn
              generalize sHas x.m.f x.m.t y.k = HB at *
              generalize sEmp x.m.f x.m.t = EB at *
              generalize sameT x.m.nd x.m.nu y.nd y.nu = DB at *
              generalize sameT x.m.nd x.m.nu 0 0 = ZB at *
              generalize hra : (pk == 1) = RB at *
              have HHas := Lib.hid hHas; have HEmp := Lib.hid hEmp; have HC := Lib.hid hC
              clear hHas hEmp hC
              go_upto_region 22 with (refine (HPK.out _).mono ?_; rintro e w' ⟨rfl, rfl⟩)
              go_cut [138] from 103 to 137 (fun s wc => s = .bool C ∧ Hid (Below wr.heap.size wr wc))
              case first =>
                cases OK
                · skip
                  refine wp_qall (by kernel_rfl) (by kernel_rfl) ?_
                  intro hcg
                  repeat (first | go_big_quiet_step ((with_reducible (first | exact Calls.reg (HHas.out _) | exact Calls.reg (HEmp.out _)))) | quiet_step ((with_reducible (first | exact Calls.reg (HHas.out _) | exact Calls.reg (HEmp.out _)))))
                  refine wpQuiet_nil ?_
                  intro wq hbwq hcwq hfwq
                  clear hcg
                  have Q := Lib.hid hbwq
                  have hCv := HC.out
                  simp at hCv
                  subst hCv
                  go_wp2_with fail
                  go_meet
                  case rel => exact ⟨rfl, Q⟩
                · skip
                  cases RB
                  · skip
                    cases HB
                    · skip
                      refine wp_qall (by kernel_rfl) (by kernel_rfl) ?_
                      intro hcg
                      repeat (first | go_big_quiet_step ((with_reducible (first | exact Calls.reg (HHas.out _) | exact Calls.reg (HEmp.out _)))) | quiet_step ((with_reducible (first | exact Calls.reg (HHas.out _) | exact Calls.reg (HEmp.out _)))))
                      refine wpQuiet_nil ?_
                      intro wq hbwq hcwq hfwq
                      clear hcg
                      have Q := Lib.hid hbwq
                      have hCv := HC.out
                      simp at hCv
                      subst hCv
                      go_wp2_with fail
                      go_meet
                      case rel => exact ⟨rfl, Q⟩
                    · skip
                      cases EB
                      · skip
                        cases DB
                        · skip
                          refine wp_qall (by kernel_rfl) (by kernel_rfl) ?_
                          intro hcg
                          repeat (first | go_big_quiet_step ((with_reducible (first | exact Calls.reg (HHas.out _) | exact Calls.reg (HEmp.out _)))) | quiet_step ((with_reducible (first | exact Calls.reg (HHas.out _) | exact Calls.reg (HEmp.out _)))))
                          refine wpQuiet_nil ?_
                          intro wq hbwq hcwq hfwq
                          clear hcg
                          have Q := Lib.hid hbwq
                          have hCv := HC.out
                          simp at hCv
                          subst hCv
                          go_wp2_with fail
                          go_meet
                          case rel => exact ⟨rfl, Q⟩
                        · skip
                          cases ZB
                          · skip
                            refine wp_qall (by kernel_rfl) (by kernel_rfl) ?_
                            intro hcg
                            repeat (first | go_big_quiet_step ((with_reducible (first | exact Calls.reg (HHas.out _) | exact Calls.reg (HEmp.out _)))) | quiet_step ((with_reducible (first | exact Calls.reg (HHas.out _) | exact Calls.reg (HEmp.out _)))))
                            refine wpQuiet_nil ?_
                            intro wq hbwq hcwq hfwq
                            clear hcg
                            have Q := Lib.hid hbwq
                            have hCv := HC.out
                            simp at hCv
                            subst hCv
                            go_wp2_with fail
                            go_meet
                            case rel => exact ⟨rfl, Q⟩
                          · skip
                            refine wp_qall (by kernel_rfl) (by kernel_rfl) ?_
                            intro hcg
                            repeat (first | go_big_quiet_step ((with_reducible (first | exact Calls.reg (HHas.out _) | exact Calls.reg (HEmp.out _)))) | quiet_step ((with_reducible (first | exact Calls.reg (HHas.out _) | exact Calls.reg (HEmp.out _)))))
                            refine wpQuiet_nil ?_
                            intro wq hbwq hcwq hfwq
                            clear hcg
                            have Q := Lib.hid hbwq
                            have hCv := HC.out
                            simp at hCv
                            subst hCv
                            go_wp2_with fail
                            go_meet
                            case rel => exact ⟨rfl, Q⟩
                      · skip
                        refine wp_qall (by kernel_rfl) (by kernel_rfl) ?_
                        intro hcg
                        repeat (first | go_big_quiet_step ((with_reducible (first | exact Calls.reg (HHas.out _) | exact Calls.reg (HEmp.out _)))) | quiet_step ((with_reducible (first | exact Calls.reg (HHas.out _) | exact Calls.reg (HEmp.out _)))))
                        refine wpQuiet_nil ?_
                        intro wq hbwq hcwq hfwq
                        clear hcg
                        have Q := Lib.hid hbwq
                        have hCv := HC.out
                        simp at hCv
                        subst hCv
                        go_wp2_with fail
                        go_meet
                        case rel => exact ⟨rfl, Q⟩
                  · skip
                    refine wp_qall (by kernel_rfl) (by kernel_rfl) ?_
                    intro hcg
                    repeat (first | go_big_quiet_step ((with_reducible (first | exact Calls.reg (HHas.out _) | exact Calls.reg (HEmp.out _)))) | quiet_step ((with_reducible (first | exact Calls.reg (HHas.out _) | exact Calls.reg (HEmp.out _)))))
                    refine wpQuiet_nil ?_
                    intro wq hbwq hcwq hfwq
                    clear hcg
                    have Q := Lib.hid hbwq
                    have hCv := HC.out
                    simp at hCv
                    subst hCv
                    go_wp2_with fail
                    go_meet
                    case rel => exact ⟨rfl, Q⟩
              case rest =>
                obtain ⟨rfl, Q7⟩ := hcut
                obtain ⟨w7, rfl⟩ : ∃ x, x = wc := ⟨_, rfl⟩
                have H7 := Lib.hid (H.out.next Q7.out)
                have A7 := Lib.hid (A.out.next Q7.out)
                clear c0 c1 c2 s0 s1 s2 s3 s4 s5 s6 s7 s8 hne heq HHas HEmp HC H A Q7 hgw
                go_upto_if 138 with (fail)
                go_cut [14] from 139 to 148 (fun s14 wc => s14 = .int .i64 k ∧ ∃ cur2 : Stp, Hid (HoS w wc w1.heap.size pg gl b nk v2 st2 l2 G2 (ls.set k cur2)) ∧ Hid (AmB wc kk x) ∧ Hid (less now cur2 = false))
                case first =>
                  cases C
                  · have hs : ls.set k cur = ls := by
                      have := HCU.out
                      apply List.ext_getElem?
                      intro i
                      rw [List.getElem?_set]
                      split
                      · rename_i e; subst e; exact this.symm
                      · rfl
                    have H8 : Hid (HoS w w7 w1.heap.size pg gl b nk v2 st2 l2 G2 (ls.set k cur)) := Lib.hid (by rw [hs]; exact H7.out)
                    clear hs
                    go_wp2_with fail
                    go_meet
                    case rel => exact ⟨rfl, cur, H8, A7, HCR⟩
                  · have HM := Lib.hid (fun X => rmax_any cur x.m.a X)
                    have hle := max_le HCR.out (HCN.out rfl)
                    generalize maxS cur x.m.a = cur2 at *
                    have HLE := Lib.hid hle
                    clear hle
                    obtain ⟨s0, s1, s2, s3, s4, s5, s6, s7, s8⟩ := A7.out
                    obtain ⟨d0, d1, d2⟩ := own_st H7.out.row k cur HCU.out
                    have ygl := H7.out.gl_lt
                    go_upto_region 23 with (fail)
                    refine wp_qtail 9 (by kernel_rfl) (by kernel_rfl) ?_
                    intro hcg
                    simp only [List.take_succ_cons, List.take_zero, List.drop_succ_cons, List.drop_zero]
                    repeat (first | go_big_quiet_step ((with_reducible (first | exact Calls.reg (HM.out _)))) | quiet_step ((with_reducible (first | exact Calls.reg (HM.out _)))))
                    refine wpQuiet_nil ?_
                    intro w8 hbw8 hcw8 hfw8
                    clear hcg
                    have H8 := Lib.hid (H7.out.next hbw8)
                    have A8 := Lib.hid (A7.out.next hbw8)
                    clear s0 s1 s2 s3 s4 s5 s6 s7 s8 d0 d1 d2 hbw8 hcw8 hfw8 H7 A7 HM ygl
                    obtain ⟨d0, d1, d2⟩ := own_st H8.out.row k cur HCU.out
                    have df := H8.out.row.frozenAt
                    have H9 := Lib.hid (H8.out.putL k cur2 hlk)
                    have A9 := Lib.hid (A8.out.gr (own_putT H8.out.row k cur2 hyl).2 (by omega))
                    unfold setT at H9 A9
                    go_wp2_with fail
                    go_meet
                    case rel => exact ⟨rfl, cur2, H9, A9, HLE⟩
                case rest =>
                  obtain ⟨rfl, cur2, H8, A8, HLE⟩ := hcut
                  obtain ⟨w8, rfl⟩ : ∃ x, x = wc := ⟨_, rfl⟩
                  have hgw : g < w8.heap.size := by have := H8.out.bel.size; omega
                  obtain ⟨c0, c1, c2⟩ := HAK.out w8 H8.out.bel
                  have hat8 := fun X (h : Below w8.heap.size w8 X) => cat_any (H8.out.c.next h) y.k y.nd y.nu
                  rw [← HNW.out] at hat8
                  have HAT := Lib.hid hat8
                  have HST2 := HST.out now (less_irrefl now)
                  have HSTA := Lib.hid HST2
                  have HSTB := Lib.hid (HST.out cur2 HLE.out)
                  clear hat8 HST2 HCR HCN H7 A7
                  go_upto_region 24 with (fail)
                  go_cut [158] from 149 to 157 (fun s wc => ∃ C2 : Bool, s = .bool C2 ∧ wc = w8)
                  case first =>
                    go_wp2_with fail
                    all_goals (go_meet; case rel => exact ⟨_, rfl, rfl⟩)
                  case rest =>
                    obtain ⟨C2, rfl, rfl⟩ := hcut
                    cases C2
                    · go_wp2_with fail
                      exact ⟨⟨k + 1, ls.set k cur2, by omega, by go_num, H8, A8, HSTB⟩, by simp [intOf]; omega⟩
                    · skip
                      go_upto_region 25 with (fail)
                      go_cut [16] from 159 to 170 (fun s16 wx => ∃ nb : Nat, s16 = .pointer (some ⟨nb, 0, none⟩) ∧ Hid (SpB wx nb now) ∧ Hid (Below wc.heap.size wc wx) ∧ wc.heap.size ≤ nb)
                      case first =>
                        refine wp_heldall (S := fun X => AkI X g (off + k * 3) y) 14 (by kernel_rfl) rfl (AkI.next ⟨c0, c1, c2⟩ hgw (Below.drew (Below.refl _ _))) (fun hHeld => ?_)
                        refine takeL (i := 0) (v := ?_) rfl (by kernel_rfl) (by kernel_rfl) (by kernel_rfl) (fun _ _ _ h => h) ⟨by rfl, ?_⟩ (by assumption) ?_
                        rotate_left
                        · intro W9 hSw
                          (try dsimp only at hSw)
                          go_simp
                          try with_reducible rfl
                        (try simp only [Act.put, List.setIfInBounds_toArray, List.set_cons_zero, List.set_cons_succ])
                        refine takeL (i := 1) (v := ?_) rfl (by kernel_rfl) (by kernel_rfl) (by kernel_rfl) (fun _ _ _ h => h) ⟨by rfl, ?_⟩ (by assumption) ?_
                        rotate_left
                        · intro W9 hSw
                          (try dsimp only at hSw)
                          go_simp
                          try with_reducible rfl
                        (try simp only [Act.put, List.setIfInBounds_toArray, List.set_cons_zero, List.set_cons_succ])
                        refine takeL (i := 2) (v := ?_) rfl (by kernel_rfl) (by kernel_rfl) (by kernel_rfl) (fun _ _ _ h => h) ⟨by rfl, ?_⟩ (by assumption) ?_
                        rotate_left
                        · intro W9 hSw
                          (try dsimp only at hSw)
                          go_simp
                          try with_reducible rfl
                        (try simp only [Act.put, List.setIfInBounds_toArray, List.set_cons_zero, List.set_cons_succ])
                        refine takeL (i := 3) (v := ?_) rfl (by kernel_rfl) (by kernel_rfl) (by kernel_rfl) (fun _ _ _ h => h) ⟨by rfl, ?_⟩ (by assumption) ?_
                        rotate_left
                        · intro W9 hSw
                          (try dsimp only at hSw)
                          go_simp
                          try with_reducible rfl
                        (try simp only [Act.put, List.setIfInBounds_toArray, List.set_cons_zero, List.set_cons_succ])
                        refine takeL (i := 4) (v := ?_) rfl (by kernel_rfl) (by kernel_rfl) (by kernel_rfl) (fun _ _ _ h => h) ⟨by rfl, ?_⟩ (by assumption) ?_
                        rotate_left
                        · intro W9 hSw
                          (try dsimp only at hSw)
                          go_simp
                          try with_reducible rfl
                        (try simp only [Act.put, List.setIfInBounds_toArray, List.set_cons_zero, List.set_cons_succ])
                        refine takeL (i := 5) (v := ?_) rfl (by kernel_rfl) (by kernel_rfl) (by kernel_rfl) (fun _ _ _ h => h) ⟨by rfl, ?_⟩ (by assumption) ?_
                        rotate_left
                        · intro W9 hSw
                          (try dsimp only at hSw)
                          obtain ⟨q0, q1, q2⟩ := hSw
                          go_simp
                          try with_reducible rfl
                        (try simp only [Act.put, List.setIfInBounds_toArray, List.set_cons_zero, List.set_cons_succ])
                        refine takeL (i := 6) (v := ?_) rfl (by kernel_rfl) (by kernel_rfl) (by kernel_rfl) (fun _ _ _ h => h) ⟨by rfl, ?_⟩ (by assumption) ?_
                        rotate_left
                        · intro W9 hSw
                          (try dsimp only at hSw)
                          go_simp
                          try with_reducible rfl
                        (try simp only [Act.put, List.setIfInBounds_toArray, List.set_cons_zero, List.set_cons_succ])
                        refine takeL (i := 7) (v := ?_) rfl (by kernel_rfl) (by kernel_rfl) (by kernel_rfl) (fun _ _ _ h => h) ⟨by rfl, ?_⟩ (by assumption) ?_
                        rotate_left
                        · intro W9 hSw
                          (try dsimp only at hSw)
                          go_simp
                          try with_reducible rfl
                        (try simp only [Act.put, List.setIfInBounds_toArray, List.set_cons_zero, List.set_cons_succ])
                        refine takeL (i := 8) (v := ?_) rfl (by kernel_rfl) (by kernel_rfl) (by kernel_rfl) (fun _ _ _ h => h) ⟨by rfl, ?_⟩ (by assumption) ?_
                        rotate_left
                        · intro W9 hSw
                          (try dsimp only at hSw)
                          go_simp
                          try with_reducible rfl
                        (try simp only [Act.put, List.setIfInBounds_toArray, List.set_cons_zero, List.set_cons_succ])
                        refine takeL (i := 9) (v := ?_) rfl (by kernel_rfl) (by kernel_rfl) (by kernel_rfl) (fun _ _ _ h => h) ⟨by rfl, ?_⟩ (by assumption) ?_
                        rotate_left
                        · intro W9 hSw
                          (try dsimp only at hSw)
                          go_simp
                          try with_reducible rfl
                        (try simp only [Act.put, List.setIfInBounds_toArray, List.set_cons_zero, List.set_cons_succ])
                        refine takeL (i := 10) (v := ?_) rfl (by kernel_rfl) (by kernel_rfl) (by kernel_rfl) (fun _ _ _ h => h) ⟨by rfl, ?_⟩ (by assumption) ?_
                        rotate_left
                        · intro W9 hSw
                          (try dsimp only at hSw)
                          obtain ⟨q0, q1, q2⟩ := hSw
                          go_simp
                          try with_reducible rfl
                        (try simp only [Act.put, List.setIfInBounds_toArray, List.set_cons_zero, List.set_cons_succ])
                        have kX : Below wc.heap.size wc wc.drew := Below.drew (Below.refl _ _)
                        have hX := hHeld
                        clear hHeld
                        generalize wc.drew = X at *
                        refine wpAnyH_ready (rs := [11, 12]) (by kernel_rfl) (by simp) ?_
                        refine consL rfl (by rfl) (fun K hK => ?_) ?_
                        · skip
                          go_simp
                          go_at_call 15
                          refine (HAT.out X kX).mono ?_
                          rintro e X2 ⟨rfl, hb⟩
                          have hgX : g < X.heap.size := Nat.lt_of_lt_of_le hgw kX.size
                          refine hK.out _ _ (hX.next hgX hb) (fun hX' => ?_)
                          have k2 := kX.trans (hb.mono kX.size)
                          clear hb
                          clear hK K hX kX hgX
                          obtain ⟨hX, kX⟩ : AkI X2 g (off + k * 3) y ∧ Below wc.heap.size wc X2 := ⟨hX', k2⟩
                          clear hX' k2
                          clear X
                          obtain ⟨X, rfl⟩ : ∃ x, x = X2 := ⟨_, rfl⟩
                          refine wpAnyH_ready (rs := [12]) (by kernel_rfl) (by simp) ?_
                          refine consL rfl (by rfl) (fun K hK => ?_) ?_
                          · skip
                            go_simp
                            have hb : Below X.heap.size X (X.alloc (.cells #[.int .i64 0, .int .i32 0, .int .i32 0] 23)) := (Below.refl _ _).alloc (Nat.le_refl _) _
                            have hgX : g < X.heap.size := Nat.lt_of_lt_of_le hgw kX.size
                            refine hK.out _ _ (hX.next hgX hb) (fun hX' => ?_)
                            have k2 := kX.trans (hb.mono kX.size)
                            have sp0 := spb_new X ⟨0, 0, 0⟩ 23
                            have fz0 : ∀ o, (X.alloc (.cells #[.int .i64 0, .int .i32 0, .int .i32 0] 23)).frozen? ⟨X.heap.size, o, none⟩ = false := fun o => World.frozen?_alloc_at _ _ _ _ rfl
                            have nbl : wc.heap.size ≤ X.heap.size := kX.size
                            clear hb
                            generalize hX9 : X.alloc (.cells #[.int .i64 0, .int .i32 0, .int .i32 0] 23) = X2 at *
                            obtain ⟨nb, hnb⟩ : ∃ n, n = X.heap.size := ⟨_, rfl⟩
                            rw [← hnb] at sp0 fz0 nbl ⊢
                            clear hX9
                            clear hK K hX kX hgX
                            obtain ⟨hX, kX⟩ : AkI X2 g (off + k * 3) y ∧ Below wc.heap.size wc X2 := ⟨hX', k2⟩
                            clear hX' k2
                            clear hnb X
                            refine wpAnyH_ready (rs := [13]) (by kernel_rfl) (by simp) ?_
                            refine consL rfl (by rfl) (fun K hK => ?_) ?_
                            · obtain ⟨q3, q0, q1, q2⟩ := sp0
                              go_simp
                              have hgn : g < nb := by omega
                              obtain ⟨r0, r1, r2⟩ := setA_own X2 nb now q0 q1 q2
                              have hsp : Hid (SpB (setA X2 nb now) nb now) := Lib.hid ⟨by rw [setA_size]; exact q3, r0, r1, r2⟩
                              have hbe : Hid (Below wc.heap.size wc (setA X2 nb now)) := by
                                unfold setA
                                exact Lib.hid (((kX.setCell nbl _).setCell nbl _).setCell nbl _)
                              have hfa := fun o => setA_far X2 nb now ⟨g, o, none⟩ (by show g ≠ nb; omega)
                              refine hK.out _ (setA X2 nb now) ⟨(hfa _).trans hX.c0, (hfa _).trans hX.c1, (hfa _).trans hX.c2⟩ (fun hX' => ?_)
                              clear hK K hX hX' kX fz0 hfa q0 q1 q2 q3 r0 r1 r2
                              refine wpAnyH_done (by kernel_rfl) ?_ _
                              go_wp2_with fail
                              go_meet
                              case rel => exact ⟨nb, rfl, hsp, hbe, nbl⟩
                            exact AllReadyH.nil
                          exact AllReadyH.nil
                        refine consL rfl (by rfl) (fun K hK => ?_) ?_
                        · skip
                          go_simp
                          have hb : Below X.heap.size X (X.alloc (.cells #[.int .i64 0, .int .i32 0, .int .i32 0] 23)) := (Below.refl _ _).alloc (Nat.le_refl _) _
                          have hgX : g < X.heap.size := Nat.lt_of_lt_of_le hgw kX.size
                          refine hK.out _ _ (hX.next hgX hb) (fun hX' => ?_)
                          have k2 := kX.trans (hb.mono kX.size)
                          have sp0 := spb_new X ⟨0, 0, 0⟩ 23
                          have fz0 : ∀ o, (X.alloc (.cells #[.int .i64 0, .int .i32 0, .int .i32 0] 23)).frozen? ⟨X.heap.size, o, none⟩ = false := fun o => World.frozen?_alloc_at _ _ _ _ rfl
                          have nbl : wc.heap.size ≤ X.heap.size := kX.size
                          clear hb
                          generalize hX9 : X.alloc (.cells #[.int .i64 0, .int .i32 0, .int .i32 0] 23) = X2 at *
                          obtain ⟨nb, hnb⟩ : ∃ n, n = X.heap.size := ⟨_, rfl⟩
                          rw [← hnb] at sp0 fz0 nbl ⊢
                          clear hX9
                          clear hK K hX kX hgX
                          obtain ⟨hX, kX⟩ : AkI X2 g (off + k * 3) y ∧ Below wc.heap.size wc X2 := ⟨hX', k2⟩
                          clear hX' k2
                          clear hnb X
                          obtain ⟨X, rfl⟩ : ∃ x, x = X2 := ⟨_, rfl⟩
                          refine wpAnyH_ready (rs := [11]) (by kernel_rfl) (by simp) ?_
                          refine consL rfl (by rfl) (fun K hK => ?_) ?_
                          · skip
                            go_simp
                            go_at_call 15
                            refine (HAT.out X kX).mono ?_
                            rintro e X2 ⟨rfl, hb⟩
                            have hgX : g < X.heap.size := Nat.lt_of_lt_of_le hgw kX.size
                            refine hK.out _ _ (hX.next hgX hb) (fun hX' => ?_)
                            have k2 := kX.trans (hb.mono kX.size)
                            replace fz0 := fun o => (hb.frozen (p := ⟨nb, o, none⟩) sp0.lt).trans (fz0 o)
                            replace sp0 := sp0.next hb
                            clear hb
                            clear hK K hX kX hgX
                            obtain ⟨hX, kX⟩ : AkI X2 g (off + k * 3) y ∧ Below wc.heap.size wc X2 := ⟨hX', k2⟩
                            clear hX' k2
                            clear X
                            refine wpAnyH_ready (rs := [13]) (by kernel_rfl) (by simp) ?_
                            refine consL rfl (by rfl) (fun K hK => ?_) ?_
                            · obtain ⟨q3, q0, q1, q2⟩ := sp0
                              go_simp
                              have hgn : g < nb := by omega
                              obtain ⟨r0, r1, r2⟩ := setA_own X2 nb now q0 q1 q2
                              have hsp : Hid (SpB (setA X2 nb now) nb now) := Lib.hid ⟨by rw [setA_size]; exact q3, r0, r1, r2⟩
                              have hbe : Hid (Below wc.heap.size wc (setA X2 nb now)) := by
                                unfold setA
                                exact Lib.hid (((kX.setCell nbl _).setCell nbl _).setCell nbl _)
                              have hfa := fun o => setA_far X2 nb now ⟨g, o, none⟩ (by show g ≠ nb; omega)
                              refine hK.out _ (setA X2 nb now) ⟨(hfa _).trans hX.c0, (hfa _).trans hX.c1, (hfa _).trans hX.c2⟩ (fun hX' => ?_)
                              clear hK K hX hX' kX fz0 hfa q0 q1 q2 q3 r0 r1 r2
                              refine wpAnyH_done (by kernel_rfl) ?_ _
                              go_wp2_with fail
                              go_meet
                              case rel => exact ⟨nb, rfl, hsp, hbe, nbl⟩
                            exact AllReadyH.nil
                          exact AllReadyH.nil
                        exact AllReadyH.nil
                      case rest =>
                        obtain ⟨nb, rfl, SP, QB, nbl⟩ := hcut
                        obtain ⟨w9, rfl⟩ : ∃ x, x = wc := ⟨_, rfl⟩
                        have H9 := Lib.hid (H8.out.next QB.out)
                        have A9 := Lib.hid (A8.out.next QB.out)
                        have hgn2 : gl < nb := by have := H8.out.gl_lt; omega
                        have hpn2 : pg < nb := by have := H8.out.g.lt; omega
                        have hkn2 : kk < nb := by have := A8.out.lt; omega
                        clear H8 A8 c0 c1 c2 HAT
                        have hcu2 : (ls.set k cur2)[k]? = some cur2 := by rw [List.getElem?_set_self hyl]
                        obtain ⟨d0, d1, d2⟩ := own_st H9.out.row k cur2 hcu2
                        obtain ⟨t0, t1, t2, t3⟩ := SP.out
                        obtain ⟨g0, g1, g2, g3⟩ := H9.out.g
                        have ygl := H9.out.gl_lt
                        have hl1 := fun X => rless_any now cur2 X
                        have hl2 := fun X => rless_any G2 now X
                        rw [HLE.out] at hl1
                        rw [HUN.out] at hl2
                        have HL1 := Lib.hid hl1; have HL2 := Lib.hid hl2
                        clear hl1 hl2
                        go_upto_region 26 with (fail)
                        refine wp_qall (by kernel_rfl) (by kernel_rfl) ?_
                        intro hcg
                        repeat (first | go_big_quiet_step ((with_reducible (first | exact Calls.reg (HL1.out _) | exact Calls.reg (HL2.out _)))) | quiet_step ((with_reducible (first | exact Calls.reg (HL1.out _) | exact Calls.reg (HL2.out _)))))
                        refine wpQuiet_nil ?_
                        intro w10 hbw10 hcw10 hfw10
                        clear hcg
                        have H10 := Lib.hid (H9.out.next hbw10)
                        have A10 := Lib.hid (A9.out.next hbw10)
                        have SP10 := Lib.hid (SP.out.next hbw10)
                        clear d0 d1 d2 t0 t1 t2 t3 g0 g1 g2 g3 ygl hbw10 hcw10 hfw10 H9 A9 SP HL1 HL2 QB
                        obtain ⟨d0, d1, d2⟩ := own_st H10.out.row k cur2 hcu2
                        obtain ⟨t0, t1, t2, t3⟩ := SP10.out
                        have df := H10.out.row.frozenAt
                        have h11 := H10.out.putL k now hlk
                        rw [List.set_set] at h11
                        have H11 := Lib.hid h11
                        have A11 := Lib.hid (A10.out.gr (own_putT H10.out.row k now (by rw [List.length_set]; exact hyl)).2 (by omega))
                        unfold setT at H11 A11
                        clear h11
                        go_wp2_with fail
                        exact ⟨⟨k + 1, ls.set k now, by omega, by go_num, H11, A11, HSTA⟩, by simp [intOf]; omega⟩
            · skip
              have hkn : k = nk := by omega
              subst hkn
              have i9 : ¬ ((k : Int) < (k : Int)) := by omega
              go_wp2_with fail
              exact ⟨⟨j + 1, v2, st2, l2, G2, ls, by omega, by go_num, H, U3, L⟩, by simp [intOf]; omega⟩
    · skip
      have hjn : j = nl := by omega
      subst hjn
      have i9 : ¬ ((j : Int) < (j : Int)) := by omega
      go_wp2_with fail
      refine (clen_any H.out.c).mono ?_
      rintro e w' ⟨rfl, rfl⟩
      have i8 : ((l.length : Nat) : Int) ≤ 1024 := by have := H.out.len; omega
      go_wp2_with fail
      go_ret
      exact ⟨ret_bool (by simp [i8]), H.out.bel⟩
end Go.Proofs.Ytnhobjjgpnbnmaa
