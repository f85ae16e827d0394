/- Walks: what a cache tells of a key. -/
import Derived.Test.YtnhobjjgpnbnmaaMc
import Derived.Deep.CutRange
namespace Go.Proofs.Ytnhobjjgpnbnmaa
open Go.RowKit Go.St
set_option linter.unusedVariables false
set_option linter.unusedSimpArgs false
set_option maxRecDepth 100000

/-- A mark's cells within its list. -/
structure MkI (W : World) (b o : Nat) (m : Mk) : Prop where
  c0 : W.cell? ⟨b, o, none⟩ = some (.string m.f)
  c1 : W.cell? ⟨b, o + 1, none⟩ = some (.string m.t)
  c2 : W.cell? ⟨b, o + 2, none⟩ = some (.int .i64 m.a.wall)
  c3 : W.cell? ⟨b, o + 3, none⟩ = some (.int .i32 m.a.logic)
  c4 : W.cell? ⟨b, o + 4, none⟩ = some (.int .i32 m.a.tag)
  c5 : W.cell? ⟨b, o + 5, none⟩ = some (.int .i32 m.nd)
  c6 : W.cell? ⟨b, o + 6, none⟩ = some (.int .i32 m.nu)
theorem MkI.keep {W W' : World} {b o : Nat} {m : Mk} (h : MkI W b o m) (hc : ∀ p : Addr, p.block = b → W'.cell? p = W.cell? p) : MkI W' b o m :=
  ⟨(hc _ rfl).trans h.c0, (hc _ rfl).trans h.c1, (hc _ rfl).trans h.c2, (hc _ rfl).trans h.c3, (hc _ rfl).trans h.c4, (hc _ rfl).trans h.c5, (hc _ rfl).trans h.c6⟩
theorem mk_at {w : World} {B : Nat} {A : Option Addr} {l : List Mk} (h : Rd w B A (mv l)) (j : Nat) (s : Mk) (hj : l[j]? = some s) :
    ∃ b off, A = some ⟨b, off, none⟩ ∧ b < B ∧ MkI w b (off + j * 7) s := by
  have hg : ∀ (i : Nat) (v : Value), (mkCells s)[i]? = some v → (mv l)[j * 7 + i]? = some v := fun i v hv => mv_get l j i s v hj hv
  obtain ⟨b, off, e, hb, h0⟩ := h.at_ (hg 0 _ rfl)
  subst e
  have hc : ∀ (i : Nat) (v : Value), (mkCells s)[i]? = some v → w.cell? ⟨b, off + j * 7 + i, none⟩ = some v := fun i v hv => by
    obtain ⟨b', off', e', _, h'⟩ := h.at_ (hg i _ hv)
    injection e' with e'
    injection e' with e1 e2
    subst e1 e2
    rw [Nat.add_assoc]
    exact h'
  exact ⟨b, off, rfl, hb, hc 0 _ rfl, hc 1 _ rfl, hc 2 _ rfl, hc 3 _ rfl, hc 4 _ rfl, hc 5 _ rfl, hc 6 _ rfl⟩
def sameT (a b c d : Int) : Bool := decide (a = c ∧ b = d)
def atP (k : ByteArray) (nd nu : Int) (m : Mk) : Bool := sHas m.f m.t k && (!sameT m.nd m.nu nd nu || sameT nd nu 0 0)
theorem eq_txn (a b c d : Int) (w : World) : (binOp .eql 35 (.agg #[.int .i32 a, .int .i32 b]) (.agg #[.int .i32 c, .int .i32 d])).run Try.prog w = .ok (.bool (sameT a b c d)) w := by
  by_cases h1 : a = c <;> by_cases h2 : b = d <;> simp [sameT, go_sem, h1, h2]
theorem ne_txn (a b c d : Int) (w : World) : (binOp .neq 35 (.agg #[.int .i32 a, .int .i32 b]) (.agg #[.int .i32 c, .int .i32 d])).run Try.prog w = .ok (.bool (!sameT a b c d)) w := by
  by_cases h1 : a = c <;> by_cases h2 : b = d <;> simp [sameT, go_sem, h1, h2]
theorem atF_take (p : Mk → Bool) (s : Stp) (l : List Mk) (j : Nat) (m : Mk) (h : l[j]? = some m) : atF p s (l.take (j + 1)) = if p m then maxS (atF p s (l.take j)) m.a else atF p s (l.take j) := by
  rw [List.take_add_one, h]
  exact atF_snoc p s _ m
/-- At's boxes: who asks, what is told, the greatest so far. -/
structure AtS (W wr : World) (p : Nat) (nd nu : Int) (acc : Stp) : Prop where
  bel : Below W.heap.size W wr
  lo : W.heap.size ≤ p
  lt : p + 2 < wr.heap.size
  x0 : wr.cell? ⟨p, 0, none⟩ = some (.int .i32 nd)
  x1 : wr.cell? ⟨p, 1, none⟩ = some (.int .i32 nu)
  r0 : wr.cell? ⟨p + 1, 0, none⟩ = some (.int .i64 0)
  r1 : wr.cell? ⟨p + 1, 1, none⟩ = some (.int .i32 0)
  r2 : wr.cell? ⟨p + 1, 2, none⟩ = some (.int .i32 0)
  rf : ∀ o, wr.frozen? ⟨p + 1, o, none⟩ = false
  a0 : wr.cell? ⟨p + 1 + 1, 0, none⟩ = some (.int .i64 acc.wall)
  a1 : wr.cell? ⟨p + 1 + 1, 1, none⟩ = some (.int .i32 acc.logic)
  a2 : wr.cell? ⟨p + 1 + 1, 2, none⟩ = some (.int .i32 acc.tag)
  af : ∀ o, wr.frozen? ⟨p + 1 + 1, o, none⟩ = false
theorem AtS.next {W wr wr' : World} {p : Nat} {nd nu : Int} {acc : Stp} (h : AtS W wr p nd nu acc) (hb : Below wr.heap.size wr wr') : AtS W wr' p nd nu acc := by
  have hl := h.lt
  have hc0 := fun o => hb.cell (p := ⟨p, o, none⟩) (by show p < _; omega)
  have hc1 := fun o => hb.cell (p := ⟨p + 1, o, none⟩) (by show p + 1 < _; omega)
  have hc2 := fun o => hb.cell (p := ⟨p + 1 + 1, o, none⟩) (by show p + 1 + 1 < _; omega)
  have hf1 := fun o => hb.frozen (p := ⟨p + 1, o, none⟩) (by show p + 1 < _; omega)
  have hf2 := fun o => hb.frozen (p := ⟨p + 1 + 1, o, none⟩) (by show p + 1 + 1 < _; omega)
  have hs := hb.size
  exact ⟨h.bel.trans (hb.mono h.bel.size), h.lo, by omega, (hc0 0).trans h.x0, (hc0 1).trans h.x1, (hc1 0).trans h.r0, (hc1 1).trans h.r1, (hc1 2).trans h.r2, fun o => (hf1 o).trans (h.rf o), (hc2 0).trans h.a0, (hc2 1).trans h.a1, (hc2 2).trans h.a2, fun o => (hf2 o).trans (h.af o)⟩
def setA (w : World) (p : Nat) (s : Stp) : World := ((w.setCell ⟨p, 0, none⟩ (.int .i64 s.wall)).setCell ⟨p, 1, none⟩ (.int .i32 s.logic)).setCell ⟨p, 2, none⟩ (.int .i32 s.tag)
theorem setA_far (w : World) (p : Nat) (s : Stp) (q : Addr) (h : q.block ≠ p) : (setA w p s).cell? q = w.cell? q := by
  unfold setA
  have hn : ∀ o, (⟨p, o, none⟩ : Addr) ≠ q := fun o e => h (congrArg Addr.block e).symm
  rw [World.cell?_setCell_other _ _ _ _ (hn 2), World.cell?_setCell_other _ _ _ _ (hn 1), World.cell?_setCell_other _ _ _ _ (hn 0)]
theorem setA_own (w : World) (p : Nat) (s : Stp) {x y z : Value} (h0 : w.cell? ⟨p, 0, none⟩ = some x) (h1 : w.cell? ⟨p, 1, none⟩ = some y) (h2 : w.cell? ⟨p, 2, none⟩ = some z) :
    (setA w p s).cell? ⟨p, 0, none⟩ = some (.int .i64 s.wall) ∧ (setA w p s).cell? ⟨p, 1, none⟩ = some (.int .i32 s.logic) ∧ (setA w p s).cell? ⟨p, 2, none⟩ = some (.int .i32 s.tag) := by
  have n01 : (⟨p, 0, none⟩ : Addr) ≠ ⟨p, 1, none⟩ := by simp
  have n02 : (⟨p, 0, none⟩ : Addr) ≠ ⟨p, 2, none⟩ := by simp
  have n12 : (⟨p, 1, none⟩ : Addr) ≠ ⟨p, 2, none⟩ := by simp
  unfold setA
  refine ⟨?_, ?_, ?_⟩
  · rw [World.cell?_setCell_other _ _ _ _ n02.symm, World.cell?_setCell_other _ _ _ _ n01.symm, World.cell?_setCell_same _ _ _ h0]
  · rw [World.cell?_setCell_other _ _ _ _ n12.symm]
    exact World.cell?_setCell_same _ _ _ ((World.cell?_setCell_other _ _ _ _ n01).trans h1)
  · exact World.cell?_setCell_same _ _ _ ((World.cell?_setCell_other _ _ _ _ n12).trans ((World.cell?_setCell_other _ _ _ _ n02).trans h2))
theorem setA_fz (w : World) (p : Nat) (s : Stp) (q : Addr) : (setA w p s).frozen? q = w.frozen? q := by
  unfold setA; simp
theorem setA_size (w : World) (p : Nat) (s : Stp) : (setA w p s).heap.size = w.heap.size := by
  unfold setA; simp [World.setCell]
theorem AtS.put {W wr : World} {p : Nat} {nd nu : Int} {acc : Stp} (h : AtS W wr p nd nu acc) (s : Stp) : AtS W (setA wr (p + 1 + 1) s) p nd nu s := by
  obtain ⟨h1, h2, h3, h4, h5, h6, h7, h8, h9, h10, h11, h12, h13⟩ := h
  obtain ⟨k0, k1, k2⟩ := setA_own wr (p + 1 + 1) s h10 h11 h12
  have f0 := fun o => setA_far wr (p + 1 + 1) s ⟨p, o, none⟩ (by show p ≠ _; omega)
  have f1 := fun o => setA_far wr (p + 1 + 1) s ⟨p + 1, o, none⟩ (by show p + 1 ≠ _; omega)
  refine ⟨?_, h2, by rw [setA_size]; exact h3, (f0 0).trans h4, (f0 1).trans h5, (f1 0).trans h6, (f1 1).trans h7, (f1 2).trans h8, fun o => (setA_fz ..).trans (h9 o), k0, k1, k2, fun o => (setA_fz ..).trans (h13 o)⟩
  unfold setA
  exact ((h1.setCell (by show _ ≤ p + 1 + 1; omega) _).setCell (by show _ ≤ p + 1 + 1; omega) _).setCell (by show _ ≤ p + 1 + 1; omega) _
set_option maxHeartbeats 3200000 in
theorem cat_any {W : World} {base b : Nat} {v : Value} {s : Stp} {l : List Mk} (h : CaB 63 W base b v s l) (k : ByteArray) (nd nu : Int) :
    Calls Try.prog 15 #[.pointer (some ⟨b, 0, none⟩), .string k, .agg #[.int .i32 nd, .int .i32 nu]] W fun e w' => e = .returned (.agg #[.int .i64 (atF (atP k nd nu) s l).wall, .int .i32 (atF (atP k nd nu) s l).logic, .int .i32 (atF (atP k nd nu) s l).tag]) ∧ Below W.heap.size W w' := by
  have HN := Lib.hid (fun X (k : Below W.heap.size W X) => cnone_any (h.next k))
  have HH := Lib.hid (fun X (k : Below W.heap.size W X) => h.next k)
  have hlen := h.len
  obtain ⟨A, c, rfl, hnc, hcm, hrd⟩ := h.row
  obtain ⟨RR, hRR⟩ : ∃ R, R = atF (atP k nd nu) s l := ⟨_, rfl⟩
  rw [← hRR]
  have HRR := Lib.hid hRR
  have HRD := Lib.hid (fun X (k : Below W.heap.size W X) => hrd.below k)
  obtain ⟨d1, d2, d3, d4⟩ := (⟨h.c1, h.c2, h.c3, h.c4⟩ : _ ∧ _ ∧ _ ∧ _)
  have hb0 := h.lt
  have hbn : b ≠ W.heap.size := by omega
  have hbn1 : b ≠ W.heap.size + 1 := by omega
  clear h hrd hRR
  generalize hn : l.length = n at *
  have HL := Lib.hid hn
  clear hn
  go_enter Try.func15, Try.ntmps15
  go_wp2_with fail
  refine (HN.out _ (by go_grown)).mono ?_
  rintro e w' ⟨rfl, rfl⟩
  clear HN
  go_upto_region 4 with (fail)
  have S0 : Hid (AtS W (((W.alloc (.cells #[.int .i32 nd, .int .i32 nu] 35)).alloc (.cells #[.int .i64 0, .int .i32 0, .int .i32 0] 23)).alloc (.cells #[.int .i64 s.wall, .int .i32 s.logic, .int .i32 s.tag] 23)) W.heap.size nd nu s) := by
    have e2 : ((W.alloc (.cells #[.int .i32 nd, .int .i32 nu] 35)).alloc (.cells #[.int .i64 0, .int .i32 0, .int .i32 0] 23)).heap.size = W.heap.size + 1 + 1 := by simp
    have q2 := fun i => World.cell?_alloc_mark ((W.alloc (.cells #[.int .i32 nd, .int .i32 nu] 35)).alloc (.cells #[.int .i64 0, .int .i32 0, .int .i32 0] 23)) #[.int .i64 s.wall, .int .i32 s.logic, .int .i32 s.tag] 23 (0, 0) i
    rw [e2] at q2
    have e1 : (W.alloc (.cells #[.int .i32 nd, .int .i32 nu] 35)).heap.size = W.heap.size + 1 := by simp
    have p1 := fun i => World.cell?_alloc_mark (W.alloc (.cells #[.int .i32 nd, .int .i32 nu] 35)) #[.int .i64 0, .int .i32 0, .int .i32 0] 23 (0, 0) i
    rw [e1] at p1
    have p0 := fun i => World.cell?_alloc_mark W #[.int .i32 nd, .int .i32 nu] 35 (0, 0) i
    have l1 : W.heap.size + 1 < ((W.alloc (.cells #[.int .i32 nd, .int .i32 nu] 35)).alloc (.cells #[.int .i64 0, .int .i32 0, .int .i32 0] 23)).heap.size := by simp
    have l0 : W.heap.size < ((W.alloc (.cells #[.int .i32 nd, .int .i32 nu] 35)).alloc (.cells #[.int .i64 0, .int .i32 0, .int .i32 0] 23)).heap.size := by simp; omega
    have l9 : W.heap.size < (W.alloc (.cells #[.int .i32 nd, .int .i32 nu] 35)).heap.size := by simp
    have q1 := fun i => (World.cell?_alloc_lt ((W.alloc (.cells #[.int .i32 nd, .int .i32 nu] 35)).alloc (.cells #[.int .i64 0, .int .i32 0, .int .i32 0] 23)) (.cells #[.int .i64 s.wall, .int .i32 s.logic, .int .i32 s.tag] 23) ⟨W.heap.size + 1, i, none⟩ l1).trans (p1 i)
    have q0 := fun i => (World.cell?_alloc_lt ((W.alloc (.cells #[.int .i32 nd, .int .i32 nu] 35)).alloc (.cells #[.int .i64 0, .int .i32 0, .int .i32 0] 23)) (.cells #[.int .i64 s.wall, .int .i32 s.logic, .int .i32 s.tag] 23) ⟨W.heap.size, i, none⟩ l0).trans ((World.cell?_alloc_lt (W.alloc (.cells #[.int .i32 nd, .int .i32 nu] 35)) (.cells #[.int .i64 0, .int .i32 0, .int .i32 0] 23) ⟨W.heap.size, i, none⟩ l9).trans (p0 i))
    have hbb : Below W.heap.size W (((W.alloc (.cells #[.int .i32 nd, .int .i32 nu] 35)).alloc (.cells #[.int .i64 0, .int .i32 0, .int .i32 0] 23)).alloc (.cells #[.int .i64 s.wall, .int .i32 s.logic, .int .i32 s.tag] 23)) := by go_grown
    have hsz : W.heap.size + 2 < (((W.alloc (.cells #[.int .i32 nd, .int .i32 nu] 35)).alloc (.cells #[.int .i64 0, .int .i32 0, .int .i32 0] 23)).alloc (.cells #[.int .i64 s.wall, .int .i32 s.logic, .int .i32 s.tag] 23)).heap.size := by simp
    have hf1 : ∀ o, (((W.alloc (.cells #[.int .i32 nd, .int .i32 nu] 35)).alloc (.cells #[.int .i64 0, .int .i32 0, .int .i32 0] 23)).alloc (.cells #[.int .i64 s.wall, .int .i32 s.logic, .int .i32 s.tag] 23)).frozen? ⟨W.heap.size + 1, o, none⟩ = false := fun o => by rw [frozen?_alloc_cells]; exact World.frozen?_alloc_at _ _ _ _ (by simp)
    have hf2 : ∀ o, (((W.alloc (.cells #[.int .i32 nd, .int .i32 nu] 35)).alloc (.cells #[.int .i64 0, .int .i32 0, .int .i32 0] 23)).alloc (.cells #[.int .i64 s.wall, .int .i32 s.logic, .int .i32 s.tag] 23)).frozen? ⟨W.heap.size + 1 + 1, o, none⟩ = false := fun o => World.frozen?_alloc_at _ _ _ _ (by simp)
    exact Lib.hid ⟨hbb, Nat.le_refl _, hsz, q0 0, q0 1, q1 0, q1 1, q1 2, hf1, q2 0, q2 1, q2 2, hf2⟩
  generalize hw3 : (((W.alloc (.cells #[.int .i32 nd, .int .i32 nu] 35)).alloc (.cells #[.int .i64 0, .int .i32 0, .int .i32 0] 23)).alloc (.cells #[.int .i64 s.wall, .int .i32 s.logic, .int .i32 s.tag] 23)) = W3 at *
  obtain ⟨p, hp⟩ : ∃ p, p = W.heap.size := ⟨_, rfl⟩
  rw [← hp]
  rw [← hp] at S0
  clear hw3 hp hbn hbn1 d1 d2 d3 d4
  have d4 := (HH.out W3 S0.out.bel).c4
  go_wp2_with fail
  go_loopw [22] (fun i wr => ∃ j : Nat, j ≤ n ∧ i = .int .i64 j ∧ Hid (AtS W wr p nd nu (atF (atP k nd nu) s (l.take j)))) (fun i _ => n - (intOf i).toNat)
  case atStart => exact ⟨0, Nat.zero_le _, rfl, S0⟩
  case round =>
    obtain ⟨j, hj, rfl, Q⟩ := hrel
    clear S0 d4
    have d4 := (HH.out wr Q.out.bel).c4
    by_cases hlt : j < n
    · skip
      have hjl : j < l.length := by rw [HL.out]; exact hlt
      have hst := atF_take (atP k nd nu) s l j l[j] (List.getElem?_eq_getElem hjl)
      obtain ⟨g, off, rfl, hgl, T⟩ := mk_at (HRD.out wr Q.out.bel) j l[j] (List.getElem?_eq_getElem hjl)
      generalize l[j] = m at *
      generalize atF (atP k nd nu) s (l.take j) = acc at *
      obtain ⟨c0, c1, c2, c3, c4, c5, c6⟩ := T
      have i1 : (j : Int) < (n : Int) := by omega
      have i0 : (0 : Int) ≤ (j : Int) := by omega
      go_upto_region 7 with (fail)
      have R2 : Hid (AtS W (wr.alloc (.cells #[.string m.f, .string m.t, .int .i64 m.a.wall, .int .i32 m.a.logic, .int .i32 m.a.tag, .int .i32 m.nd, .int .i32 m.nu] 63)) p nd nu acc) := Lib.hid (Q.out.next ((Below.refl _ _).alloc (Nat.le_refl _) _))
      have T2 : Hid (MkI (wr.alloc (.cells #[.string m.f, .string m.t, .int .i64 m.a.wall, .int .i32 m.a.logic, .int .i32 m.a.tag, .int .i32 m.nd, .int .i32 m.nu] 63)) wr.heap.size 0 m) := by
        have q := fun i => World.cell?_alloc_mark wr #[.string m.f, .string m.t, .int .i64 m.a.wall, .int .i32 m.a.logic, .int .i32 m.a.tag, .int .i32 m.nd, .int .i32 m.nu] 63 (0, 0) i
        exact Lib.hid ⟨q 0, q 1, q 2, q 3, q 4, q 5, q 6⟩
      have tl : wr.heap.size < (wr.alloc (.cells #[.string m.f, .string m.t, .int .i64 m.a.wall, .int .i32 m.a.logic, .int .i32 m.a.tag, .int .i32 m.nd, .int .i32 m.nu] 63)).heap.size := by simp
      clear c0 c1 c2 c3 c4 c5 c6 d4 Q
      generalize hw4 : wr.alloc (.cells #[.string m.f, .string m.t, .int .i64 m.a.wall, .int .i32 m.a.logic, .int .i32 m.a.tag, .int .i32 m.nd, .int .i32 m.nu] 63) = w4 at *
      obtain ⟨tb, htb⟩ : ∃ t, t = wr.heap.size := ⟨_, rfl⟩
      rw [← htb]
      rw [← htb] at T2 tl
      clear hw4 htb
      obtain ⟨c0, c1, c2, c3, c4, c5, c6⟩ := T2.out
      simp only [Nat.zero_add] at c1 c2 c3 c4 c5 c6
      have HA := Lib.hid (fun X => has21_any m.f m.t k X)
      have hne := fun X => ne_txn m.nd m.nu nd nu X
      have heq := fun X => eq_txn nd nu 0 0 X
      have hx0 := R2.out.x0; have hx1 := R2.out.x1
      have hp : atP k nd nu m = (sHas m.f m.t k && (!sameT m.nd m.nu nd nu || sameT nd nu 0 0)) := rfl
      rw [hp] at hst
      clear hp
      generalize hgh : sHas m.f m.t k = H at *
      generalize hgd : sameT m.nd m.nu nd nu = D at *
      generalize hgz : sameT nd nu 0 0 = Z at *
      clear hgh hgd hgz
      cases H
      · skip
        go_wp2_with fail
        refine (HA.out w4).mono ?_
        rintro e w5 ⟨rfl, hb⟩
        have R3 := Lib.hid (R2.out.next hb)
        have tl5 : tb < w5.heap.size := Nat.lt_of_lt_of_le tl hb.size
        have T3 : Hid (MkI w5 tb 0 m) := Lib.hid (T2.out.keep (fun q hq => hb.cell (by rw [hq]; exact tl)))
        clear hb R2 T2 c0 c1 c2 c3 c4 c5 c6 hx0 hx1 HA tl
        obtain ⟨c0, c1, c2, c3, c4, c5, c6⟩ := T3.out
        simp only [Nat.zero_add] at c1 c2 c3 c4 c5 c6
        have hx0 := R3.out.x0; have hx1 := R3.out.x1
        go_wp2_with fail
        clear c0 c1 c2 c3 c4 c5 c6 hx0 hx1
        simp only [Bool.false_and, Bool.true_and, Bool.not_true, Bool.not_false, Bool.or_self, Bool.or_false, Bool.false_or, Bool.true_or, Bool.false_eq_true, if_false, if_true] at hst
        exact ⟨⟨j + 1, by omega, by go_num, by rw [hst]; exact R3⟩, by simp [intOf]; omega⟩
      · skip
        go_wp2_with fail
        refine (HA.out w4).mono ?_
        rintro e w5 ⟨rfl, hb⟩
        have R3 := Lib.hid (R2.out.next hb)
        have tl5 : tb < w5.heap.size := Nat.lt_of_lt_of_le tl hb.size
        have T3 : Hid (MkI w5 tb 0 m) := Lib.hid (T2.out.keep (fun q hq => hb.cell (by rw [hq]; exact tl)))
        clear hb R2 T2 c0 c1 c2 c3 c4 c5 c6 hx0 hx1 HA tl
        obtain ⟨c0, c1, c2, c3, c4, c5, c6⟩ := T3.out
        simp only [Nat.zero_add] at c1 c2 c3 c4 c5 c6
        have hx0 := R3.out.x0; have hx1 := R3.out.x1
        cases D
        · skip
          go_upto_region 8 with (fail)
          simp only [Bool.false_and, Bool.true_and, Bool.not_true, Bool.not_false, Bool.or_self, Bool.or_false, Bool.false_or, Bool.true_or, Bool.false_eq_true, if_false, if_true] at hst
          clear hx0 hx1
          have ha0 := R3.out.a0; have ha1 := R3.out.a1; have ha2 := R3.out.a2
          have HM := Lib.hid (fun X => hmax_any acc m.a X)
          rw [← hst] at HM
          obtain ⟨acc2, hacc⟩ : ∃ x, x = atF (atP k nd nu) s (l.take (j + 1)) := ⟨_, rfl⟩
          rw [← hacc] at HM
          have HACC := Lib.hid hacc
          clear hst hacc
          go_wp2_with fail
          refine (HM.out _).mono ?_
          rintro e w6 ⟨rfl, hb⟩
          have R4 := Lib.hid (R3.out.next hb)
          clear hb c0 c1 c2 c3 c4 c5 c6 ha0 ha1 ha2 R3 T3 HM
          have ha0 := R4.out.a0; have ha1 := R4.out.a1; have ha2 := R4.out.a2
          have haf := R4.out.af
          have R5 := Lib.hid (R4.out.put acc2)
          unfold setA at R5
          go_wp2_with fail
          exact ⟨⟨j + 1, by omega, by go_num, by rw [← HACC.out]; exact R5⟩, by simp [intOf]; omega⟩
        · skip
          cases Z
          · skip
            go_wp2_with fail
            clear c0 c1 c2 c3 c4 c5 c6 hx0 hx1
            simp only [Bool.false_and, Bool.true_and, Bool.not_true, Bool.not_false, Bool.or_self, Bool.or_false, Bool.false_or, Bool.true_or, Bool.false_eq_true, if_false, if_true] at hst
            exact ⟨⟨j + 1, by omega, by go_num, by rw [hst]; exact R3⟩, by simp [intOf]; omega⟩
          · skip
            go_upto_region 8 with (fail)
            simp only [Bool.false_and, Bool.true_and, Bool.not_true, Bool.not_false, Bool.or_self, Bool.or_false, Bool.false_or, Bool.true_or, Bool.false_eq_true, if_false, if_true] at hst
            clear hx0 hx1
            have ha0 := R3.out.a0; have ha1 := R3.out.a1; have ha2 := R3.out.a2
            have HM := Lib.hid (fun X => hmax_any acc m.a X)
            rw [← hst] at HM
            obtain ⟨acc2, hacc⟩ : ∃ x, x = atF (atP k nd nu) s (l.take (j + 1)) := ⟨_, rfl⟩
            rw [← hacc] at HM
            have HACC := Lib.hid hacc
            clear hst hacc
            go_wp2_with fail
            refine (HM.out _).mono ?_
            rintro e w6 ⟨rfl, hb⟩
            have R4 := Lib.hid (R3.out.next hb)
            clear hb c0 c1 c2 c3 c4 c5 c6 ha0 ha1 ha2 R3 T3 HM
            have ha0 := R4.out.a0; have ha1 := R4.out.a1; have ha2 := R4.out.a2
            have haf := R4.out.af
            have R5 := Lib.hid (R4.out.put acc2)
            unfold setA at R5
            go_wp2_with fail
            exact ⟨⟨j + 1, by omega, by go_num, by rw [← HACC.out]; exact R5⟩, by simp [intOf]; omega⟩
    · skip
      have hjn : j = n := by omega
      subst hjn
      have hfin : l.take j = l := by rw [← HL.out]; exact List.take_length
      rw [hfin, ← HRR.out] at Q
      obtain ⟨acc, rfl⟩ : ∃ x, x = RR := ⟨_, rfl⟩
      obtain ⟨h1, h2, h3, h4, h5, h6, h7, h8, h9, h10, h11, h12, h13⟩ := Q.out
      have hbel := Lib.hid h1
      clear h1
      go_wp2_with fail
      refine bodyPost_ret (v := .agg #[.int .i64 acc.wall, .int .i32 acc.logic, .int .i32 acc.tag]) (by simp [results, Try.results15, go_sem, *]) rfl ⟨rfl, ?_⟩
      exact ((hbel.out.setCell (by show _ ≤ p + 1; omega) _).setCell (by show _ ≤ p + 1; omega) _).setCell (by show _ ≤ p + 1; omega) _
set_option maxHeartbeats 3200000 in
theorem rat_any {W : World} {base b : Nat} {v : Value} {s : Stp} {l : List Mk} (h : CaB 74 W base b v s l) (k : ByteArray) (nd nu : Int) :
    Calls Try.prog 40 #[.pointer (some ⟨b, 0, none⟩), .string k, .agg #[.int .i32 nd, .int .i32 nu]] W fun e w' => e = .returned (.agg #[.int .i64 (atF (atP k nd nu) s l).wall, .int .i32 (atF (atP k nd nu) s l).logic, .int .i32 (atF (atP k nd nu) s l).tag]) ∧ Below W.heap.size W w' := by
  have HN := Lib.hid (fun X (k : Below W.heap.size W X) => rnone_any (h.next k))
  have HH := Lib.hid (fun X (k : Below W.heap.size W X) => h.next k)
  have hlen := h.len
  obtain ⟨A, c, rfl, hnc, hcm, hrd⟩ := h.row
  obtain ⟨RR, hRR⟩ : ∃ R, R = atF (atP k nd nu) s l := ⟨_, rfl⟩
  rw [← hRR]
  have HRR := Lib.hid hRR
  have HRD := Lib.hid (fun X (k : Below W.heap.size W X) => hrd.below k)
  obtain ⟨d1, d2, d3, d4⟩ := (⟨h.c1, h.c2, h.c3, h.c4⟩ : _ ∧ _ ∧ _ ∧ _)
  have hb0 := h.lt
  have hbn : b ≠ W.heap.size := by omega
  have hbn1 : b ≠ W.heap.size + 1 := by omega
  clear h hrd hRR
  generalize hn : l.length = n at *
  have HL := Lib.hid hn
  clear hn
  go_enter Try.func40, Try.ntmps40
  go_wp2_with fail
  refine (HN.out _ (by go_grown)).mono ?_
  rintro e w' ⟨rfl, rfl⟩
  clear HN
  go_upto_region 4 with (fail)
  have S0 : Hid (AtS W (((W.alloc (.cells #[.int .i32 nd, .int .i32 nu] 35)).alloc (.cells #[.int .i64 0, .int .i32 0, .int .i32 0] 23)).alloc (.cells #[.int .i64 s.wall, .int .i32 s.logic, .int .i32 s.tag] 23)) W.heap.size nd nu s) := by
    have e2 : ((W.alloc (.cells #[.int .i32 nd, .int .i32 nu] 35)).alloc (.cells #[.int .i64 0, .int .i32 0, .int .i32 0] 23)).heap.size = W.heap.size + 1 + 1 := by simp
    have q2 := fun i => World.cell?_alloc_mark ((W.alloc (.cells #[.int .i32 nd, .int .i32 nu] 35)).alloc (.cells #[.int .i64 0, .int .i32 0, .int .i32 0] 23)) #[.int .i64 s.wall, .int .i32 s.logic, .int .i32 s.tag] 23 (0, 0) i
    rw [e2] at q2
    have e1 : (W.alloc (.cells #[.int .i32 nd, .int .i32 nu] 35)).heap.size = W.heap.size + 1 := by simp
    have p1 := fun i => World.cell?_alloc_mark (W.alloc (.cells #[.int .i32 nd, .int .i32 nu] 35)) #[.int .i64 0, .int .i32 0, .int .i32 0] 23 (0, 0) i
    rw [e1] at p1
    have p0 := fun i => World.cell?_alloc_mark W #[.int .i32 nd, .int .i32 nu] 35 (0, 0) i
    have l1 : W.heap.size + 1 < ((W.alloc (.cells #[.int .i32 nd, .int .i32 nu] 35)).alloc (.cells #[.int .i64 0, .int .i32 0, .int .i32 0] 23)).heap.size := by simp
    have l0 : W.heap.size < ((W.alloc (.cells #[.int .i32 nd, .int .i32 nu] 35)).alloc (.cells #[.int .i64 0, .int .i32 0, .int .i32 0] 23)).heap.size := by simp; omega
    have l9 : W.heap.size < (W.alloc (.cells #[.int .i32 nd, .int .i32 nu] 35)).heap.size := by simp
    have q1 := fun i => (World.cell?_alloc_lt ((W.alloc (.cells #[.int .i32 nd, .int .i32 nu] 35)).alloc (.cells #[.int .i64 0, .int .i32 0, .int .i32 0] 23)) (.cells #[.int .i64 s.wall, .int .i32 s.logic, .int .i32 s.tag] 23) ⟨W.heap.size + 1, i, none⟩ l1).trans (p1 i)
    have q0 := fun i => (World.cell?_alloc_lt ((W.alloc (.cells #[.int .i32 nd, .int .i32 nu] 35)).alloc (.cells #[.int .i64 0, .int .i32 0, .int .i32 0] 23)) (.cells #[.int .i64 s.wall, .int .i32 s.logic, .int .i32 s.tag] 23) ⟨W.heap.size, i, none⟩ l0).trans ((World.cell?_alloc_lt (W.alloc (.cells #[.int .i32 nd, .int .i32 nu] 35)) (.cells #[.int .i64 0, .int .i32 0, .int .i32 0] 23) ⟨W.heap.size, i, none⟩ l9).trans (p0 i))
    have hbb : Below W.heap.size W (((W.alloc (.cells #[.int .i32 nd, .int .i32 nu] 35)).alloc (.cells #[.int .i64 0, .int .i32 0, .int .i32 0] 23)).alloc (.cells #[.int .i64 s.wall, .int .i32 s.logic, .int .i32 s.tag] 23)) := by go_grown
    have hsz : W.heap.size + 2 < (((W.alloc (.cells #[.int .i32 nd, .int .i32 nu] 35)).alloc (.cells #[.int .i64 0, .int .i32 0, .int .i32 0] 23)).alloc (.cells #[.int .i64 s.wall, .int .i32 s.logic, .int .i32 s.tag] 23)).heap.size := by simp
    have hf1 : ∀ o, (((W.alloc (.cells #[.int .i32 nd, .int .i32 nu] 35)).alloc (.cells #[.int .i64 0, .int .i32 0, .int .i32 0] 23)).alloc (.cells #[.int .i64 s.wall, .int .i32 s.logic, .int .i32 s.tag] 23)).frozen? ⟨W.heap.size + 1, o, none⟩ = false := fun o => by rw [frozen?_alloc_cells]; exact World.frozen?_alloc_at _ _ _ _ (by simp)
    have hf2 : ∀ o, (((W.alloc (.cells #[.int .i32 nd, .int .i32 nu] 35)).alloc (.cells #[.int .i64 0, .int .i32 0, .int .i32 0] 23)).alloc (.cells #[.int .i64 s.wall, .int .i32 s.logic, .int .i32 s.tag] 23)).frozen? ⟨W.heap.size + 1 + 1, o, none⟩ = false := fun o => World.frozen?_alloc_at _ _ _ _ (by simp)
    exact Lib.hid ⟨hbb, Nat.le_refl _, hsz, q0 0, q0 1, q1 0, q1 1, q1 2, hf1, q2 0, q2 1, q2 2, hf2⟩
  generalize hw3 : (((W.alloc (.cells #[.int .i32 nd, .int .i32 nu] 35)).alloc (.cells #[.int .i64 0, .int .i32 0, .int .i32 0] 23)).alloc (.cells #[.int .i64 s.wall, .int .i32 s.logic, .int .i32 s.tag] 23)) = W3 at *
  obtain ⟨p, hp⟩ : ∃ p, p = W.heap.size := ⟨_, rfl⟩
  rw [← hp]
  rw [← hp] at S0
  clear hw3 hp hbn hbn1 d1 d2 d3 d4
  have d4 := (HH.out W3 S0.out.bel).c4
  go_wp2_with fail
  go_loopw [8] (fun i wr => ∃ j : Nat, j ≤ n ∧ i = .int .i64 j ∧ Hid (AtS W wr p nd nu (atF (atP k nd nu) s (l.take j)))) (fun i _ => n - (intOf i).toNat)
  case atStart => exact ⟨0, Nat.zero_le _, rfl, S0⟩
  case round =>
    obtain ⟨j, hj, rfl, Q⟩ := hrel
    clear S0 d4
    have d4 := (HH.out wr Q.out.bel).c4
    by_cases hlt : j < n
    · skip
      have hjl : j < l.length := by rw [HL.out]; exact hlt
      have hst := atF_take (atP k nd nu) s l j l[j] (List.getElem?_eq_getElem hjl)
      obtain ⟨g, off, rfl, hgl, T⟩ := mk_at (HRD.out wr Q.out.bel) j l[j] (List.getElem?_eq_getElem hjl)
      generalize l[j] = m at *
      generalize atF (atP k nd nu) s (l.take j) = acc at *
      obtain ⟨c0, c1, c2, c3, c4, c5, c6⟩ := T
      have i1 : (j : Int) < (n : Int) := by omega
      have i0 : (0 : Int) ≤ (j : Int) := by omega
      go_upto_region 8 with (fail)
      have R2 : Hid (AtS W (wr.alloc (.cells #[.string m.f, .string m.t, .int .i64 m.a.wall, .int .i32 m.a.logic, .int .i32 m.a.tag, .int .i32 m.nd, .int .i32 m.nu] 74)) p nd nu acc) := Lib.hid (Q.out.next ((Below.refl _ _).alloc (Nat.le_refl _) _))
      have T2 : Hid (MkI (wr.alloc (.cells #[.string m.f, .string m.t, .int .i64 m.a.wall, .int .i32 m.a.logic, .int .i32 m.a.tag, .int .i32 m.nd, .int .i32 m.nu] 74)) wr.heap.size 0 m) := by
        have q := fun i => World.cell?_alloc_mark wr #[.string m.f, .string m.t, .int .i64 m.a.wall, .int .i32 m.a.logic, .int .i32 m.a.tag, .int .i32 m.nd, .int .i32 m.nu] 74 (0, 0) i
        exact Lib.hid ⟨q 0, q 1, q 2, q 3, q 4, q 5, q 6⟩
      have tl : wr.heap.size < (wr.alloc (.cells #[.string m.f, .string m.t, .int .i64 m.a.wall, .int .i32 m.a.logic, .int .i32 m.a.tag, .int .i32 m.nd, .int .i32 m.nu] 74)).heap.size := by simp
      clear c0 c1 c2 c3 c4 c5 c6 d4 Q
      generalize hw4 : wr.alloc (.cells #[.string m.f, .string m.t, .int .i64 m.a.wall, .int .i32 m.a.logic, .int .i32 m.a.tag, .int .i32 m.nd, .int .i32 m.nu] 74) = w4 at *
      obtain ⟨tb, htb⟩ : ∃ t, t = wr.heap.size := ⟨_, rfl⟩
      rw [← htb]
      rw [← htb] at T2 tl
      clear hw4 htb
      obtain ⟨c0, c1, c2, c3, c4, c5, c6⟩ := T2.out
      simp only [Nat.zero_add] at c1 c2 c3 c4 c5 c6
      have HA := Lib.hid (fun X => rhas21_any m.f m.t k X)
      have hne := fun X => ne_txn m.nd m.nu nd nu X
      have heq := fun X => eq_txn nd nu 0 0 X
      have hx0 := R2.out.x0; have hx1 := R2.out.x1
      have hp : atP k nd nu m = (sHas m.f m.t k && (!sameT m.nd m.nu nd nu || sameT nd nu 0 0)) := rfl
      rw [hp] at hst
      clear hp
      generalize hgh : sHas m.f m.t k = H at *
      generalize hgd : sameT m.nd m.nu nd nu = D at *
      generalize hgz : sameT nd nu 0 0 = Z at *
      clear hgh hgd hgz
      cases H
      · skip
        go_wp2_with fail
        refine (HA.out w4).mono ?_
        rintro e w5 ⟨rfl, hb⟩
        have R3 := Lib.hid (R2.out.next hb)
        have tl5 : tb < w5.heap.size := Nat.lt_of_lt_of_le tl hb.size
        have T3 : Hid (MkI w5 tb 0 m) := Lib.hid (T2.out.keep (fun q hq => hb.cell (by rw [hq]; exact tl)))
        clear hb R2 T2 c0 c1 c2 c3 c4 c5 c6 hx0 hx1 HA tl
        obtain ⟨c0, c1, c2, c3, c4, c5, c6⟩ := T3.out
        simp only [Nat.zero_add] at c1 c2 c3 c4 c5 c6
        have hx0 := R3.out.x0; have hx1 := R3.out.x1
        go_wp2_with fail
        clear c0 c1 c2 c3 c4 c5 c6 hx0 hx1
        simp only [Bool.false_and, Bool.true_and, Bool.not_true, Bool.not_false, Bool.or_self, Bool.or_false, Bool.false_or, Bool.true_or, Bool.false_eq_true, if_false, if_true] at hst
        exact ⟨⟨j + 1, by omega, by go_num, by rw [hst]; exact R3⟩, by simp [intOf]; omega⟩
      · skip
        go_wp2_with fail
        refine (HA.out w4).mono ?_
        rintro e w5 ⟨rfl, hb⟩
        have R3 := Lib.hid (R2.out.next hb)
        have tl5 : tb < w5.heap.size := Nat.lt_of_lt_of_le tl hb.size
        have T3 : Hid (MkI w5 tb 0 m) := Lib.hid (T2.out.keep (fun q hq => hb.cell (by rw [hq]; exact tl)))
        clear hb R2 T2 c0 c1 c2 c3 c4 c5 c6 hx0 hx1 HA tl
        obtain ⟨c0, c1, c2, c3, c4, c5, c6⟩ := T3.out
        simp only [Nat.zero_add] at c1 c2 c3 c4 c5 c6
        have hx0 := R3.out.x0; have hx1 := R3.out.x1
        cases D
        · skip
          go_upto_region 9 with (fail)
          simp only [Bool.false_and, Bool.true_and, Bool.not_true, Bool.not_false, Bool.or_self, Bool.or_false, Bool.false_or, Bool.true_or, Bool.false_eq_true, if_false, if_true] at hst
          clear hx0 hx1
          have ha0 := R3.out.a0; have ha1 := R3.out.a1; have ha2 := R3.out.a2
          have HM := Lib.hid (fun X => rmax_any acc m.a X)
          rw [← hst] at HM
          obtain ⟨acc2, hacc⟩ : ∃ x, x = atF (atP k nd nu) s (l.take (j + 1)) := ⟨_, rfl⟩
          rw [← hacc] at HM
          have HACC := Lib.hid hacc
          clear hst hacc
          go_wp2_with fail
          refine (HM.out _).mono ?_
          rintro e w6 ⟨rfl, hb⟩
          have R4 := Lib.hid (R3.out.next hb)
          clear hb c0 c1 c2 c3 c4 c5 c6 ha0 ha1 ha2 R3 T3 HM
          have ha0 := R4.out.a0; have ha1 := R4.out.a1; have ha2 := R4.out.a2
          have haf := R4.out.af
          have R5 := Lib.hid (R4.out.put acc2)
          unfold setA at R5
          go_wp2_with fail
          exact ⟨⟨j + 1, by omega, by go_num, by rw [← HACC.out]; exact R5⟩, by simp [intOf]; omega⟩
        · skip
          cases Z
          · skip
            go_wp2_with fail
            clear c0 c1 c2 c3 c4 c5 c6 hx0 hx1
            simp only [Bool.false_and, Bool.true_and, Bool.not_true, Bool.not_false, Bool.or_self, Bool.or_false, Bool.false_or, Bool.true_or, Bool.false_eq_true, if_false, if_true] at hst
            exact ⟨⟨j + 1, by omega, by go_num, by rw [hst]; exact R3⟩, by simp [intOf]; omega⟩
          · skip
            go_upto_region 9 with (fail)
            simp only [Bool.false_and, Bool.true_and, Bool.not_true, Bool.not_false, Bool.or_self, Bool.or_false, Bool.false_or, Bool.true_or, Bool.false_eq_true, if_false, if_true] at hst
            clear hx0 hx1
            have ha0 := R3.out.a0; have ha1 := R3.out.a1; have ha2 := R3.out.a2
            have HM := Lib.hid (fun X => rmax_any acc m.a X)
            rw [← hst] at HM
            obtain ⟨acc2, hacc⟩ : ∃ x, x = atF (atP k nd nu) s (l.take (j + 1)) := ⟨_, rfl⟩
            rw [← hacc] at HM
            have HACC := Lib.hid hacc
            clear hst hacc
            go_wp2_with fail
            refine (HM.out _).mono ?_
            rintro e w6 ⟨rfl, hb⟩
            have R4 := Lib.hid (R3.out.next hb)
            clear hb c0 c1 c2 c3 c4 c5 c6 ha0 ha1 ha2 R3 T3 HM
            have ha0 := R4.out.a0; have ha1 := R4.out.a1; have ha2 := R4.out.a2
            have haf := R4.out.af
            have R5 := Lib.hid (R4.out.put acc2)
            unfold setA at R5
            go_wp2_with fail
            exact ⟨⟨j + 1, by omega, by go_num, by rw [← HACC.out]; exact R5⟩, by simp [intOf]; omega⟩
    · skip
      have hjn : j = n := by omega
      subst hjn
      have hfin : l.take j = l := by rw [← HL.out]; exact List.take_length
      rw [hfin, ← HRR.out] at Q
      obtain ⟨acc, rfl⟩ : ∃ x, x = RR := ⟨_, rfl⟩
      obtain ⟨h1, h2, h3, h4, h5, h6, h7, h8, h9, h10, h11, h12, h13⟩ := Q.out
      have hbel := Lib.hid h1
      clear h1
      go_wp2_with fail
      refine bodyPost_ret (v := .agg #[.int .i64 acc.wall, .int .i32 acc.logic, .int .i32 acc.tag]) (by simp [results, Try.results40, go_sem, *]) rfl ⟨rfl, ?_⟩
      exact ((hbel.out.setCell (by show _ ≤ p + 1; omega) _).setCell (by show _ ≤ p + 1; omega) _).setCell (by show _ ≤ p + 1; omega) _
end Go.Proofs.Ytnhobjjgpnbnmaa
