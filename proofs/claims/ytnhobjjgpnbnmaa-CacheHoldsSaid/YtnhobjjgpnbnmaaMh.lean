/- Walks: marks up to the low mark deleted in place. -/
import Derived.Test.YtnhobjjgpnbnmaaMd
import Derived.Test.YtnhobjjgpnbnmaaRow
import Derived.Test.YtnhobjjgpnbnmaaMut
namespace Go.Proofs.Ytnhobjjgpnbnmaa
open Go.RowKit Go.St
set_option linter.unusedVariables false
set_option linter.unusedSimpArgs false
set_option maxRecDepth 100000

/-- A mark stored into its row. -/
def setM (w : World) (g o : Nat) (m : Mk) : World :=
  ((((((w.setCell ⟨g, o, none⟩ (.string m.f)).setCell ⟨g, o + 1, none⟩ (.string m.t)).setCell ⟨g, o + 2, none⟩ (.int .i64 m.a.wall)).setCell ⟨g, o + 3, none⟩ (.int .i32 m.a.logic)).setCell ⟨g, o + 4, none⟩ (.int .i32 m.a.tag)).setCell ⟨g, o + 5, none⟩ (.int .i32 m.nd)).setCell ⟨g, o + 6, none⟩ (.int .i32 m.nu)
theorem sets_mv : ∀ (ys : List Mk) (i : Nat) (m : Mk), i < ys.length →
    ((((((((mv ys).set (i * 7) (.string m.f)).set (i * 7 + 1) (.string m.t)).set (i * 7 + 2) (.int .i64 m.a.wall)).set (i * 7 + 3) (.int .i32 m.a.logic)).set (i * 7 + 4) (.int .i32 m.a.tag)).set (i * 7 + 5) (.int .i32 m.nd)).set (i * 7 + 6) (.int .i32 m.nu)) = mv (ys.set i m)
  | [], i, m, h => by simp at h
  | y :: ys, 0, m, h => by simp [mv, mkCells]
  | y :: ys, i + 1, m, h => by
    have ih := sets_mv ys i m (by simpa using h)
    have e : (i + 1) * 7 = i * 7 + 7 := by omega
    have hm : ∀ (z : Mk) (zs : List Mk), mv (z :: zs) = .string z.f :: .string z.t :: .int .i64 z.a.wall :: .int .i32 z.a.logic :: .int .i32 z.a.tag :: .int .i32 z.nd :: .int .i32 z.nu :: mv zs := fun z zs => by simp [mv, mkCells]
    have e2 : (y :: ys).set (i + 1) m = y :: ys.set i m := rfl
    rw [e2, hm y (ys.set i m), ← ih, e, hm y ys]
    rw [show i * 7 + 7 + 1 = i * 7 + 1 + 7 by omega, show i * 7 + 7 + 2 = i * 7 + 2 + 7 by omega, show i * 7 + 7 + 3 = i * 7 + 3 + 7 by omega, show i * 7 + 7 + 4 = i * 7 + 4 + 7 by omega, show i * 7 + 7 + 5 = i * 7 + 5 + 7 by omega, show i * 7 + 7 + 6 = i * 7 + 6 + 7 by omega]
    simp only [List.set_cons_succ]
theorem own_putM {w : World} {base g n c : Nat} {E : TypeId} {ys : List Mk} (h : w.ownsRow base E 7 (.slice (some ⟨g, 0, none⟩) n c) n (mv ys)) (i : Nat) (m : Mk) (hi : i < ys.length) :
    (setM w g (i * 7) m).ownsRow base E 7 (.slice (some ⟨g, 0, none⟩) n c) n (mv (ys.set i m)) ∧ w.grownBy (setM w g (i * 7) m) (some g) := by
  have h1 := h.stored (i * 7) (.string m.f)
  have h2 := h1.1.stored (i * 7 + 1) (.string m.t)
  have h3 := h2.1.stored (i * 7 + 2) (.int .i64 m.a.wall)
  have h4 := h3.1.stored (i * 7 + 3) (.int .i32 m.a.logic)
  have h5 := h4.1.stored (i * 7 + 4) (.int .i32 m.a.tag)
  have h6 := h5.1.stored (i * 7 + 5) (.int .i32 m.nd)
  have h7 := h6.1.stored (i * 7 + 6) (.int .i32 m.nu)
  rw [sets_mv ys i m hi] at h7
  exact ⟨h7.1, (((((h1.2.trans h2.2).trans h3.2).trans h4.2).trans h5.2).trans h6.2).trans h7.2⟩
theorem own_mk {w : World} {base g n c : Nat} {E : TypeId} {ys : List Mk} (h : w.ownsRow base E 7 (.slice (some ⟨g, 0, none⟩) n c) n (mv ys)) (j : Nat) (m : Mk) (hj : ys[j]? = some m) : MkI w g (j * 7) m := by
  have hn : (mv ys).length = n * 7 := h.1
  have hc : ∀ (i : Nat) (u : Value), (mkCells m)[i]? = some u → w.cell? ⟨g, j * 7 + i, none⟩ = some u := fun i u hu => by
    have h1 := mv_get ys j i m u hj hu
    have h2 : j * 7 + i < n * 7 := by rw [← hn]; exact (List.getElem?_eq_some_iff.1 h1).1
    rw [h.cellAt _ h2]; exact h1
  exact ⟨hc 0 _ rfl, hc 1 _ rfl, hc 2 _ rfl, hc 3 _ rfl, hc 4 _ rfl, hc 5 _ rfl, hc 6 _ rfl⟩
theorem own_mkz {w : World} {base g n c : Nat} {E : TypeId} {ys : List Mk} (h : w.ownsRow base E 7 (.slice (some ⟨g, 0, none⟩) n c) n (mv ys)) (o : Nat) : w.frozen? ⟨g, o, none⟩ = false := h.frozenAt o
/-- What the closure reads: the cache that it was made for, its low mark. -/
structure ClS (W : World) (q b : Nat) (s : Stp) : Prop where
  lq : q < W.heap.size
  lb : b < W.heap.size
  p : W.cell? ⟨q, 0, none⟩ = some (.pointer (some ⟨b, 0, none⟩))
  c1 : W.cell? ⟨b, 1, none⟩ = some (.int .i64 s.wall)
  c2 : W.cell? ⟨b, 2, none⟩ = some (.int .i32 s.logic)
  c3 : W.cell? ⟨b, 3, none⟩ = some (.int .i32 s.tag)
theorem ClS.keep {W W' : World} {q b : Nat} {s : Stp} (h : ClS W q b s) (hs : W.heap.size ≤ W'.heap.size) (h1 : ∀ o, W'.cell? ⟨q, o, none⟩ = W.cell? ⟨q, o, none⟩) (h2 : ∀ o, W'.cell? ⟨b, o, none⟩ = W.cell? ⟨b, o, none⟩) : ClS W' q b s :=
  ⟨Nat.lt_of_lt_of_le h.lq hs, Nat.lt_of_lt_of_le h.lb hs, (h1 0).trans h.p, (h2 1).trans h.c1, (h2 2).trans h.c2, (h2 3).trans h.c3⟩
theorem ClS.next {W W' : World} {q b : Nat} {s : Stp} (h : ClS W q b s) (hb : Below W.heap.size W W') : ClS W' q b s :=
  h.keep hb.size (fun o => hb.cell (p := ⟨q, o, none⟩) h.lq) (fun o => hb.cell (p := ⟨b, o, none⟩) h.lb)
theorem ClS.only {W W' : World} {q b g : Nat} {s : Stp} (h : ClS W q b s) (hb : Only W.heap.size g W W') (h1 : q ≠ g) (h2 : b ≠ g) : ClS W' q b s :=
  h.keep hb.size (fun o => hb.cell (p := ⟨q, o, none⟩) h.lq h1) (fun o => hb.cell (p := ⟨b, o, none⟩) h.lb h2)
theorem cmp_le (a b : Stp) : decide (cmpS a b ≤ 0) = !less b a := by
  unfold cmpS
  cases h : less a b <;> cases k : less b a <;> simp
  have := less_asymm h
  rw [this] at k; cases k
theorem cclos_any {W : World} {q b : Nat} {s : Stp} (h : ClS W q b s) (m : Mk) :
    Calls Try.prog 36 #[mkV m, .pointer (some ⟨q, 0, none⟩)] W fun e w' => e = .returned (.bool (!less s m.a)) ∧ Below W.heap.size W w' := by
  have HC := Lib.hid (fun X => hcompare_any m.a s X)
  rw [← cmp_le]
  generalize cmpS m.a s = K at *
  obtain ⟨h1, h2, h3, h4, h5, h6⟩ := h
  have h1' : q ≠ W.heap.size := by omega
  have h2' : b ≠ W.heap.size := by omega
  have y1 : W.heap.size < W.heap.size + 1 := by omega
  have y2 : q < W.heap.size + 1 := by omega
  have y3 : b < W.heap.size + 1 := by omega
  unfold mkV
  go_enter Try.func36, Try.ntmps36
  go_wp2_with fail
  refine wp_qall (by kernel_rfl) (by kernel_rfl) ?_
  intro hcg
  repeat (first | go_big_quiet_step ((with_reducible (first | exact Calls.reg (HC.out _)))) | quiet_step ((with_reducible (first | exact Calls.reg (HC.out _)))))
  refine wpQuiet_nil ?_
  intro wq hbwq hcwq hfwq
  clear hcg
  go_wp2_with fail
  go_ret
  exact ⟨ret_bool (by simp), by have hb := hbwq; simp only [World.size_alloc] at hb; exact ((Below.refl _ _).alloc (Nat.le_refl _) _).trans (hb.mono (by omega))⟩
/-- The first place of a mark that is not kept, or -1. -/
def fstI {α : Type} (p : α → Bool) (l : List α) : Int := if l.any p then (l.findIdx p : Int) else -1
theorem fst_hit {α : Type} {p : α → Bool} {l : List α} {j : Nat} (h : j < l.length) (h0 : (l.take j).any p = false) (e : p l[j] = true) : fstI p l = j := by
  have h1 : l.any p = true := List.any_eq_true.2 ⟨l[j], List.getElem_mem h, e⟩
  have h2 : l.findIdx p = j := by
    refine (List.findIdx_eq h).2 ⟨e, fun i hi => ?_⟩
    have := List.any_eq_false.1 h0 l[i] (List.mem_take_iff_getElem.2 ⟨i, by omega, rfl⟩)
    simpa using this
  unfold fstI
  rw [if_pos h1, h2]
theorem fst_no {α : Type} {p : α → Bool} {l : List α} (h : l.any p = false) : fstI p l = -1 := by unfold fstI; rw [h]; rfl
theorem any_step {α : Type} {p : α → Bool} {l : List α} {j : Nat} (h : j < l.length) (h0 : (l.take j).any p = false) (e : p l[j] = false) : (l.take (j + 1)).any p = false := by
  rw [List.take_add_one, List.getElem?_eq_getElem h, List.any_append, h0]
  simp [e]
def delP (s : Stp) (m : Mk) : Bool := !less s m.a
set_option maxHeartbeats 1600000 in
theorem cidx_any {W : World} {q b : Nat} {s : Stp} (hq : ClS W q b s) (A : Option Addr) (n c : Nat) (ys : List Mk) (hl : ys.length = n) (hn : n ≤ 1048576) (hr : Rd W W.heap.size A (mv ys)) :
    Calls Try.prog 44 #[.slice A n c, .func (.func 36) #[] #[.pointer (some ⟨q, 0, none⟩)]] W fun e w' => e = .returned (.int .i64 (fstI (delP s) ys)) ∧ Below W.heap.size W w' := by
  have HR := Lib.hid (fun X (h : Below W.heap.size W X) => hr.below h)
  have HQ := Lib.hid (fun X (h : Below W.heap.size W X) => hq.next h)
  have HL := Lib.hid hl
  obtain ⟨R, hR⟩ : ∃ R, R = fstI (delP s) ys := ⟨_, rfl⟩
  rw [← hR]
  have HRR := Lib.hid hR
  clear hr hq hl hR
  go_enter Try.func44, Try.ntmps44
  go_wp2_with fail
  go_loopw [8] (fun i wr => ∃ j : Nat, j ≤ n ∧ i = .int .i64 j ∧ Hid (Below W.heap.size W wr) ∧ Hid ((ys.take j).any (delP s) = false)) (fun i _ => n - (intOf i).toNat)
  case atStart => exact ⟨0, Nat.zero_le _, rfl, Lib.hid (Below.refl _ _), Lib.hid rfl⟩
  case round =>
    obtain ⟨j, hj, rfl, Q, T⟩ := hrel
    by_cases hlt : j < n
    · have hjl : j < ys.length := by rw [HL.out]; exact hlt
      obtain ⟨g, off, rfl, hgl, M⟩ := mk_at (HR.out wr Q.out) j ys[j] (List.getElem?_eq_getElem hjl)
      have hhit := fun e => fst_hit (p := delP s) hjl T.out e
      have hstep := fun e => any_step (p := delP s) hjl T.out e
      have HC := cclos_any (HQ.out wr Q.out) ys[j]
      have hp : delP s ys[j] = !less s ys[j].a := rfl
      rw [← hp] at HC
      clear hp
      generalize ys[j] = m at *
      generalize delP s m = D at *
      obtain ⟨c0, c1, c2, c3, c4, c5, c6⟩ := M
      have i1 : (j : Int) < (n : Int) := by omega
      have i0 : (0 : Int) ≤ (j : Int) := by omega
      unfold mkV at HC
      have HC := Lib.hid HC
      have hws := Q.out.size
      cases D
      · have hst := Lib.hid (hstep rfl)
        clear hhit hstep
        go_wp2_with (go_at_call 36; refine HC.out.mono ?_; rintro e w' ⟨rfl, hb⟩)
        exact ⟨⟨j + 1, by omega, by go_num, Lib.hid (Q.out.trans (hb.mono hws)), hst⟩, by simp [intOf]; omega⟩
      · have hst := Lib.hid (hhit rfl)
        clear hhit hstep
        go_wp2_with (go_at_call 36; refine HC.out.mono ?_; rintro e w' ⟨rfl, hb⟩)
        go_ret
        exact ⟨by rw [show R = (j : Int) from HRR.out.trans hst.out]; rfl, Q.out.trans (hb.mono hws)⟩
    · have hjn : j = n := by omega
      subst hjn
      have hno : fstI (delP s) ys = -1 := fst_no (by have := T.out; rwa [List.take_of_length_le (by rw [HL.out]; omega)] at this)
      have HNO := Lib.hid hno
      clear hno
      go_wp2_with fail
      go_ret
      exact ⟨by rw [show R = -1 from HRR.out.trans HNO.out]; rfl, Q.out⟩
end Go.Proofs.Ytnhobjjgpnbnmaa
