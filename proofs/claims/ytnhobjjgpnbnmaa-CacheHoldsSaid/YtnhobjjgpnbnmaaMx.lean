/- What a cache holds: the plain law of its theorem; rows of stamps. -/
import Derived.Test.YtnhobjjgpnbnmaaMv
import Derived.Deep.OwnRows
namespace Go.Proofs.Ytnhobjjgpnbnmaa
open Go.RowKit Go.St
set_option linter.unusedVariables false
set_option linter.unusedSimpArgs false
set_option maxRecDepth 100000

theorem rd_mono (p : Mk → Bool) (s : Stp) (l : List Mk) (m : Mk) : less (atF p (rdS s l m) (rdL s l m)) (atF p s l) = false := by
  unfold rdS rdL
  cases rdOn s m
  · exact less_irrefl _
  · exact put_mono p s l m
theorem ra_mono (p : Mk → Bool) (s : Stp) (l : List Mk) (a : Stp) : less (atF p (raS s a) (raL s l a)) (atF p s l) = false := by
  unfold raS raL
  by_cases h : chk a = 0
  · rw [if_pos h, if_pos h]; exact drop_mono p l (less_max_l s a)
  · rw [if_neg h, if_neg h]; exact less_irrefl _
theorem hold_read (p : Mk → Bool) (s : Stp) (l : List Mk) (m : Mk) (hc : chk m.a = 0) (he : sEmp m.f m.t = false) (hp : p m = true) : less (atF p (rdS s l m) (rdL s l m)) m.a = false := by
  unfold rdS rdL
  cases ho : rdOn s m
  · have h : less s m.a = false := by
      unfold rdOn at ho
      rw [hc, he] at ho
      simpa using ho
    exact nlt_trans h (atF_low p l s)
  · exact put_has p s l m hp
theorem hold_raise (p : Mk → Bool) (s : Stp) (l : List Mk) (a : Stp) (hc : chk a = 0) : less (atF p (raS s a) (raL s l a)) a = false := by
  unfold raS raL
  rw [if_pos hc, if_pos hc]
  exact nlt_trans (less_max_r s a) (atF_low p _ _)
def grS (G a : Stp) : Stp := if chk a = 0 then maxS G a else G
theorem rd_under {G s : Stp} {l : List Mk} (h : under G s l) (m : Mk) : under (grS G m.a) (rdS s l m) (rdL s l m) := by
  unfold grS rdS rdL
  cases ho : rdOn s m
  · by_cases hc : chk m.a = 0
    · rw [if_pos hc]; exact under_max h m.a
    · rw [if_neg hc]; exact h
  · have hc : chk m.a = 0 := by
      unfold rdOn at ho
      simp only [Bool.and_eq_true, decide_eq_true_eq] at ho
      exact ho.1.1
    rw [if_pos hc]; exact under_put h
theorem ra_under {G s : Stp} {l : List Mk} (h : under G s l) (a : Stp) : under (grS G a) (raS s a) (raL s l a) := by
  unfold grS raS raL
  by_cases hc : chk a = 0
  · rw [if_pos hc, if_pos hc, if_pos hc]; exact under_drop h a
  · rw [if_neg hc, if_neg hc, if_neg hc]; exact h
theorem by_atP {k : ByteArray} {nd nu : Int} {m : Mk} (h1 : sHas m.f m.t k = true) (h2 : (!sameT m.nd m.nu nd nu || sameT m.nd m.nu 0 0) = true) : atP k nd nu m = true := by
  unfold atP
  rw [h1]
  unfold sameT at *
  simp only [Bool.or_eq_true, Bool.not_eq_true', decide_eq_false_iff_not, decide_eq_true_eq, Bool.true_and] at *
  rcases h2 with h | h
  · exact .inl h
  · by_cases h3 : m.nd = nd ∧ m.nu = nu
    · exact .inr ⟨by rw [← h3.1]; exact h.1, by rw [← h3.2]; exact h.2⟩
    · exact .inl h3
theorem low_zero {s : Stp} (h : chk s = 0) : less s ⟨0, 0, 0⟩ = false := by
  have h1 : okS s = true := by
    unfold chk at h
    by_cases h2 : okS s = true
    · exact h2
    · rw [if_neg h2] at h; cases h
  rw [okS_iff] at h1
  rw [less_no]
  simp only
  omega
/-- A stamp's cells; stamps as a row. -/
def stCells (s : Stp) : List Value := [.int .i64 s.wall, .int .i32 s.logic, .int .i32 s.tag]
def rv (l : List Stp) : List Value := (l.map stCells).flatten
theorem rv_length (l : List Stp) : (rv l).length = l.length * 3 := by
  unfold rv
  induction l with
  | nil => rfl
  | cons x l ih => simp only [List.map_cons, List.flatten_cons, List.length_append, ih, List.length_cons]; simp [stCells]; omega
theorem rv_get (l : List Stp) (j i : Nat) (m : Stp) (v : Value) (hj : l[j]? = some m) (hv : (stCells m)[i]? = some v) : (rv l)[j * 3 + i]? = some v :=
  flatten_get (n := 3) (l.map stCells) (fun c hc => by obtain ⟨x, _, rfl⟩ := List.mem_map.1 hc; rfl) j i (stCells m) v (by rw [List.getElem?_map, hj]; rfl) hv
theorem rv_rep (n : Nat) : rv (List.replicate n ⟨0, 0, 0⟩) = (madeCells #[Value.int .i64 0, .int .i32 0, .int .i32 0] (n * 3)).toList := by
  apply List.ext_getElem?
  intro k
  by_cases hk : k < n * 3
  · have h1 : k / 3 < n := by omega
    have h2 : (List.replicate n (⟨0, 0, 0⟩ : Stp))[k / 3]? = some ⟨0, 0, 0⟩ := by rw [List.getElem?_replicate, if_pos h1]
    have hm : k % 3 = 0 ∨ k % 3 = 1 ∨ k % 3 = 2 := by omega
    have e : k / 3 * 3 + k % 3 = k := by omega
    rcases hm with h | h | h
    · have := rv_get _ (k / 3) 0 _ _ h2 (show (stCells ⟨0, 0, 0⟩)[0]? = some (.int .i64 0) from rfl)
      rw [h] at e; rw [e] at this
      rw [this]; simp [madeCells, hk, h]
    · have := rv_get _ (k / 3) 1 _ _ h2 (show (stCells ⟨0, 0, 0⟩)[1]? = some (.int .i32 0) from rfl)
      rw [h] at e; rw [e] at this
      rw [this]; simp [madeCells, hk, h]
    · have := rv_get _ (k / 3) 2 _ _ h2 (show (stCells ⟨0, 0, 0⟩)[2]? = some (.int .i32 0) from rfl)
      rw [h] at e; rw [e] at this
      rw [this]; simp [madeCells, hk, h]
  · rw [List.getElem?_eq_none (by rw [rv_length]; simp; omega), List.getElem?_eq_none (by simp [madeCells]; omega)]
theorem styS : STy Try.prog 31 23 3 16 (.agg #[.int .i64 0, .int .i32 0, .int .i32 0]) := ⟨Try.underlying31, ⟨_, rfl, by kernel_rfl, by kernel_rfl, by kernel_rfl⟩, rfl, by decide⟩
theorem mk_stamps (n : Nat) (hn : n ≤ 1048576) (W : World) : (Instr.makeSlice 31 (.int .i64 (n : Int)) (.int .i64 (n : Int))).run Try.prog W = .ok (.slice (some ⟨W.heap.size, 0, none⟩) n n) (W.alloc (.cells (madeCells #[.int .i64 0, .int .i32 0, .int .i32 0] (n * 3)) 23)) := by
  obtain ⟨i, hi, hz, hs, hb⟩ := styS.hi
  have h := run_make (P := Try.prog) W 31 23 i _ styS.ht hi hz .i64 .i64 n n (by omega) (Int.le_refl _) (by rw [hb]; omega) (by omega)
  simp only [Int.toNat_natCast] at h
  rw [hs] at h
  exact h
theorem made_row (W : World) (n : Nat) (hn : n ≤ 1048576) : (W.alloc (.cells (madeCells #[.int .i64 0, .int .i32 0, .int .i32 0] (n * 3)) 23)).ownsRow W.heap.size 23 3 (.slice (some ⟨W.heap.size, 0, none⟩) n n) n (rv (List.replicate n ⟨0, 0, 0⟩)) := by
  rw [rv_rep]
  exact World.ownsRow_lit W _ n (Nat.le_refl _) (by unfold maxLen; omega) (size_madeCells _ _)
def setT (w : World) (g o : Nat) (s : Stp) : World := ((w.setCell ⟨g, o, none⟩ (.int .i64 s.wall)).setCell ⟨g, o + 1, none⟩ (.int .i32 s.logic)).setCell ⟨g, o + 2, none⟩ (.int .i32 s.tag)
theorem sets_rv : ∀ (ys : List Stp) (i : Nat) (m : Stp), i < ys.length → ((((rv ys).set (i * 3) (.int .i64 m.wall)).set (i * 3 + 1) (.int .i32 m.logic)).set (i * 3 + 2) (.int .i32 m.tag)) = rv (ys.set i m)
  | [], i, m, h => by simp at h
  | y :: ys, 0, m, h => by simp [rv, stCells]
  | y :: ys, i + 1, m, h => by
    have ih := sets_rv ys i m (by simpa using h)
    have e : (i + 1) * 3 = i * 3 + 3 := by omega
    have hm : ∀ (z : Stp) (zs : List Stp), rv (z :: zs) = .int .i64 z.wall :: .int .i32 z.logic :: .int .i32 z.tag :: rv zs := fun z zs => by simp [rv, stCells]
    have e2 : (y :: ys).set (i + 1) m = y :: ys.set i m := rfl
    rw [e2, hm y (ys.set i m), ← ih, e, hm y ys]
    rw [show i * 3 + 3 + 1 = i * 3 + 1 + 3 by omega, show i * 3 + 3 + 2 = i * 3 + 2 + 3 by omega]
    simp only [List.set_cons_succ]
theorem own_putT {w : World} {base g n c : Nat} {E : TypeId} {ys : List Stp} (h : w.ownsRow base E 3 (.slice (some ⟨g, 0, none⟩) n c) n (rv ys)) (i : Nat) (m : Stp) (hi : i < ys.length) :
    (setT w g (i * 3) m).ownsRow base E 3 (.slice (some ⟨g, 0, none⟩) n c) n (rv (ys.set i m)) ∧ w.grownBy (setT w g (i * 3) m) (some g) := by
  have h1 := h.stored (i * 3) (.int .i64 m.wall)
  have h2 := h1.1.stored (i * 3 + 1) (.int .i32 m.logic)
  have h3 := h2.1.stored (i * 3 + 2) (.int .i32 m.tag)
  rw [sets_rv ys i m hi] at h3
  exact ⟨h3.1, (h1.2.trans h2.2).trans h3.2⟩
theorem own_st {w : World} {base g n c : Nat} {E : TypeId} {ys : List Stp} (h : w.ownsRow base E 3 (.slice (some ⟨g, 0, none⟩) n c) n (rv ys)) (j : Nat) (m : Stp) (hj : ys[j]? = some m) :
    w.cell? ⟨g, j * 3, none⟩ = some (.int .i64 m.wall) ∧ w.cell? ⟨g, j * 3 + 1, none⟩ = some (.int .i32 m.logic) ∧ w.cell? ⟨g, j * 3 + 2, none⟩ = some (.int .i32 m.tag) := by
  have hn : (rv ys).length = n * 3 := h.1
  have hc : ∀ (i : Nat) (u : Value), (stCells m)[i]? = some u → w.cell? ⟨g, j * 3 + i, none⟩ = some u := fun i u hu => by
    have h1 := rv_get ys j i m u hj hu
    have h2 : j * 3 + i < n * 3 := by rw [← hn]; exact (List.getElem?_eq_some_iff.1 h1).1
    rw [h.cellAt _ h2]; exact h1
  exact ⟨hc 0 _ rfl, hc 1 _ rfl, hc 2 _ rfl⟩
end Go.Proofs.Ytnhobjjgpnbnmaa
