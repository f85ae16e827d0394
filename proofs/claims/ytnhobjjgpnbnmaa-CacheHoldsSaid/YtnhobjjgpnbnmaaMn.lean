/- Walks: slices.MinFunc, slices.Index and slices.Delete of marks. -/
import Derived.Test.YtnhobjjgpnbnmaaMl
namespace Go.Proofs.Ytnhobjjgpnbnmaa
open Go.RowKit Go.St
set_option linter.unusedVariables false
set_option linter.unusedSimpArgs false
set_option maxRecDepth 100000

theorem setM_far (w : World) (g o : Nat) (m : Mk) (q : Addr) (h : q.block ≠ g) : (setM w g o m).cell? q = w.cell? q := by
  unfold setM
  have hn : ∀ i, (⟨g, i, none⟩ : Addr) ≠ q := fun i e => h (congrArg Addr.block e).symm
  rw [World.cell?_setCell_other _ _ _ _ (hn _), World.cell?_setCell_other _ _ _ _ (hn _), World.cell?_setCell_other _ _ _ _ (hn _), World.cell?_setCell_other _ _ _ _ (hn _), World.cell?_setCell_other _ _ _ _ (hn _), World.cell?_setCell_other _ _ _ _ (hn _), World.cell?_setCell_other _ _ _ _ (hn _)]
theorem setM_size (w : World) (g o : Nat) (m : Mk) : (setM w g o m).heap.size = w.heap.size := by unfold setM; simp [World.setCell]
theorem setM_fz (w : World) (g o : Nat) (m : Mk) (q : Addr) : (setM w g o m).frozen? q = w.frozen? q := by unfold setM; simp
theorem setM_own {w : World} {g : Nat} {x : Mk} (h : MkI w g 0 x) (m : Mk) : MkI (setM w g 0 m) g 0 m := by
  obtain ⟨c0, c1, c2, c3, c4, c5, c6⟩ := h
  simp only [Nat.zero_add] at c1 c2 c3 c4 c5 c6
  have hn : ∀ (i j : Nat), i ≠ j → (⟨g, i, none⟩ : Addr) ≠ ⟨g, j, none⟩ := fun i j hij e => hij (congrArg Addr.off e)
  unfold setM
  simp only [Nat.zero_add]
  have o1 := fun (W : World) (i j : Nat) (u : Value) (hij : i ≠ j) => World.cell?_setCell_other W ⟨g, i, none⟩ ⟨g, j, none⟩ u (hn i j hij)
  constructor <;> (try simp only [Nat.zero_add])
  · rw [o1 _ 6 0 _ (by decide), o1 _ 5 0 _ (by decide), o1 _ 4 0 _ (by decide), o1 _ 3 0 _ (by decide), o1 _ 2 0 _ (by decide), o1 _ 1 0 _ (by decide)]; exact World.cell?_setCell_same _ _ _ c0
  · rw [o1 _ 6 1 _ (by decide), o1 _ 5 1 _ (by decide), o1 _ 4 1 _ (by decide), o1 _ 3 1 _ (by decide), o1 _ 2 1 _ (by decide)]; refine World.cell?_setCell_same _ _ _ (u := .string x.t) ?_; rw [o1 _ 0 1 _ (by decide)]; exact c1
  · rw [o1 _ 6 2 _ (by decide), o1 _ 5 2 _ (by decide), o1 _ 4 2 _ (by decide), o1 _ 3 2 _ (by decide)]; refine World.cell?_setCell_same _ _ _ (u := .int .i64 x.a.wall) ?_; rw [o1 _ 1 2 _ (by decide), o1 _ 0 2 _ (by decide)]; exact c2
  · rw [o1 _ 6 3 _ (by decide), o1 _ 5 3 _ (by decide), o1 _ 4 3 _ (by decide)]; refine World.cell?_setCell_same _ _ _ (u := .int .i32 x.a.logic) ?_; rw [o1 _ 2 3 _ (by decide), o1 _ 1 3 _ (by decide), o1 _ 0 3 _ (by decide)]; exact c3
  · rw [o1 _ 6 4 _ (by decide), o1 _ 5 4 _ (by decide)]; refine World.cell?_setCell_same _ _ _ (u := .int .i32 x.a.tag) ?_; rw [o1 _ 3 4 _ (by decide), o1 _ 2 4 _ (by decide), o1 _ 1 4 _ (by decide), o1 _ 0 4 _ (by decide)]; exact c4
  · rw [o1 _ 6 5 _ (by decide)]; refine World.cell?_setCell_same _ _ _ (u := .int .i32 x.nd) ?_; rw [o1 _ 4 5 _ (by decide), o1 _ 3 5 _ (by decide), o1 _ 2 5 _ (by decide), o1 _ 1 5 _ (by decide), o1 _ 0 5 _ (by decide)]; exact c5
  · refine World.cell?_setCell_same _ _ _ (u := .int .i32 x.nu) ?_; rw [o1 _ 5 6 _ (by decide), o1 _ 4 6 _ (by decide), o1 _ 3 6 _ (by decide), o1 _ 2 6 _ (by decide), o1 _ 1 6 _ (by decide), o1 _ 0 6 _ (by decide)]; exact c6
def zM : Mk := ⟨⟨#[]⟩, ⟨#[]⟩, ⟨0, 0, 0⟩, 0, 0⟩
/-- MinFunc's boxes: what is told, the least so far. -/
structure MnS (W wr : World) (p : Nat) (cur : Mk) : Prop where
  bel : Below W.heap.size W wr
  lo : W.heap.size ≤ p
  lt : p + 1 < wr.heap.size
  r : MkI wr p 0 zM
  rf : ∀ o, wr.frozen? ⟨p, o, none⟩ = false
  a : MkI wr (p + 1) 0 cur
  af : ∀ o, wr.frozen? ⟨p + 1, o, none⟩ = false
theorem MnS.next {W wr wr' : World} {p : Nat} {cur : Mk} (h : MnS W wr p cur) (hb : Below wr.heap.size wr wr') : MnS W wr' p cur := by
  have hl := h.lt
  exact ⟨h.bel.trans (hb.mono h.bel.size), h.lo, Nat.lt_of_lt_of_le hl hb.size, h.r.keep (fun q hq => hb.cell (by omega)), fun o => (hb.frozen (p := ⟨p, o, none⟩) (by show p < _; omega)).trans (h.rf o), h.a.keep (fun q hq => hb.cell (by omega)), fun o => (hb.frozen (p := ⟨p + 1, o, none⟩) hl).trans (h.af o)⟩
theorem MnS.put {W wr : World} {p : Nat} {cur : Mk} (h : MnS W wr p cur) (m : Mk) : MnS W (setM wr (p + 1) 0 m) p m := by
  have hlo := h.lo
  refine ⟨?_, h.lo, by rw [setM_size]; exact h.lt, h.r.keep (fun q hq => setM_far _ _ _ _ _ (by omega)), fun o => (setM_fz ..).trans (h.rf o), setM_own h.a m, fun o => (setM_fz ..).trans (h.af o)⟩
  have hk : W.heap.size ≤ p + 1 := by omega
  unfold setM
  exact ((((((h.bel.setCell hk _).setCell hk _).setCell hk _).setCell hk _).setCell hk _).setCell hk _).setCell hk _
theorem mki_new (W : World) (m : Mk) (t : TypeId) : MkI (W.alloc (.cells #[.string m.f, .string m.t, .int .i64 m.a.wall, .int .i32 m.a.logic, .int .i32 m.a.tag, .int .i32 m.nd, .int .i32 m.nu] t)) W.heap.size 0 m := by
  have q := fun i => World.cell?_alloc_mark W #[.string m.f, .string m.t, .int .i64 m.a.wall, .int .i32 m.a.logic, .int .i32 m.a.tag, .int .i32 m.nd, .int .i32 m.nu] t (0, 0) i
  exact ⟨q 0, q 1, q 2, q 3, q 4, q 5, q 6⟩
set_option maxHeartbeats 3200000 in
theorem cmin_any (A : Option Addr) (n c : Nat) (l : List Mk) (hl : l.length = n) (h0 : 0 < n) (hn : n ≤ 1048576) (d : Mk) (W : World) (hr : Rd W W.heap.size A (mv l)) :
    Calls Try.prog 30 #[.slice A n c, .func (.func 31) #[] #[]] W fun e w' => e = .returned (mkV (minK l d)) ∧ Below W.heap.size W w' := by
  have HR := Lib.hid (fun X (h : Below W.heap.size W X) => hr.below h)
  have HL := Lib.hid hl
  obtain ⟨R, hR⟩ : ∃ R, R = minK l d := ⟨_, rfl⟩
  rw [← hR]
  have HRR := Lib.hid hR
  have h1l : 0 < l.length := by omega
  obtain ⟨g, off, rfl, hgl, M0⟩ := mk_at hr 0 l[0] (List.getElem?_eq_getElem h1l)
  have hm0 : minK (l.take 1) d = l[0] := by
    have h2 := minI_one l h1l
    rw [minK_at d (by rw [h2]; simp; omega)]
    simp [h2]
  have HM0 := Lib.hid hm0
  generalize l[0] = m0 at *
  obtain ⟨c0, c1, c2, c3, c4, c5, c6⟩ := M0
  simp only [Nat.zero_mul, Nat.add_zero] at c0 c1 c2 c3 c4 c5 c6
  have hgn : g ≠ W.heap.size := by omega
  have i1 : ¬ ((n : Int) < 1) := by omega
  have i2 : (0 : Int) < (n : Int) := by omega
  clear hr hl hR hm0 h1l
  unfold mkV
  go_enter Try.func30, Try.ntmps30
  go_upto_region 4 with (fail)
  have hz : Below W.heap.size W (W.alloc (.cells #[.string ⟨#[]⟩, .string ⟨#[]⟩, .int .i64 0, .int .i32 0, .int .i32 0, .int .i32 0, .int .i32 0] 63)) := (Below.refl _ _).alloc (Nat.le_refl _) _
  have S0 : Hid (MnS W ((W.alloc (.cells #[.string ⟨#[]⟩, .string ⟨#[]⟩, .int .i64 0, .int .i32 0, .int .i32 0, .int .i32 0, .int .i32 0] 63)).alloc (.cells #[.string m0.f, .string m0.t, .int .i64 m0.a.wall, .int .i32 m0.a.logic, .int .i32 m0.a.tag, .int .i32 m0.nd, .int .i32 m0.nu] 63)) W.heap.size m0) := by
    have z0 := mki_new W zM 63
    have z1 := mki_new (W.alloc (.cells #[.string ⟨#[]⟩, .string ⟨#[]⟩, .int .i64 0, .int .i32 0, .int .i32 0, .int .i32 0, .int .i32 0] 63)) m0 63
    rw [World.size_alloc] at z1
    have hb1 : Below W.heap.size W ((W.alloc (.cells #[.string ⟨#[]⟩, .string ⟨#[]⟩, .int .i64 0, .int .i32 0, .int .i32 0, .int .i32 0, .int .i32 0] 63)).alloc (.cells #[.string m0.f, .string m0.t, .int .i64 m0.a.wall, .int .i32 m0.a.logic, .int .i32 m0.a.tag, .int .i32 m0.nd, .int .i32 m0.nu] 63)) := hz.alloc hz.size _
    refine Lib.hid ⟨hb1, Nat.le_refl _, by simp, ?_, fun o => by rw [frozen?_alloc_cells]; exact World.frozen?_alloc_at _ _ _ _ rfl, z1, fun o => World.frozen?_alloc_at _ _ _ _ (by simp)⟩
    exact z0.keep (fun q hq => World.cell?_alloc_lt _ _ _ (by rw [hq]; simp))
  generalize hw2 : (W.alloc (.cells #[.string ⟨#[]⟩, .string ⟨#[]⟩, .int .i64 0, .int .i32 0, .int .i32 0, .int .i32 0, .int .i32 0] 63)).alloc (.cells #[.string m0.f, .string m0.t, .int .i64 m0.a.wall, .int .i32 m0.a.logic, .int .i32 m0.a.tag, .int .i32 m0.nd, .int .i32 m0.nu] 63) = w2 at *
  clear hw2 hz c0 c1 c2 c3 c4 c5 c6 i1 i2
  rw [← HM0.out] at S0
  obtain ⟨p, hp⟩ : ∃ p, p = W.heap.size := ⟨_, rfl⟩
  rw [← hp] at S0 ⊢
  clear hp hgn HM0
  go_wp2_with fail
  go_loopw [6] (fun i wr => ∃ k : Nat, 0 < k ∧ k ≤ n ∧ i = .int .i64 k ∧ Hid (MnS W wr p (minK (l.take k) d))) (fun i _ => n - (intOf i).toNat)
  case atStart => exact ⟨1, by omega, by omega, rfl, S0⟩
  case round =>
    obtain ⟨k, hk0, hk, rfl, Q⟩ := hrel
    clear S0
    by_cases hlt : k < n
    · have hkl : k < l.length := by rw [HL.out]; exact hlt
      have hst := minK_step l d k hk0 hkl
      obtain ⟨g2, off2, hA, hgl2, M⟩ := mk_at (HR.out wr Q.out.bel) k l[k] (List.getElem?_eq_getElem hkl)
      injection hA with hA
      injection hA with hA1 hA2
      subst hA1 hA2
      generalize l[k] = m at *
      obtain ⟨cur, hcur⟩ : ∃ x, x = minK (l.take k) d := ⟨_, rfl⟩
      rw [← hcur] at Q hst
      obtain ⟨nx, hnx⟩ : ∃ x, x = minK (l.take (k + 1)) d := ⟨_, rfl⟩
      rw [← hnx] at hst
      have HNX := Lib.hid hnx
      clear hcur hnx
      obtain ⟨c0, c1, c2, c3, c4, c5, c6⟩ := M
      have ha := Q.out.a
      obtain ⟨a0, a1, a2, a3, a4, a5, a6⟩ := ha
      simp only [Nat.zero_add] at a1 a2 a3 a4 a5 a6
      have HE := fun X => cearl_any m cur X
      unfold mkV at HE
      have HE := Lib.hid HE
      have i1 : (k : Int) < (n : Int) := by omega
      have i0 : (0 : Int) ≤ (k : Int) := by omega
      have hpl := Q.out.lt
      have hgw : g < wr.heap.size := by have := Q.out.bel.size; omega
      have hlo := Q.out.lo
      go_upto_region 7 with (fail)
      cases hD : less m.a cur.a
      · have hK : ¬ (cmpS m.a cur.a < 0) := fun h => by rw [cmp_neg] at h; rw [hD] at h; cases h
        rw [hD] at hst
        simp only [Bool.false_eq_true, if_false] at hst
        generalize cmpS m.a cur.a = K at *
        clear hD
        refine wp_qall (by kernel_rfl) (by kernel_rfl) ?_
        intro hcg
        repeat (first | go_big_quiet_step ((with_reducible (first | exact Calls.reg (HE.out _)))) | quiet_step ((with_reducible (first | exact Calls.reg (HE.out _)))))
        refine wpQuiet_nil ?_
        intro wq hbwq hcwq hfwq
        clear hcg
        have R2 := Lib.hid (Q.out.next hbwq)
        clear c0 c1 c2 c3 c4 c5 c6 a0 a1 a2 a3 a4 a5 a6 hbwq hcwq hfwq
        go_wp2_with fail
        exact ⟨⟨k + 1, by omega, by omega, by go_num, by rw [← HNX.out, hst]; exact R2⟩, by simp [intOf]; omega⟩
      · have hK : cmpS m.a cur.a < 0 := by rw [cmp_neg]; exact hD
        rw [hD] at hst
        simp only [if_true] at hst
        generalize cmpS m.a cur.a = K at *
        clear hD
        refine wp_qall (by kernel_rfl) (by kernel_rfl) ?_
        intro hcg
        repeat (first | go_big_quiet_step ((with_reducible (first | exact Calls.reg (HE.out _)))) | quiet_step ((with_reducible (first | exact Calls.reg (HE.out _)))))
        refine wpQuiet_nil ?_
        intro wq hbwq hcwq hfwq
        clear hcg
        have R2 := Lib.hid (Q.out.next hbwq)
        have M2 : MkI wq g (off + k * 7) m := ⟨(hcwq _ _ hgw).trans c0, (hcwq _ _ hgw).trans c1, (hcwq _ _ hgw).trans c2, (hcwq _ _ hgw).trans c3, (hcwq _ _ hgw).trans c4, (hcwq _ _ hgw).trans c5, (hcwq _ _ hgw).trans c6⟩
        clear c0 c1 c2 c3 c4 c5 c6 a0 a1 a2 a3 a4 a5 a6 hbwq hcwq hfwq
        obtain ⟨c0, c1, c2, c3, c4, c5, c6⟩ := M2
        obtain ⟨a0, a1, a2, a3, a4, a5, a6⟩ := R2.out.a
        simp only [Nat.zero_add] at a1 a2 a3 a4 a5 a6
        have af := R2.out.af
        have R3 := Lib.hid (R2.out.put m)
        unfold setM at R3
        simp only [Nat.zero_add] at R3
        go_wp2_with fail
        exact ⟨⟨k + 1, by omega, by omega, by go_num, by rw [← HNX.out, hst]; exact R3⟩, by simp [intOf]; omega⟩
    · have hkn : k = n := by omega
      subst hkn
      have hfin : l.take k = l := by rw [← HL.out]; exact List.take_length
      rw [hfin, ← HRR.out] at Q
      obtain ⟨cur, rfl⟩ : ∃ x, x = R := ⟨_, rfl⟩
      obtain ⟨h1, h2, h3, h4, h5, h6, h7⟩ := Q.out
      obtain ⟨a0, a1, a2, a3, a4, a5, a6⟩ := h6
      obtain ⟨r0, r1, r2, r3, r4, r5, r6⟩ := h4
      simp only [Nat.zero_add] at a1 a2 a3 a4 a5 a6 r1 r2 r3 r4 r5 r6
      have H1 := Lib.hid h1
      clear h1
      go_wp2_with fail
      refine bodyPost_ret (v := .agg #[.string cur.f, .string cur.t, .int .i64 cur.a.wall, .int .i32 cur.a.logic, .int .i32 cur.a.tag, .int .i32 cur.nd, .int .i32 cur.nu]) (by simp [results, Try.results30, go_sem, *]) rfl ⟨rfl, ?_⟩
      exact ((((((H1.out.setCell h2 _).setCell h2 _).setCell h2 _).setCell h2 _).setCell h2 _).setCell h2 _).setCell h2 _
set_option maxHeartbeats 1600000 in
theorem cindex_any (A : Option Addr) (n c i : Nat) (l : List Mk) (hl : l.length = n) (hn : n ≤ 1048576) (m : Mk) (hi : l[i]? = some m) (hno : ∀ (j : Nat) (x : Mk), j < i → l[j]? = some x → x.a ≠ m.a) (W : World) (hr : Rd W W.heap.size A (mv l)) :
    Calls Try.prog 32 #[.slice A n c, mkV m] W fun e w' => e = .returned (.int .i64 i) ∧ Below W.heap.size W w' := by
  have HR := Lib.hid (fun X (h : Below W.heap.size W X) => hr.below h)
  have HL := Lib.hid hl
  have HI := Lib.hid hi
  have HNO := Lib.hid hno
  have hin : i < n := by rw [← hl]; exact (List.getElem?_eq_some_iff.1 hi).1
  have S0 := Lib.hid (mki_new W m 63)
  have B0 : Hid (Below W.heap.size W (W.alloc (.cells #[.string m.f, .string m.t, .int .i64 m.a.wall, .int .i32 m.a.logic, .int .i32 m.a.tag, .int .i32 m.nd, .int .i32 m.nu] 63))) := Lib.hid ((Below.refl _ _).alloc (Nat.le_refl _) _)
  have hp0 : W.heap.size < (W.alloc (.cells #[.string m.f, .string m.t, .int .i64 m.a.wall, .int .i32 m.a.logic, .int .i32 m.a.tag, .int .i32 m.nd, .int .i32 m.nu] 63)).heap.size := by simp
  have hself := fun X => eq_mark_self m X
  have hdiff := fun (x : Mk) (h : x.a ≠ m.a) X => eq_mark_ne (fun e => h e.symm) X
  unfold mkV at *
  clear hr hl hi hno
  go_enter Try.func32, Try.ntmps32
  go_upto_region 1 with (fail)
  generalize hw1 : W.alloc (.cells #[.string m.f, .string m.t, .int .i64 m.a.wall, .int .i32 m.a.logic, .int .i32 m.a.tag, .int .i32 m.nd, .int .i32 m.nu] 63) = w1 at *
  clear hw1
  go_wp2_with fail
  go_loopw [8] (fun v wr => ∃ j : Nat, j ≤ i ∧ v = .int .i64 j ∧ Hid (Below w1.heap.size w1 wr)) (fun v _ => n - (intOf v).toNat)
  case atStart => exact ⟨0, Nat.zero_le _, rfl, Lib.hid (Below.refl _ _)⟩
  case round =>
    obtain ⟨j, hj, rfl, Q⟩ := hrel
    have hjl : j < l.length := by rw [HL.out]; omega
    have hBW := B0.out.trans (Q.out.mono B0.out.size)
    obtain ⟨g, off, rfl, hgl, M⟩ := mk_at (HR.out wr hBW) j l[j] (List.getElem?_eq_getElem hjl)
    have S1 := S0.out.keep (fun q hq => Q.out.cell (p := q) (by rw [hq]; exact hp0))
    obtain ⟨a0, a1, a2, a3, a4, a5, a6⟩ := S1
    simp only [Nat.zero_add] at a1 a2 a3 a4 a5 a6
    have i1 : (j : Int) < (n : Int) := by omega
    have i0 : (0 : Int) ≤ (j : Int) := by omega
    have hpw : W.heap.size < wr.heap.size := Nat.lt_of_lt_of_le hp0 Q.out.size
    have hgw : g < wr.heap.size := by omega
    have hne := fun h => HNO.out j l[j] h (List.getElem?_eq_getElem hjl)
    have hat : j = i → l[j] = m := fun e => by
      subst e
      have := HI.out
      rw [List.getElem?_eq_getElem hjl] at this
      injection this
    generalize l[j] = x at *
    obtain ⟨c0, c1, c2, c3, c4, c5, c6⟩ := M
    by_cases hlt : j < i
    · have hx := hdiff x (hne hlt)
      clear hself hdiff hne hat
      go_upto_region 4 with (fail)
      refine wp_qall (by kernel_rfl) (by kernel_rfl) ?_
      intro hcg
      repeat (first | go_big_quiet_step (fail) | quiet_step (fail))
      refine wpQuiet_nil ?_
      intro wq hbwq hcwq hfwq
      clear hcg
      have Q2 := Lib.hid (Q.out.trans (hbwq.mono Q.out.size))
      clear c0 c1 c2 c3 c4 c5 c6 a0 a1 a2 a3 a4 a5 a6 hbwq hcwq hfwq hx
      go_wp2_with fail
      exact ⟨⟨j + 1, by omega, by go_num, Q2⟩, by simp [intOf]; omega⟩
    · have hji : j = i := by omega
      subst hji
      obtain rfl := hat rfl
      clear hdiff hne
      go_upto_region 4 with (fail)
      refine wp_qall (by kernel_rfl) (by kernel_rfl) ?_
      intro hcg
      repeat (first | go_big_quiet_step (fail) | quiet_step (fail))
      refine wpQuiet_nil ?_
      intro wq hbwq hcwq hfwq
      clear hcg
      have Q2 := Lib.hid (hBW.trans (hbwq.mono hBW.size))
      clear c0 c1 c2 c3 c4 c5 c6 a0 a1 a2 a3 a4 a5 a6 hbwq hcwq hfwq hself
      go_wp2_with fail
      go_ret
      exact ⟨rfl, Q2.out⟩
end Go.Proofs.Ytnhobjjgpnbnmaa
