/- Walks: slices.DeleteFunc of marks, in place. -/
import Derived.Test.YtnhobjjgpnbnmaaMh
namespace Go.Proofs.Ytnhobjjgpnbnmaa
open Go.RowKit Go.St
set_option linter.unusedVariables false
set_option linter.unusedSimpArgs false
set_option maxRecDepth 100000

theorem zeroM : ∀ w, (zeroValue 63).run Try.prog w = .ok (.agg #[.string { data := #[] }, .string { data := #[] }, .int .i64 0, .int .i32 0, .int .i32 0, .int .i32 0, .int .i32 0]) w := Try.zeroValue63
theorem zM1 : ∀ u ∈ (Value.agg #[.string { data := #[] }, .string { data := #[] }, .int .i64 0, .int .i32 0, .int .i32 0, .int .i32 0, .int .i32 0]).cells.toList, u.oneCell' = true := by
  intro u hu
  simp [Value.cells] at hu
  rcases hu with rfl | rfl | rfl | rfl <;> rfl
theorem drop_no {s : Stp} {ys : List Mk} (h : ys.any (delP s) = false) : dropL s ys = ys := by
  unfold dropL
  rw [List.filter_eq_self]
  intro m hm
  have := List.any_eq_false.1 h m hm
  simpa [delP] using this
theorem idx_hit {s : Stp} {ys : List Mk} (h : ys.any (delP s) = true) : ys.findIdx (delP s) < ys.length ∧ (ys.take (ys.findIdx (delP s) + 1)).filter (fun m => less s m.a) = ys.take (ys.findIdx (delP s)) := by
  have hlt : ys.findIdx (delP s) < ys.length := List.findIdx_lt_length_of_exists (by simpa using h)
  refine ⟨hlt, ?_⟩
  have hp := List.findIdx_getElem (w := hlt)
  rw [List.take_add_one, List.getElem?_eq_getElem hlt, List.filter_append]
  have e1 : [ys[ys.findIdx (delP s)]].filter (fun m => less s m.a) = [] := by
    unfold delP at hp ⊢
    simp only [Bool.not_eq_true'] at hp
    simp [hp]
  have e2 : (ys.take (ys.findIdx (delP s))).filter (fun m => less s m.a) = ys.take (ys.findIdx (delP s)) := by
    rw [List.filter_eq_self]
    intro m hm
    obtain ⟨i, hi, rfl⟩ := List.mem_take_iff_getElem.1 hm
    have := List.not_of_lt_findIdx (show i < ys.findIdx (delP s) by omega)
    simpa [delP] using this
  simp only [Option.toList_some]
  rw [e1, e2, List.append_nil]
/-- The compaction so far. -/
structure CpS (s : Stp) (ys zs : List Mk) (i j : Nat) : Prop where
  len : zs.length = ys.length
  lt : i < j
  jl : j ≤ ys.length
  hd : zs.take i = (ys.take j).filter (fun m => less s m.a)
  tl : zs.drop j = ys.drop j
theorem CpS.at_ {s : Stp} {ys zs : List Mk} {i j : Nat} (h : CpS s ys zs i j) (hj : j < ys.length) : zs[j]? = some ys[j] := by
  have := congrArg (fun l => l[0]?) h.tl
  simp only [List.getElem?_drop, Nat.add_zero] at this
  rw [this, List.getElem?_eq_getElem hj]
theorem CpS.skip {s : Stp} {ys zs : List Mk} {i j : Nat} (h : CpS s ys zs i j) (hj : j < ys.length) (hd : less s ys[j].a = false) : CpS s ys zs i (j + 1) := by
  refine ⟨h.len, by have := h.lt; omega, hj, ?_, ?_⟩
  · rw [List.take_add_one, List.getElem?_eq_getElem hj, List.filter_append, h.hd]
    simp [hd]
  · have := congrArg (List.drop 1) h.tl
    simpa [List.drop_drop] using this
theorem CpS.keep {s : Stp} {ys zs : List Mk} {i j : Nat} (h : CpS s ys zs i j) (hj : j < ys.length) (hd : less s ys[j].a = true) : CpS s ys (zs.set i ys[j]) (i + 1) (j + 1) := by
  have hl := h.len
  have hlt := h.lt
  refine ⟨by simp [hl], by omega, hj, ?_, ?_⟩
  · rw [List.take_add_one, List.take_add_one (l := ys), List.getElem?_eq_getElem hj, List.filter_append, ← h.hd]
    have e1 : (zs.set i ys[j]).take i = zs.take i := by rw [List.take_set_of_le (Nat.le_refl _)]
    have e2 : (zs.set i ys[j])[i]? = some ys[j] := by rw [List.getElem?_set_self (by omega)]
    rw [e1, e2]
    simp [hd]
  · have h1 := congrArg (List.drop 1) h.tl
    rw [List.drop_drop, List.drop_drop] at h1
    rw [List.drop_set_of_lt (by omega)]
    exact h1
theorem CpS.done {s : Stp} {ys zs : List Mk} {i : Nat} (h : CpS s ys zs i ys.length) : zs.take i = dropL s ys := by
  have := h.hd
  rw [List.take_length] at this
  exact this
theorem mv_take (l : List Mk) (k : Nat) : (mv l).take (k * 7) = mv (l.take k) := by
  induction l generalizing k with
  | nil => simp [mv]
  | cons x l ih =>
    cases k with
    | zero => simp [mv]
    | succ k =>
      have hm : ∀ (z : Mk) (zs : List Mk), mv (z :: zs) = mkCells z ++ mv zs := fun z zs => by simp [mv]
      have e : (k + 1) * 7 = 7 + k * 7 := by omega
      rw [hm, List.take_succ_cons, hm, e, List.take_append]
      have e1 : (mkCells x).take (7 + k * 7) = mkCells x := List.take_of_length_le (by simp [mkCells])
      have e2 : 7 + k * 7 - (mkCells x).length = k * 7 := by simp [mkCells]
      rw [e1, e2, ih]
set_option maxHeartbeats 3200000 in
theorem cdelf_any {W : World} {q b base : Nat} {s : Stp} (hq : ClS W q b s) (g n c : Nat) (ys : List Mk) (hl : ys.length = n) (hn : n ≤ 1048576) (hown : W.ownsRow base 63 7 (.slice (some ⟨g, 0, none⟩) n c) n (mv ys)) (hgq : q ≠ g) (hgb : b ≠ g) :
    Calls Try.prog 35 #[.slice (some ⟨g, 0, none⟩) n c, .func (.func 36) #[] #[.pointer (some ⟨q, 0, none⟩)]] W
      fun e w' => ∃ k, e = .returned (.slice (some ⟨g, 0, none⟩) k c) ∧ k = (dropL s ys).length ∧ w'.ownsRow base 63 7 (.slice (some ⟨g, 0, none⟩) k c) k (mv (dropL s ys)) ∧ Only W.heap.size g W w' := by
  have HQ := Lib.hid (fun X (h : Only W.heap.size g W X) => hq.only h hgq hgb)
  have HL := Lib.hid hl
  have hgl := (hown.lt g rfl).2
  obtain ⟨hnc, hcm⟩ := own_capLe hown
  have HI := Lib.hid (cidx_any hq (some ⟨g, 0, none⟩) n c ys hl hn (fun hne => ⟨g, 0, rfl, hgl, fun i u hu => by rw [Nat.zero_add, hown.cellAt i (by rw [← hown.1]; exact (List.getElem?_eq_some_iff.1 hu).1)]; exact hu⟩))
  have HO := Lib.hid hown
  clear hq hl hown
  cases hany : ys.any (delP s)
  · have e1 : fstI (delP s) ys = -1 := fst_no hany
    have e2 : dropL s ys = ys := drop_no hany
    rw [e1] at HI
    rw [e2]
    clear e1 e2 hany
    go_enter Try.func35, Try.ntmps35
    go_wp2_with fail
    refine HI.out.mono ?_
    rintro e w1 ⟨rfl, hb⟩
    clear HI
    go_wp2_with fail
    go_ret
    exact ⟨n, rfl, HL.out.symm, own_keep HO.out hb (Nat.le_refl _), Only.of_below hb⟩
  · have e1 : fstI (delP s) ys = (ys.findIdx (delP s) : Int) := by unfold fstI; rw [if_pos hany]
    obtain ⟨h1, h2⟩ := idx_hit hany
    rw [e1] at HI
    clear e1
    generalize ys.findIdx (delP s) = i0 at *
    have CP : Hid (CpS s ys ys i0 (i0 + 1)) := Lib.hid ⟨rfl, by omega, h1, h2.symm, rfl⟩
    rw [HL.out] at h1
    clear h2 hany
    go_enter Try.func35, Try.ntmps35
    go_wp2_with fail
    refine HI.out.mono ?_
    rintro e w1 ⟨rfl, hb⟩
    have O1 := Lib.hid (own_keep HO.out hb (Nat.le_refl _))
    have N1 : Hid (Only W.heap.size g W w1) := Lib.hid (Only.of_below hb)
    clear HI hb HO
    have em : ((i0 : Int) == -1) = false := by rw [beq_eq_false_iff_ne]; omega
    go_wp2_with fail
    clear em
    go_loopw [5, 6] (fun i' j' wr => ∃ (i j : Nat) (zs : List Mk), i' = .int .i64 i ∧ j' = .int .i64 j ∧ j ≤ n ∧ i < j ∧ Hid (CpS s ys zs i j) ∧ Hid (wr.ownsRow base 63 7 (.slice (some ⟨g, 0, none⟩) n c) n (mv zs)) ∧ Hid (Only W.heap.size g W wr)) (fun _ j' _ => n - (intOf j').toNat)
    case atStart => exact ⟨i0, i0 + 1, ys, rfl, by go_num, by omega, by omega, CP, O1, N1⟩
    case round =>
      obtain ⟨i, j, zs, rfl, rfl, hj, hij, cp, own, on⟩ := hrel
      clear CP O1 N1
      have i0' : (0 : Int) ≤ (i : Int) := by omega
      by_cases hlt : j < n
      · have hjl : j < ys.length := by rw [HL.out]; exact hlt
        have hsk := fun e => cp.out.skip hjl e
        have hkp := fun e => cp.out.keep hjl e
        obtain ⟨c0, c1, c2, c3, c4, c5, c6⟩ := own_mk own.out j ys[j] (cp.out.at_ hjl)
        have hHC := HQ.out wr on.out
        have HC := fun X (h : Below wr.heap.size wr X) => cclos_any (hHC.next h) ys[j]
        have hzl : zs.length = n := by rw [cp.out.len, HL.out]
        generalize ys[j] = m at *
        generalize hgl2 : less s m.a = D at *
        clear hgl2
        unfold mkV at HC
        have HC := Lib.hid HC
        have i1 : (j : Int) < (n : Int) := by omega
        have j0 : (0 : Int) ≤ (j : Int) := by omega
        have i2 : (i : Int) < (n : Int) := by omega
        have hws := on.out.size
        have hgw : g < wr.heap.size := Nat.lt_of_lt_of_le hgl hws
        go_upto_region 8 with (fail)
        have ba : Below wr.heap.size wr (wr.alloc (.cells #[.string m.f, .string m.t, .int .i64 m.a.wall, .int .i32 m.a.logic, .int .i32 m.a.tag, .int .i32 m.nd, .int .i32 m.nu] 63)) := (Below.refl _ _).alloc (Nat.le_refl _) _
        have BA := Lib.hid ba
        have tc := fun o => World.cell?_alloc_mark wr #[.string m.f, .string m.t, .int .i64 m.a.wall, .int .i32 m.a.logic, .int .i32 m.a.tag, .int .i32 m.nd, .int .i32 m.nu] 63 (0, 0) o
        have t0 := tc 0; have t1 := tc 1; have t2 := tc 2; have t3 := tc 3; have t4 := tc 4; have t5 := tc 5; have t6 := tc 6
        have tl : wr.heap.size < (wr.alloc (.cells #[.string m.f, .string m.t, .int .i64 m.a.wall, .int .i32 m.a.logic, .int .i32 m.a.tag, .int .i32 m.nd, .int .i32 m.nu] 63)).heap.size := by simp
        clear tc c0 c1 c2 c3 c4 c5 c6 ba
        generalize hwa : wr.alloc (.cells #[.string m.f, .string m.t, .int .i64 m.a.wall, .int .i32 m.a.logic, .int .i32 m.a.tag, .int .i32 m.nd, .int .i32 m.nu] 63) = wa at *
        simp at t0 t1 t2 t3 t4 t5 t6
        cases D
        · have hst := Lib.hid (hsk rfl)
          clear hsk hkp hwa
          go_wp2_with (go_at_call 36; refine (HC.out _ BA.out).mono ?_; rintro e w5 ⟨rfl, hb⟩)
          have hb5 := BA.out.trans (hb.mono BA.out.size)
          go_roundw
          case rel => exact ⟨i, j + 1, zs, rfl, by go_num, by omega, by omega, hst, Lib.hid (own_keep own.out hb5 (Nat.le_refl _)), Lib.hid (on.out.below hb5 hws)⟩
          case measure => simp [intOf]; omega
        · have hst := Lib.hid (hkp rfl)
          clear hsk hkp hwa
          go_upto_region 9 with (go_at_call 36; refine (HC.out _ BA.out).mono ?_; rintro e w5 ⟨rfl, hb⟩)
          have hb5 := BA.out.trans (hb.mono BA.out.size)
          have O5 := Lib.hid (own_keep own.out hb5 (Nat.le_refl _))
          have N5 := Lib.hid (on.out.below hb5 hws)
          have P5 := own_putM O5.out i m (by omega)
          have vw0 := (hb.cell (p := ⟨wr.heap.size, 0, none⟩) tl).trans t0
          have vw1 := (hb.cell (p := ⟨wr.heap.size, 1, none⟩) tl).trans t1
          have vw2 := (hb.cell (p := ⟨wr.heap.size, 2, none⟩) tl).trans t2
          have vw3 := (hb.cell (p := ⟨wr.heap.size, 3, none⟩) tl).trans t3
          have vw4 := (hb.cell (p := ⟨wr.heap.size, 4, none⟩) tl).trans t4
          have vw5 := (hb.cell (p := ⟨wr.heap.size, 5, none⟩) tl).trans t5
          have vw6 := (hb.cell (p := ⟨wr.heap.size, 6, none⟩) tl).trans t6
          have hzi : i < zs.length := by omega
          obtain ⟨d0, d1, d2, d3, d4, d5, d6⟩ := own_mk O5.out i zs[i] (List.getElem?_eq_getElem hzi)
          have hfz := O5.out.frozenAt
          have hn5 : g ≠ wr.heap.size := by omega
          clear hb hb5 t0 t1 t2 t3 t4 t5 t6 tl own on
          generalize zs[i] = mo at *
          unfold setM at P5
          have PA := Lib.hid P5.1
          have PB : Hid (Only W.heap.size g W _) := Lib.hid (Only.trans N5.out ⟨P5.2.os, P5.2.tape, P5.2.output, P5.2.size, fun k hk hkg => P5.2.block k (by have := N5.out.size; omega) (fun e => hkg (by injection e))⟩)
          clear P5 N5
          go_wp2_with fail
          go_roundw
          case rel => exact ⟨i + 1, j + 1, zs.set i m, by go_num, by go_num, by omega, by omega, hst, PA, PB⟩
          case measure => simp [intOf]; omega
      · have hjn : j = n := by omega
        subst hjn
        have hfin : zs.take i = dropL s ys := by
          have h := cp.out
          have e := HL.out
          subst e
          exact h.done
        obtain ⟨w', hrun, own2, gr2⟩ := run_clear_own (k := i) (m := j - i) (c := c - i) styM wr 0 base own.out zeroM (by rfl) zM1 (by omega) (by omega)
        have hcl : ∀ ty, (Builtin.clear_ #[56] ty #[.slice (some ⟨g, i * 7, none⟩) (j - i) (c - i)]).run Try.prog wr = .ok (.tuple #[]) w' := fun ty => hrun
        rw [mv_take, hfin] at own2
        have OW := Lib.hid own2
        have NW : Hid (Only W.heap.size g W w') := Lib.hid (Only.trans on.out ⟨gr2.os, gr2.tape, gr2.output, gr2.size, fun k hk hkg => gr2.block k (by have := on.out.size; omega) (fun e => hkg (by injection e))⟩)
        have hlen : i = (dropL s ys).length := by rw [← hfin, List.length_take]; have := cp.out.len; have := HL.out; omega
        have HLN := Lib.hid hlen
        have k1 : ¬ ((j : Int) < (j : Int)) := by omega
        have k2 : (i : Int) ≤ (j : Int) := by omega
        have k3 : i ≤ j := by omega
        have k4 : ¬ (c = i) := by omega
        have k5 : i ≤ c := by omega
        clear own2 gr2 hrun hlen hfin cp own on
        go_wp2_with fail
        go_ret
        exact ⟨i, rfl, HLN.out, OW.out, NW.out⟩
end Go.Proofs.Ytnhobjjgpnbnmaa
