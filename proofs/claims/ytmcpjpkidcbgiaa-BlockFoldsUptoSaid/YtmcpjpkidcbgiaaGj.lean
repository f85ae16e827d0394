/- Walk: the document merges lists. -/
import Derived.Test.YtmcpjpkidcbgiaaGf
import Derived.Test.YtmcpjpkidcbgiaaNv
import Derived.Test.YtmcpjpkidcbgiaaKit
namespace Go.Proofs.Ytmcpjpkidcbgiaa
open Go.RowKit Go.St Go.Maps
set_option linter.unusedVariables false
set_option linter.unusedSimpArgs false
set_option maxRecDepth 100000

/-- Places as cells. -/
def iv (l : List Nat) : List Value := l.map (fun (a : Nat) => Value.int .i64 (a : Int))
theorem iv_length (l : List Nat) : (iv l).length = l.length := by simp [iv]
theorem iv_get {l : List Nat} {i a : Nat} (h : l[i]? = some a) : (iv l)[i]? = some (.int .i64 (a : Int)) := by simp [iv, h]
theorem iv_set (l : List Nat) (j a : Nat) : (iv l).set j (.int .i64 (a : Int)) = iv (l.set j a) := by simp [iv, List.map_set]
structure MrS (W : World) (p k : Nat) (L : List (List Ent)) (at_ : List Nat) : Prop where
  own : W.ownsRow p 3 1 (.slice (some ⟨p, 0, none⟩) k k) k (iv at_)
  len : at_.length = k
  le : ∀ (i : Nat) (l : List Ent) (a : Nat), L[i]? = some l → at_[i]? = some a → a ≤ l.length
theorem cur_len {L : List (List Ent)} {at_ : List Nat} (h : at_.length = L.length) : (curM L at_).length = L.length := by
  unfold curM
  rw [List.length_zipWith, h, Nat.min_self]
theorem drop_get {l r : List Ent} {a : Nat} {x : Ent} (h : l.drop a = x :: r) : l[a]? = some x ∧ r = l.drop (a + 1) := by
  have h1 : (l.drop a)[0]? = some x := by rw [h]; rfl
  rw [List.getElem?_drop, Nat.add_zero] at h1
  refine ⟨h1, ?_⟩
  rw [drop_at h1] at h
  injection h with _ h
  exact h.symm

set_option maxHeartbeats 6400000 in
theorem rmerge_any (A : Option Addr) (k c : Nat) (vs : List Value) (ls : List (List Ent)) (hv : vs.length = k) (hl : ls.length = k) (hk : k ≤ 1000000) (hT : totL ls ≤ 1000000) (w : World) (hr : Rd w w.heap.size A vs) (hls : LsB w w.heap.size vs ls) :
    Calls Try.prog 36 #[.slice A k c] w fun e w' => ∃ v, e = .returned (.tuple #[v, .int .i64 (mrgE ls)]) ∧ w'.ownsRow w.heap.size 43 4 v (mrgL ls).length (env (mrgL ls)) ∧ Below w.heap.size w w' := by
  obtain ⟨w1, hmk, own1, gr1⟩ := run_mk styI w w.heap.size k (by omega) (by unfold maxLen; omega) (Nat.le_refl _)
  obtain ⟨p, hp⟩ : ∃ p, p = w.heap.size := ⟨_, rfl⟩
  have hb1 : Below w.heap.size w w1 := (Below.refl _ _).grown gr1 (Nat.le_refl _) (by simp)
  have hO1 : w1.ownsRow w.heap.size 3 1 (.slice (some ⟨w.heap.size, 0, none⟩) k k) k (iv (List.replicate k 0)) := by
    have e : (madeCells (Value.cells (.int .i64 0)) (k * 1)).toList = iv (List.replicate k 0) := by
      rw [Nat.mul_one]
      show (madeCells #[.int .i64 0] k).toList = _
      rw [toList_madeCells_one]
      unfold iv
      rw [List.map_replicate]
      rfl
    rw [← e]
    exact own1
  have hpz : w.heap.size < w1.heap.size := (own1.lt _ rfl).2
  rw [← hp] at hr hls hmk hb1 hO1 hpz ⊢
  have hpw : p ≤ w.heap.size := by omega
  have hpw1 : p ≤ w1.heap.size := by omega
  have HV := Lib.hid hv
  have HL := Lib.hid hl
  have HR := Lib.hid (hr.below hb1)
  have HLS := Lib.hid (hls.below hb1)
  have B1 := Lib.hid hb1
  have M1 : Hid (MrS w1 p k ls (List.replicate k 0)) := Lib.hid ⟨hO1, by simp, fun i l a _ h => by rw [List.getElem?_replicate] at h; split at h <;> simp at h; omega⟩
  obtain ⟨E, hE⟩ : ∃ E, E = mrgE ls := ⟨_, rfl⟩
  obtain ⟨L, hL⟩ : ∃ L, L = mrgL ls := ⟨_, rfl⟩
  rw [← hE, ← hL]
  have HE := Lib.hid hE
  have HLL := Lib.hid hL
  clear hr hls hv hl hE hL own1 gr1 hb1 hO1 hp
  go_enter Try.func36, Try.ntmps36
  go_wp2_with fail
  clear hmk
  go_loopw [5] (fun s5 wr => ∃ i : Nat, s5 = .int .i64 (i : Int) ∧ i ≤ k ∧ Hid (∀ (j : Nat) (l : List Ent), j < i → ls[j]? = some l → risE l = true) ∧ Hid (Below w1.heap.size w1 wr)) (fun s5 _ => k - (intOf s5).toNat)
  case atStart => exact ⟨0, rfl, Nat.zero_le _, Lib.hid (fun j l h => by omega), Lib.hid (Below.refl _ _)⟩
  case round =>
    obtain ⟨i, rfl, hi, HA, B2⟩ := hrel
    obtain ⟨w2, rfl⟩ : ∃ x, x = wr := ⟨_, rfl⟩
    have hw2 := B2.out.size
    by_cases hlt : i < k
    · obtain ⟨l, hll⟩ : ∃ l, ls[i]? = some l := ⟨_, List.getElem?_eq_getElem (by rw [HL.out]; exact hlt)⟩
      obtain ⟨Ai, ci, hvi, hcl, hri⟩ := HLS.out i l hll
      have hln := Nat.le_trans (tot_get hll) hT
      obtain ⟨gl, ol, rfl, hgl, hce⟩ := (HR.out.below (B2.out.mono hpw1)).at_ hvi
      have HLI := Lib.hid hll
      have i1 : (i : Int) < (k : Int) := by omega
      have i0 : (0 : Int) ≤ (i : Int) := by omega
      have zg : gl < w2.heap.size := by omega
      have HO := Lib.hid (rordered_any Ai l.length ci l rfl hln p w2 (hri.below (B2.out.mono hpw1)) (by omega))
      clear hvi hri hll
      cases hrs : risE l
      · rw [hrs] at HO
        have hbad : ls.all risE = false := by
          rw [List.all_eq_false]
          exact ⟨l, List.mem_of_getElem? HLI.out, by rw [hrs]; decide⟩
        have SE := mrg_bad0 hbad
        have SE1 := Lib.hid (HE.out.trans SE.1)
        have SE2 := Lib.hid (HLL.out.trans SE.2)
        clear SE hbad HE HLL hrs
        go_wp2_with fail
        refine HO.out.mono ?_
        rintro e w3 ⟨rfl, hb⟩
        have B3 := Lib.hid (B1.out.trans ((B2.out.trans (hb.mono hw2)).mono hpw1))
        clear hb HO
        go_wp2_with fail
        go_ret2
        exact ⟨_, by rw [SE1.out]; rfl, by rw [SE2.out]; exact World.ownsRow_nil _ _ _ _, B3.out⟩
      · rw [hrs] at HO
        have HA9 : Hid (∀ (j : Nat) (l : List Ent), j < i + 1 → ls[j]? = some l → risE l = true) := Lib.hid (fun j l' h1 h2 => by
          rcases Nat.lt_or_ge j i with h | h
          · exact HA.out j l' h h2
          · have e : j = i := by omega
            subst e
            rw [HLI.out] at h2
            injection h2 with h2
            rw [← h2]
            exact hrs)
        clear hrs
        go_wp2_with fail
        refine HO.out.mono ?_
        rintro e w3 ⟨rfl, hb⟩
        have B3 := Lib.hid (B2.out.trans (hb.mono hw2))
        clear hb HO
        go_wp2_with fail
        go_roundw
        case rel => exact ⟨i + 1, by go_num, by omega, HA9, B3⟩
        case measure => simp [intOf]; omega
    · have hall : ls.all risE = true := by
        rw [List.all_eq_true]
        intro l hl
        obtain ⟨j, hj⟩ := List.mem_iff_getElem?.1 hl
        exact HA.out j l (by have := (List.getElem?_eq_some_iff.1 hj).1; have := HL.out; omega) hj
      have HALL := Lib.hid hall
      have i1 : ¬ (i : Int) < (k : Int) := by omega
      have HC0 := Lib.hid (cur_zero ls k HL.out)
      have M2 : Hid (MrS w2 p k ls (List.replicate k 0)) := Lib.hid ⟨own_keep M1.out.own B2.out (Nat.le_refl _), M1.out.len, M1.out.le⟩
      have B12 := Lib.hid (B1.out.trans (B2.out.mono hpw1))
      obtain ⟨T, hTT⟩ : ∃ T, T = totL ls := ⟨_, rfl⟩
      obtain ⟨MM, hMM⟩ : ∃ MM, MM = mrgM ls [] := ⟨_, rfl⟩
      have HMM := Lib.hid hMM
      have HT0 : Hid (0 + totL (curM ls (List.replicate k 0)) = T) := Lib.hid (by rw [HC0.out]; omega)
      have HM0 : Hid (MM = mrgM (curM ls (List.replicate k 0)) []) := Lib.hid (by rw [HC0.out]; exact hMM)
      have HI0 : Hid (InvM (curM ls (List.replicate k 0)) []) := Lib.hid (by rw [HC0.out]; exact inv_start HALL.out)
      have HTL := Lib.hid hTT
      rw [← hTT] at hT
      clear hMM hall hlt HA HC0 M1 B2 hTT
      go_wp2_with fail
      go_loopw [6] (fun s6 wr => ∃ (A6 : Option Addr) (c6 : Nat) (out : List Ent) (at_ : List Nat), s6 = .slice A6 out.length c6 ∧ Hid (wr.ownsRow w1.heap.size 43 4 (.slice A6 out.length c6) out.length (env out)) ∧ Hid (MrS wr p k ls at_) ∧ out.length + totL (curM ls at_) = T ∧ Hid (MM = mrgM (curM ls at_) out) ∧ Hid (InvM (curM ls at_) out) ∧ Hid (Below p w wr) ∧ w1.heap.size ≤ wr.heap.size) (fun s6 _ => T + 1 - lenS s6)
      case atStart => exact ⟨none, 0, [], List.replicate k 0, rfl, Lib.hid (World.ownsRow_nil _ _ _ _), M2, HT0.out, HM0, HI0, B12, hw2⟩
      case round =>
        clear M2 B12 HM0 HI0 HT0 hw2
        obtain ⟨A6, c6, out, at_, rfl, O3, M3, hTo, HM, HIN, B3, hz3⟩ := hrel
        obtain ⟨w3, rfl⟩ : ∃ x, x = wr := ⟨_, rfl⟩
        have HCL : Hid ((curM ls at_).length = k) := Lib.hid (by rw [cur_len (by rw [M3.out.len, HL.out]), HL.out])
        have hp3 : p < w3.heap.size := by omega
        go_wp2_with fail
        go_loopw [7, 8] (fun s7 s8 wr => ∃ (i : Nat) (b : Option (Nat × Ent)), s8 = .int .i64 (i : Int) ∧ i ≤ k ∧ s7 = .int .i64 (bI b) ∧ Hid (bstM (curM ls at_) 0 none = bstM ((curM ls at_).drop i) i b) ∧ Hid (∀ j x, b = some (j, x) → ∃ r, (curM ls at_)[j]? = some (x :: r)) ∧ Hid (Below w3.heap.size w3 wr)) (fun _ s8 _ => k - (intOf s8).toNat)
        case atStart => exact ⟨0, none, rfl, Nat.zero_le _, rfl, Lib.hid rfl, Lib.hid (fun j x h => by cases h), Lib.hid (Below.refl _ _)⟩
        case round =>
          obtain ⟨i, b, rfl, hi, rfl, HB, HI, B4⟩ := hrel
          obtain ⟨w4, rfl⟩ : ∃ x, x = wr := ⟨_, rfl⟩
          have HW : Hid (Below p w1 w4) := Lib.hid (by
            have h := B3.out.trans (B4.out.mono (by omega))
            exact ⟨h.os.trans B1.out.os.symm, h.tape.trans B1.out.tape.symm, h.output.trans B1.out.output.symm, Nat.le_trans hz3 B4.out.size, fun q hq => (h.block q hq).trans (B1.out.block q hq).symm⟩)
          by_cases hlt : i < k
          · obtain ⟨l, hll⟩ : ∃ l, ls[i]? = some l := ⟨_, List.getElem?_eq_getElem (by rw [HL.out]; exact hlt)⟩
            obtain ⟨a, haa⟩ : ∃ a, at_[i]? = some a := ⟨_, List.getElem?_eq_getElem (by rw [M3.out.len]; exact hlt)⟩
            obtain ⟨Ai, ci, hvi, hcl, hri⟩ := HLS.out i l hll
            have hal := M3.out.le i l a hll haa
            have hln : l.length ≤ 1000000 := by have := tot_get hll; have := HTL.out; omega
            have HCU := Lib.hid (cur_at hll haa)
            have HDR := Lib.hid (drop_at (cur_at hll haa))
            obtain ⟨gl, ol, rfl, hgl, hce⟩ := (HR.out.below HW.out).at_ hvi
            have O4 := own_keep M3.out.own B4.out (Nat.le_refl _)
            have hca := O4.cellAt i (by omega)
            rw [iv_get haa] at hca
            have hw4 := B4.out.size
            have zgl : gl < w4.heap.size := by omega
            have zp : p < w4.heap.size := by omega
            have i1 : (i : Int) < (k : Int) := by omega
            have i0 : (0 : Int) ≤ (i : Int) := by omega
            have R4 := Lib.hid (hri.below HW.out)
            clear O4 hvi hri haa
            by_cases hla : a < l.length
            · obtain ⟨x, hx⟩ : ∃ x, l[a]? = some x := ⟨_, List.getElem?_eq_getElem hla⟩
              obtain ⟨bi, oi, rfl, hbi, hce2⟩ := en_at R4.out hx
              obtain ⟨d0, d1, d2, d3⟩ := hce2
              have HXD := Lib.hid (drop_at hx)
              have l0 : (a : Int) < (l.length : Int) := by omega
              have l1 : decide ((a : Int) < (l.length : Int)) = true := decide_eq_true l0
              have l2 : (0 : Int) ≤ (a : Int) := by omega
              have zbi : bi < w4.heap.size := by omega
              have HI9 : Hid (∀ j' x', some (i, x) = some (j', x') → ∃ r, (curM ls at_)[j']? = some (x' :: r)) := Lib.hid (fun j' x' h => by
                injection h with h
                injection h with h1 h2
                subst h1 h2
                exact ⟨_, by rw [HCU.out, HXD.out]⟩)
              clear hx hll
              cases b with
              | none =>
                have HB9 : Hid (bstM (curM ls at_) 0 none = bstM ((curM ls at_).drop (i + 1)) (i + 1) (some (i, x))) := Lib.hid (by rw [HB.out, HDR.out, HXD.out, bst_cons]; rfl)
                rw [show bI none = -1 from rfl]
                clear HB HDR HI HCU HXD
                go_wp2_with fail
                refine wp_qall (by kernel_rfl) (by kernel_rfl) ?_
                intro hcg
                repeat (first | go_big_quiet_step (fail) | quiet_step (fail))
                refine wpQuiet_nil ?_
                intro wq hbwq hcwq hfwq
                clear hcg
                have B9 := Lib.hid (B4.out.trans (hbwq.mono B4.out.size))
                clear hbwq hcwq hfwq
                go_wp2_with fail
                go_roundw
                case rel => exact ⟨i + 1, some (i, x), by go_num, by omega, rfl, HB9, HI9, B9⟩
                case measure => simp [intOf]; omega
              | some q =>
                obtain ⟨j, y⟩ := q
                obtain ⟨r', hj⟩ := HI.out j y rfl
                have hjk : j < k := by have := (List.getElem?_eq_some_iff.1 hj).1; rw [HCL.out] at this; exact this
                obtain ⟨lj, hlj⟩ : ∃ l, ls[j]? = some l := ⟨_, List.getElem?_eq_getElem (by rw [HL.out]; exact hjk)⟩
                obtain ⟨aj, haj⟩ : ∃ a, at_[j]? = some a := ⟨_, List.getElem?_eq_getElem (by rw [M3.out.len]; exact hjk)⟩
                have hcj := cur_at hlj haj
                rw [hj] at hcj
                injection hcj with hcj
                have hyj := (drop_get hcj.symm).1
                have hajl : aj < lj.length := (List.getElem?_eq_some_iff.1 hyj).1
                have hljn : lj.length ≤ 1000000 := by have := tot_get hlj; have := HTL.out; omega
                obtain ⟨Aj, cj, hvj, hcjl, hrj⟩ := HLS.out j lj hlj
                obtain ⟨gl2, ol2, e2, hgl2, hcej⟩ := (HR.out.below HW.out).at_ hvj
                injection e2 with e2
                injection e2 with e3 e4
                subst e3 e4
                have hcaj := (own_keep M3.out.own B4.out (Nat.le_refl _)).cellAt j (by omega)
                rw [iv_get haj] at hcaj
                obtain ⟨bj, oj, rfl, hbj, hce3⟩ := en_at (hrj.below HW.out) hyj
                obtain ⟨f0, f1, f2, f3⟩ := hce3
                have zbj : bj < w4.heap.size := by omega
                have j0 : ¬ (j : Int) < 0 := by omega
                have j1 : decide ((j : Int) < 0) = false := decide_eq_false j0
                have j2 : (j : Int) < (k : Int) := by omega
                have j3 : (0 : Int) ≤ (j : Int) := by omega
                have j4 : (aj : Int) < (lj.length : Int) := by omega
                have j5 : (0 : Int) ≤ (aj : Int) := by omega
                rw [show bI (some (j, y)) = (j : Int) from rfl]
                have HC := Lib.hid (fun W => rahead_any x y W)
                have HBX : Hid (bstM (curM ls at_) 0 none = bstM ((curM ls at_).drop (i + 1)) (i + 1) (if ltE x y = true then some (i, x) else some (j, y))) := Lib.hid (by rw [HB.out, HDR.out, HXD.out, bst_cons]; rfl)
                clear HB HDR hvj hrj hj hjk hlj haj hcj hyj HCU HXD
                cases hxy : ltE x y
                · rw [hxy] at HC HBX
                  have HB9 : Hid (bstM (curM ls at_) 0 none = bstM ((curM ls at_).drop (i + 1)) (i + 1) (some (j, y))) := Lib.hid HBX.out
                  clear HBX hxy HI9
                  have HI9 := HI
                  go_wp2_with fail
                  refine wp_qall (by kernel_rfl) (by kernel_rfl) ?_
                  intro hcg
                  repeat (first | go_big_quiet_step ((with_reducible (exact Calls.reg (HC.out _)))) | quiet_step ((with_reducible (exact Calls.reg (HC.out _)))))
                  refine wpQuiet_nil ?_
                  intro wq hbwq hcwq hfwq
                  clear hcg
                  have B9 := Lib.hid (B4.out.trans (hbwq.mono B4.out.size))
                  clear hbwq hcwq hfwq
                  go_wp2_with fail
                  go_roundw
                  case rel => exact ⟨i + 1, some (j, y), by go_num, by omega, rfl, HB9, HI9, B9⟩
                  case measure => simp [intOf]; omega
                · rw [hxy] at HC HBX
                  have HB9 : Hid (bstM (curM ls at_) 0 none = bstM ((curM ls at_).drop (i + 1)) (i + 1) (some (i, x))) := Lib.hid HBX.out
                  clear HBX hxy HI
                  go_wp2_with fail
                  refine wp_qall (by kernel_rfl) (by kernel_rfl) ?_
                  intro hcg
                  repeat (first | go_big_quiet_step ((with_reducible (exact Calls.reg (HC.out _)))) | quiet_step ((with_reducible (exact Calls.reg (HC.out _)))))
                  refine wpQuiet_nil ?_
                  intro wq hbwq hcwq hfwq
                  clear hcg
                  have B9 := Lib.hid (B4.out.trans (hbwq.mono B4.out.size))
                  clear hbwq hcwq hfwq
                  go_wp2_with fail
                  go_roundw
                  case rel => exact ⟨i + 1, some (i, x), by go_num, by omega, rfl, HB9, HI9, B9⟩
                  case measure => simp [intOf]; omega
            · have l0 : ¬ (a : Int) < (l.length : Int) := by omega
              have l1 : decide ((a : Int) < (l.length : Int)) = false := decide_eq_false l0
              have HB9 : Hid (bstM (curM ls at_) 0 none = bstM ((curM ls at_).drop (i + 1)) (i + 1) b) := Lib.hid (by rw [HB.out, HDR.out, List.drop_eq_nil_of_le (show l.length ≤ a by omega), bst_empty])
              have HI9 := HI
              clear HB HDR HI HCU hll
              go_wp2_with fail
              refine wp_qall (by kernel_rfl) (by kernel_rfl) ?_
              intro hcg
              repeat (first | go_big_quiet_step (fail) | quiet_step (fail))
              refine wpQuiet_nil ?_
              intro wq hbwq hcwq hfwq
              clear hcg
              have B9 := Lib.hid (B4.out.trans (hbwq.mono B4.out.size))
              clear hbwq hcwq hfwq
              go_wp2_with fail
              go_roundw
              case rel => exact ⟨i + 1, b, by go_num, by omega, rfl, HB9, HI9, B9⟩
              case measure => simp [intOf]; omega
          · have i1 : ¬ (i : Int) < (k : Int) := by omega
            have HBS : Hid (bstM (curM ls at_) 0 none = b) := Lib.hid (by rw [HB.out, List.drop_eq_nil_of_le (by rw [HCL.out]; omega), bst_nil])
            have O4 := Lib.hid (own_keep O3.out B4.out (Nat.le_refl _))
            have B34 := Lib.hid (B3.out.trans (B4.out.mono (by omega)))
            have M4 : Hid (MrS w4 p k ls at_) := Lib.hid ⟨own_keep M3.out.own B4.out (Nat.le_refl _), M3.out.len, M3.out.le⟩
            have hz4 : w1.heap.size ≤ w4.heap.size := Nat.le_trans hz3 B4.out.size
            clear HB hlt O3 M3 B3 B4 hp3
            cases b with
            | none =>
              have SE := mrg_res1 HALL.out (HMM.out.symm.trans (HM.out.trans (mrg_end HBS.out out)))
              have SE1 := Lib.hid (HE.out.trans SE.1)
              have SE2 := Lib.hid (HLL.out.trans SE.2)
              rw [show bI none = -1 from rfl]
              clear SE HM HBS HI HIN
              go_wp2_with fail
              go_ret2
              exact ⟨_, by rw [SE1.out]; rfl, by rw [SE2.out]; exact own_base O4.out (by omega), B34.out⟩
            | some q =>
              obtain ⟨j, x⟩ := q
              obtain ⟨r, hj⟩ := HI.out j x rfl
              have HJ := Lib.hid hj
              have hjk : j < k := by have := (List.getElem?_eq_some_iff.1 hj).1; rw [HCL.out] at this; exact this
              obtain ⟨lj, hlj⟩ : ∃ l, ls[j]? = some l := ⟨_, List.getElem?_eq_getElem (by rw [HL.out]; exact hjk)⟩
              obtain ⟨a, haj⟩ : ∃ a, at_[j]? = some a := ⟨_, List.getElem?_eq_getElem (by rw [M4.out.len]; exact hjk)⟩
              have hcj := cur_at hlj haj
              rw [hj] at hcj
              injection hcj with hcj
              have hyj := (drop_get hcj.symm).1
              have hajl : a < lj.length := (List.getElem?_eq_some_iff.1 hyj).1
              have hljn : lj.length ≤ 1000000 := by have := tot_get hlj; have := HTL.out; omega
              have HCS := Lib.hid (cur_set hlj haj hj)
              have HLJ := Lib.hid hlj
              have HAJ := Lib.hid haj
              obtain ⟨Aj, cj, hvj, hcjl, hrj⟩ := HLS.out j lj hlj
              obtain ⟨gl2, ol2, rfl, hgl2, hcej⟩ := (HR.out.below HW.out).at_ hvj
              have HGJ := Lib.hid hcej
              obtain ⟨bj, oj, rfl, hbj, hce3⟩ := en_at (hrj.below HW.out) hyj
              have HF := Lib.hid hce3
              have hcaj := M4.out.own.cellAt j (by omega)
              rw [iv_get haj] at hcaj
              have HAJC := Lib.hid hcaj
              have zbj : bj < w4.heap.size := by omega
              have zgl : gl2 < w4.heap.size := by omega
              have zp : p < w4.heap.size := by omega
              have j0 : ¬ (j : Int) < 0 := by omega
              have j2 : (j : Int) < (k : Int) := by omega
              have j3 : (0 : Int) ≤ (j : Int) := by omega
              have j4 : (a : Int) < (lj.length : Int) := by omega
              have j5 : (0 : Int) ≤ (a : Int) := by omega
              rw [show bI (some (j, x)) = (j : Int) from rfl]
              clear hj hrj HI hvj hlj haj hcj hyj hce3 hcaj hcej
              go_upto_region 16 with (fail)
              refine wp_heldall (S := fun W => Below w4.heap.size w4 W) 12 (by kernel_rfl) rfl (Below.drew (Below.refl _ _)) (fun hHeld => ?_)
              refine takeL (i := 0) (v := ?_) rfl (by kernel_rfl) (by kernel_rfl) (by kernel_rfl) (fun _ _ _ h => h) ⟨by rfl, ?_⟩ (by first | assumption | trivial) ?_
              rotate_left
              · intro W9 hSw
                (try dsimp only at hSw)
                go_simp
                try with_reducible rfl
              (try simp only [Act.put, List.setIfInBounds_toArray, List.set_cons_zero, List.set_cons_succ])
              refine takeL (i := 1) (v := ?_) rfl (by kernel_rfl) (by kernel_rfl) (by kernel_rfl) (fun _ _ _ h => h) ⟨by rfl, ?_⟩ (by first | assumption | trivial) ?_
              rotate_left
              · intro W9 hSw
                (try dsimp only at hSw)
                go_simp
                try with_reducible rfl
              (try simp only [Act.put, List.setIfInBounds_toArray, List.set_cons_zero, List.set_cons_succ])
              refine takeL (i := 2) (v := ?_) rfl (by kernel_rfl) (by kernel_rfl) (by kernel_rfl) (fun _ _ _ h => h) ⟨by rfl, ?_⟩ (by first | assumption | trivial) ?_
              rotate_left
              · intro W9 hSw
                (try dsimp only at hSw)
                go_simp
                try with_reducible rfl
              (try simp only [Act.put, List.setIfInBounds_toArray, List.set_cons_zero, List.set_cons_succ])
              refine takeL (i := 3) (v := ?_) rfl (by kernel_rfl) (by kernel_rfl) (by kernel_rfl) (fun _ _ _ h => h) ⟨by rfl, ?_⟩ (by first | assumption | trivial) ?_
              rotate_left
              · intro W9 hSw
                (try dsimp only at hSw)
                (have y0 := (hSw.cell (p := ⟨gl2, ol2 + j, none⟩) zgl).trans HGJ.out; have yl := World.block_lt_of_cell? W9 _ y0)
                go_simp
                try with_reducible rfl
              (try simp only [Act.put, List.setIfInBounds_toArray, List.set_cons_zero, List.set_cons_succ])
              refine takeL (i := 4) (v := ?_) rfl (by kernel_rfl) (by kernel_rfl) (by kernel_rfl) (fun _ _ _ h => h) ⟨by rfl, ?_⟩ (by first | assumption | trivial) ?_
              rotate_left
              · intro W9 hSw
                (try dsimp only at hSw)
                go_simp
                try with_reducible rfl
              (try simp only [Act.put, List.setIfInBounds_toArray, List.set_cons_zero, List.set_cons_succ])
              refine takeL (i := 5) (v := ?_) rfl (by kernel_rfl) (by kernel_rfl) (by kernel_rfl) (fun _ _ _ h => h) ⟨by rfl, ?_⟩ (by first | assumption | trivial) ?_
              rotate_left
              · intro W9 hSw
                (try dsimp only at hSw)
                go_simp
                try with_reducible rfl
              (try simp only [Act.put, List.setIfInBounds_toArray, List.set_cons_zero, List.set_cons_succ])
              refine takeL (i := 6) (v := ?_) rfl (by kernel_rfl) (by kernel_rfl) (by kernel_rfl) (fun _ _ _ h => h) ⟨by rfl, ?_⟩ (by first | assumption | trivial) ?_
              rotate_left
              · intro W9 hSw
                (try dsimp only at hSw)
                go_simp
                try with_reducible rfl
              (try simp only [Act.put, List.setIfInBounds_toArray, List.set_cons_zero, List.set_cons_succ])
              refine takeL (i := 7) (v := ?_) rfl (by kernel_rfl) (by kernel_rfl) (by kernel_rfl) (fun _ _ _ h => h) ⟨by rfl, ?_⟩ (by first | assumption | trivial) ?_
              rotate_left
              · intro W9 hSw
                (try dsimp only at hSw)
                (have y0 := (hSw.cell (p := ⟨p, j, none⟩) zp).trans HAJC.out; have yl := World.block_lt_of_cell? W9 _ y0)
                go_simp
                try with_reducible rfl
              (try simp only [Act.put, List.setIfInBounds_toArray, List.set_cons_zero, List.set_cons_succ])
              refine takeL (i := 8) (v := ?_) rfl (by kernel_rfl) (by kernel_rfl) (by kernel_rfl) (fun _ _ _ h => h) ⟨by rfl, ?_⟩ (by first | assumption | trivial) ?_
              rotate_left
              · intro W9 hSw
                (try dsimp only at hSw)
                go_simp
                try with_reducible rfl
              (try simp only [Act.put, List.setIfInBounds_toArray, List.set_cons_zero, List.set_cons_succ])
              refine takeL (i := 9) (v := ?_) rfl (by kernel_rfl) (by kernel_rfl) (by kernel_rfl) (fun _ _ _ h => h) ⟨by rfl, ?_⟩ (by first | assumption | trivial) ?_
              rotate_left
              · intro W9 hSw
                (try dsimp only at hSw)
                (obtain ⟨y0, y1, y2, y3⟩ := HF.out.below zbj hSw; have yl := World.block_lt_of_cell? W9 _ y0)
                go_simp
                try with_reducible rfl
              (try simp only [Act.put, List.setIfInBounds_toArray, List.set_cons_zero, List.set_cons_succ])
              have SB := Lib.hid hHeld
              clear hHeld
              generalize w4.drew = Y at *
              refine wpAnyH_ready (rs := [10]) (by kernel_rfl) (by simp) ?_
              refine consL rfl (by rfl) (fun K hK => ?_) ?_
              · go_simp
                have BN := BxV.new Y #[.string { data := #[] }, .string { data := #[] }, .int .i64 0, .bool false] 43
                refine hK.out _ _ (SB.out.alloc SB.out.size _) (fun _ => ?_)
                clear hK K
                (try simp only [Act.put, List.setIfInBounds_toArray, List.set_cons_zero, List.set_cons_succ])
                have q0 := BN.c 0 _ rfl
                have q1 := BN.c 1 _ rfl
                have q2' := BN.c 2 _ rfl
                have q3 := BN.c 3 _ rfl
                have qf := BN.fz
                have ql := BN.lt
                refine wpAnyH_ready (rs := [11]) (by kernel_rfl) (by simp) ?_
                refine consL rfl (by rfl) (fun K hK => ?_) ?_
                · go_simp
                  have hbn : Below w4.heap.size w4 (Y.alloc (.cells #[.string x.key, .string x.val, .int .i64 x.seq, .bool x.del] 43)) := SB.out.alloc SB.out.size _
                  have X5 := Lib.hid (BxV.new Y #[.string x.key, .string x.val, .int .i64 x.seq, .bool x.del] 43)
                  have HNX : Hid (∀ g, (Value.slice A6 out.length c6).ownBlock = some g → g ≠ Y.heap.size) := Lib.hid (fun g hg => by have h1 := (O4.out.lt g hg).2; have h2 := SB.out.size; omega)
                  refine hK.out _ _ hbn (fun _ => ?_)
                  have O5 := Lib.hid (own_keep O4.out hbn (Nat.le_refl _))
                  have M5 : Hid (MrS (Y.alloc (.cells #[.string x.key, .string x.val, .int .i64 x.seq, .bool x.del] 43)) p k ls at_) := Lib.hid ⟨own_keep M4.out.own hbn (Nat.le_refl _), M4.out.len, M4.out.le⟩
                  have B5 := Lib.hid (B34.out.trans (hbn.mono (by omega)))
                  have hz5 : w1.heap.size ≤ (Y.alloc (.cells #[.string x.key, .string x.val, .int .i64 x.seq, .bool x.del] 43)).heap.size := Nat.le_trans hz4 hbn.size
                  clear hK K hbn BN q0 q1 q2' q3 qf ql O4 M4 B34 HAJC HGJ HF SB zbj zgl zp hz4 HW
                  (try simp only [Act.put, List.setIfInBounds_toArray, List.set_cons_zero, List.set_cons_succ])
                  generalize Y.alloc (.cells #[.string x.key, .string x.val, .int .i64 x.seq, .bool x.del] 43) = w5 at *
                  generalize Y.heap.size = bx at *
                  refine wpAnyH_done (by kernel_rfl) ?_ _
                  have x0 := X5.out.c 0 _ rfl
                  have x2 := X5.out.c 2 _ rfl
                  have xl := X5.out.lt
                  rcases nil_or_snoc out with ho | ⟨o', y, ho⟩
                  · have HOK : Hid (okM out x = true) := Lib.hid (by rw [ho]; rfl)
                    have e0 : ¬ (0 : Int) < (out.length : Int) := by rw [ho]; simp
                    have e1 : decide ((0 : Int) < (out.length : Int)) = false := decide_eq_false e0
                    have e2 : decide (0 < out.length) = false := by rw [ho]; rfl
                    clear ho
                    go_wp2_with fail
                    refine wp_qall (by kernel_rfl) (by kernel_rfl) ?_
                    intro hcg
                    repeat (first | go_big_quiet_step (fail) | quiet_step (fail))
                    refine wpQuiet_nil ?_
                    intro wq hbwq hcwq hfwq
                    clear hcg
                    have O6 := Lib.hid (own_keep O5.out hbwq (Nat.le_refl _))
                    have M6 : Hid (MrS wq p k ls at_) := Lib.hid ⟨own_keep M5.out.own hbwq (Nat.le_refl _), M5.out.len, M5.out.le⟩
                    have X6 := Lib.hid (X5.out.next hbwq)
                    have B6 := Lib.hid (B5.out.trans (hbwq.mono (by omega)))
                    have hz6 : w1.heap.size ≤ wq.heap.size := Nat.le_trans hz5 hbwq.size
                    clear hbwq hcwq hfwq O5 M5 X5 B5 x0 x2 xl hz5 e0 e1 e2
                    obtain ⟨w6, rfl⟩ : ∃ x, x = wq := ⟨_, rfl⟩
                    have HMG : Hid (MM = mrgM (curM ls (at_.set j (a + 1))) (out ++ [x])) := Lib.hid (by rw [HM.out, HCS.out]; exact mrg_go HBS.out HJ.out HOK.out)
                    have HTT : Hid ((out ++ [x]).length + totL (curM ls (at_.set j (a + 1))) = T) := Lib.hid (by
                      have := tot_set (curM ls at_) j x r HJ.out
                      rw [HCS.out, List.length_append]
                      simp only [List.length_cons, List.length_nil]
                      omega)
                    have HIV : Hid (InvM (curM ls (at_.set j (a + 1))) (out ++ [x])) := Lib.hid (by rw [HCS.out]; exact inv_go HIN.out HBS.out HJ.out)
                    have HNP : Hid (∀ g, (Value.slice A6 out.length c6).ownBlock = some g → g ≠ p) := Lib.hid (fun g hg => by have h1 := (O6.out.lt g hg).1; omega)
                    clear HM HOK HIN
                    have x0 := X6.out.c 0 _ rfl
                    have x1 := X6.out.c 1 _ rfl
                    have x2 := X6.out.c 2 _ rfl
                    have x3 := X6.out.c 3 _ rfl
                    have xl := X6.out.lt
                    have ha63 : (a : Int) + 1 ≤ 9223372036854775807 := by omega
                    have haw : IntKind.i64.wrap ((a : Int) + 1) = ((a + 1 : Nat) : Int) := by rw [IntWalk.i64_in _ (by omega)]; rfl
                    go_wp2_with (at_builtin; refine wpList_app styE (.tmp 109) (.tmp 111) rfl rfl w1.heap.size (O6.out.alloc _) rfl 1 1 (rd_frC _ _ _ _) rfl rfl (by simp [Value.oneCell']) (by unfold maxLen; omega) (by omega) (by rw [World.size_alloc]; omega) ?_; intro v9 w9 own9 gr9 nil9 at9; obtain ⟨A9, c9, rfl, -, -⟩ := own_sl own9; have M9 := (M6.out.own.alloc (.cells #[.string x.key, .string x.val, .int .i64 x.seq, .bool x.del] 43)).kept gr9 (.inr (fun e => HNP.out p e.symm rfl)); have ca := M9.cellAt j (by omega); rw [iv_get HAJ.out] at ca; have fa := M9.frozenAt j; have za := (M9.lt p rfl).2; have M9' := Lib.hid M9; clear M9)
                    have SX := (M9'.out.stored j (.int .i64 ((a + 1 : Nat) : Int))).1
                    rw [iv_set] at SX
                    have hbl : Below w1.heap.size w6 w9 := ((Below.refl _ _).alloc (by omega) _).grown gr9 (by rw [World.size_alloc]; omega) (fun g e => (O6.out.lt g e).1)
                    have hb9 := (B6.out.trans (hbl.mono hpw1)).setCell (p := ⟨p, j, none⟩) (Nat.le_refl _) (.int .i64 ((a + 1 : Nat) : Int))
                    have M10 : Hid (MrS (w9.setCell ⟨p, j, none⟩ (.int .i64 ((a + 1 : Nat) : Int))) p k ls (at_.set j (a + 1))) := Lib.hid ⟨SX, by rw [List.length_set]; exact M6.out.len, fun i l b hl hb => by
                      by_cases e : j = i
                      · subst e
                        rw [List.getElem?_set_self (by rw [M6.out.len]; exact hjk)] at hb
                        injection hb with hb
                        rw [HLJ.out] at hl
                        injection hl with hl
                        subst hl
                        omega
                      · rw [List.getElem?_set_ne e] at hb
                        exact M6.out.le i l b hl hb⟩
                    have O10 : Hid ((w9.setCell ⟨p, j, none⟩ (.int .i64 ((a + 1 : Nat) : Int))).ownsRow w1.heap.size 43 4 (.slice A9 (out ++ [x]).length c9) (out ++ [x]).length (env (out ++ [x]))) := Lib.hid (by
                      have h1 : w9.ownsRow w1.heap.size 43 4 (.slice A9 (out.length + 1) c9) (out ++ [x]).length (env (out ++ [x])) := own_eq own9 (by simp) (by rw [env_app]; rfl)
                      have h := own_put (b := p) (o := j) h1 (fun g hg => by have h1 := (h1.lt g hg).1; omega) (.int .i64 ((a + 1 : Nat) : Int))
                      rw [List.length_append] at h ⊢
                      exact h)
                    have B10 := Lib.hid hb9
                    have hz10 : w1.heap.size ≤ (w9.setCell ⟨p, j, none⟩ (.int .i64 ((a + 1 : Nat) : Int))).heap.size := by have := hbl.size; simp; omega
                    clear SX hbl hb9 own9 gr9 nil9 at9
                    go_roundw
                    case rel => exact ⟨A9, c9, out ++ [x], at_.set j (a + 1), by rw [List.length_append]; rfl, O10, M10, HTT.out, HMG, HIV, B10, hz10⟩
                    case measure => simp [lenS]; omega
                  · have hoy : out[o'.length]? = some y := by rw [ho]; simp
                    have hol : out.length = o'.length + 1 := by rw [ho]; simp
                    have HOKE := Lib.hid (inv_ok (o := y) HIN.out HBS.out (by rw [ho]; simp))
                    obtain ⟨ga, oa, eA, hga, hyo⟩ := en_at (own_rdq O5.out) hoy
                    subst eA
                    have y0 := hyo.c0
                    have y2 := hyo.c2
                    have k2 : (out.length : Int) - 1 = (o'.length : Int) := by omega
                    have k3 : (o'.length : Int) < (out.length : Int) := by omega
                    have k4 : IntKind.i64.wrap (o'.length : Int) = (o'.length : Int) := IntWalk.i64_in _ (by omega)
                    have k6 : (0 : Int) ≤ (o'.length : Int) := by omega
                    have e0 : (0 : Int) < (out.length : Int) := by omega
                    have e1 : decide ((0 : Int) < (out.length : Int)) = true := decide_eq_true e0
                    have e2 : decide (0 < out.length) = true := by rw [hol]; simp
                    have hol2 : out.length ≤ T := by omega
                    clear hoy ho hol hyo
                    by_cases hyk : y.key = x.key
                    · have e3 : (y.key.toList == x.key.toList) = true := by rw [str_eqB]; exact decide_eq_true hyk
                      rw [decide_eq_true hyk, Bool.true_and] at HOKE
                      clear hyk
                      by_cases hys : y.seq = x.seq
                      · have e4 : (y.seq == x.seq) = true := by rw [beq_iff_eq]; exact hys
                        have HOKF : Hid (okM out x = false) := Lib.hid (by rw [HOKE.out, decide_eq_true hys]; rfl)
                        have SE := mrg_res0 HALL.out (HMM.out.symm.trans (HM.out.trans (mrg_bad HBS.out HOKF.out)))
                        have SE1 := Lib.hid (HE.out.trans SE.1)
                        have SE2 := Lib.hid (HLL.out.trans SE.2)
                        clear SE HM HBS hys HOKE HOKF HIN
                        go_wp2_with fail
                        refine wp_qall (by kernel_rfl) (by kernel_rfl) ?_
                        intro hcg
                        repeat (first | go_big_quiet_step (fail) | quiet_step (fail))
                        refine wpQuiet_nil ?_
                        intro wq hbwq hcwq hfwq
                        clear hcg
                        have B6 := Lib.hid (B5.out.trans (hbwq.mono (by omega)))
                        clear hbwq hcwq hfwq
                        go_wp2_with fail
                        go_ret2
                        exact ⟨_, by rw [SE1.out]; rfl, by rw [SE2.out]; exact World.ownsRow_nil _ _ _ _, B6.out⟩
                      · have e4 : (y.seq == x.seq) = false := by rw [beq_eq_false_iff_ne]; exact hys
                        have HOK : Hid (okM out x = true) := Lib.hid (by rw [HOKE.out, decide_eq_false hys]; rfl)
                        clear hys HOKE
                        go_wp2_with fail
                        refine wp_qall (by kernel_rfl) (by kernel_rfl) ?_
                        intro hcg
                        repeat (first | go_big_quiet_step (fail) | quiet_step (fail))
                        refine wpQuiet_nil ?_
                        intro wq hbwq hcwq hfwq
                        clear hcg
                        have O6 := Lib.hid (own_keep O5.out hbwq (Nat.le_refl _))
                        have M6 : Hid (MrS wq p k ls at_) := Lib.hid ⟨own_keep M5.out.own hbwq (Nat.le_refl _), M5.out.len, M5.out.le⟩
                        have X6 := Lib.hid (X5.out.next hbwq)
                        have B6 := Lib.hid (B5.out.trans (hbwq.mono (by omega)))
                        have hz6 : w1.heap.size ≤ wq.heap.size := Nat.le_trans hz5 hbwq.size
                        clear hbwq hcwq hfwq O5 M5 X5 B5 x0 x2 xl hz5 e0 e1 e2 e3 e4 y0 y2 k2 k3 k4 k6
                        obtain ⟨w6, rfl⟩ : ∃ x, x = wq := ⟨_, rfl⟩
                        obtain ⟨A6, hA6⟩ : ∃ A, A = some (⟨ga, oa, none⟩ : Addr) := ⟨_, rfl⟩
                        rw [← hA6] at O6 HNX ⊢
                        clear hA6 hga
                        have HMG : Hid (MM = mrgM (curM ls (at_.set j (a + 1))) (out ++ [x])) := Lib.hid (by rw [HM.out, HCS.out]; exact mrg_go HBS.out HJ.out HOK.out)
                        have HTT : Hid ((out ++ [x]).length + totL (curM ls (at_.set j (a + 1))) = T) := Lib.hid (by
                          have := tot_set (curM ls at_) j x r HJ.out
                          rw [HCS.out, List.length_append]
                          simp only [List.length_cons, List.length_nil]
                          omega)
                        have HIV : Hid (InvM (curM ls (at_.set j (a + 1))) (out ++ [x])) := Lib.hid (by rw [HCS.out]; exact inv_go HIN.out HBS.out HJ.out)
                        have HNP : Hid (∀ g, (Value.slice A6 out.length c6).ownBlock = some g → g ≠ p) := Lib.hid (fun g hg => by have h1 := (O6.out.lt g hg).1; omega)
                        clear HM HOK HIN
                        have x0 := X6.out.c 0 _ rfl
                        have x1 := X6.out.c 1 _ rfl
                        have x2 := X6.out.c 2 _ rfl
                        have x3 := X6.out.c 3 _ rfl
                        have xl := X6.out.lt
                        have ha63 : (a : Int) + 1 ≤ 9223372036854775807 := by omega
                        have haw : IntKind.i64.wrap ((a : Int) + 1) = ((a + 1 : Nat) : Int) := by rw [IntWalk.i64_in _ (by omega)]; rfl
                        go_wp2_with (at_builtin; refine wpList_app styE (.tmp 109) (.tmp 111) rfl rfl w1.heap.size (O6.out.alloc _) rfl 1 1 (rd_frC _ _ _ _) rfl rfl (by simp [Value.oneCell']) (by unfold maxLen; omega) (by omega) (by rw [World.size_alloc]; omega) ?_; intro v9 w9 own9 gr9 nil9 at9; obtain ⟨A9, c9, rfl, -, -⟩ := own_sl own9; have M9 := (M6.out.own.alloc (.cells #[.string x.key, .string x.val, .int .i64 x.seq, .bool x.del] 43)).kept gr9 (.inr (fun e => HNP.out p e.symm rfl)); have ca := M9.cellAt j (by omega); rw [iv_get HAJ.out] at ca; have fa := M9.frozenAt j; have za := (M9.lt p rfl).2; have M9' := Lib.hid M9; clear M9)
                        have SX := (M9'.out.stored j (.int .i64 ((a + 1 : Nat) : Int))).1
                        rw [iv_set] at SX
                        have hbl : Below w1.heap.size w6 w9 := ((Below.refl _ _).alloc (by omega) _).grown gr9 (by rw [World.size_alloc]; omega) (fun g e => (O6.out.lt g e).1)
                        have hb9 := (B6.out.trans (hbl.mono hpw1)).setCell (p := ⟨p, j, none⟩) (Nat.le_refl _) (.int .i64 ((a + 1 : Nat) : Int))
                        have M10 : Hid (MrS (w9.setCell ⟨p, j, none⟩ (.int .i64 ((a + 1 : Nat) : Int))) p k ls (at_.set j (a + 1))) := Lib.hid ⟨SX, by rw [List.length_set]; exact M6.out.len, fun i l b hl hb => by
                          by_cases e : j = i
                          · subst e
                            rw [List.getElem?_set_self (by rw [M6.out.len]; exact hjk)] at hb
                            injection hb with hb
                            rw [HLJ.out] at hl
                            injection hl with hl
                            subst hl
                            omega
                          · rw [List.getElem?_set_ne e] at hb
                            exact M6.out.le i l b hl hb⟩
                        have O10 : Hid ((w9.setCell ⟨p, j, none⟩ (.int .i64 ((a + 1 : Nat) : Int))).ownsRow w1.heap.size 43 4 (.slice A9 (out ++ [x]).length c9) (out ++ [x]).length (env (out ++ [x]))) := Lib.hid (by
                          have h1 : w9.ownsRow w1.heap.size 43 4 (.slice A9 (out.length + 1) c9) (out ++ [x]).length (env (out ++ [x])) := own_eq own9 (by simp) (by rw [env_app]; rfl)
                          have h := own_put (b := p) (o := j) h1 (fun g hg => by have h1 := (h1.lt g hg).1; omega) (.int .i64 ((a + 1 : Nat) : Int))
                          rw [List.length_append] at h ⊢
                          exact h)
                        have B10 := Lib.hid hb9
                        have hz10 : w1.heap.size ≤ (w9.setCell ⟨p, j, none⟩ (.int .i64 ((a + 1 : Nat) : Int))).heap.size := by have := hbl.size; simp; omega
                        clear SX hbl hb9 own9 gr9 nil9 at9
                        go_roundw
                        case rel => exact ⟨A9, c9, out ++ [x], at_.set j (a + 1), by rw [List.length_append]; rfl, O10, M10, HTT.out, HMG, HIV, B10, hz10⟩
                        case measure => simp [lenS]; omega
                    · have e3 : (y.key.toList == x.key.toList) = false := by rw [str_eqB]; exact decide_eq_false hyk
                      have HOK : Hid (okM out x = true) := Lib.hid (by rw [HOKE.out, decide_eq_false hyk]; rfl)
                      clear hyk HOKE
                      go_wp2_with fail
                      refine wp_qall (by kernel_rfl) (by kernel_rfl) ?_
                      intro hcg
                      repeat (first | go_big_quiet_step (fail) | quiet_step (fail))
                      refine wpQuiet_nil ?_
                      intro wq hbwq hcwq hfwq
                      clear hcg
                      have O6 := Lib.hid (own_keep O5.out hbwq (Nat.le_refl _))
                      have M6 : Hid (MrS wq p k ls at_) := Lib.hid ⟨own_keep M5.out.own hbwq (Nat.le_refl _), M5.out.len, M5.out.le⟩
                      have X6 := Lib.hid (X5.out.next hbwq)
                      have B6 := Lib.hid (B5.out.trans (hbwq.mono (by omega)))
                      have hz6 : w1.heap.size ≤ wq.heap.size := Nat.le_trans hz5 hbwq.size
                      clear hbwq hcwq hfwq O5 M5 X5 B5 x0 x2 xl hz5 e0 e1 e2 e3 y0 y2 k2 k3 k4 k6
                      obtain ⟨w6, rfl⟩ : ∃ x, x = wq := ⟨_, rfl⟩
                      obtain ⟨A6, hA6⟩ : ∃ A, A = some (⟨ga, oa, none⟩ : Addr) := ⟨_, rfl⟩
                      rw [← hA6] at O6 HNX ⊢
                      clear hA6 hga
                      have HMG : Hid (MM = mrgM (curM ls (at_.set j (a + 1))) (out ++ [x])) := Lib.hid (by rw [HM.out, HCS.out]; exact mrg_go HBS.out HJ.out HOK.out)
                      have HTT : Hid ((out ++ [x]).length + totL (curM ls (at_.set j (a + 1))) = T) := Lib.hid (by
                        have := tot_set (curM ls at_) j x r HJ.out
                        rw [HCS.out, List.length_append]
                        simp only [List.length_cons, List.length_nil]
                        omega)
                      have HIV : Hid (InvM (curM ls (at_.set j (a + 1))) (out ++ [x])) := Lib.hid (by rw [HCS.out]; exact inv_go HIN.out HBS.out HJ.out)
                      have HNP : Hid (∀ g, (Value.slice A6 out.length c6).ownBlock = some g → g ≠ p) := Lib.hid (fun g hg => by have h1 := (O6.out.lt g hg).1; omega)
                      clear HM HOK HIN
                      have x0 := X6.out.c 0 _ rfl
                      have x1 := X6.out.c 1 _ rfl
                      have x2 := X6.out.c 2 _ rfl
                      have x3 := X6.out.c 3 _ rfl
                      have xl := X6.out.lt
                      have ha63 : (a : Int) + 1 ≤ 9223372036854775807 := by omega
                      have haw : IntKind.i64.wrap ((a : Int) + 1) = ((a + 1 : Nat) : Int) := by rw [IntWalk.i64_in _ (by omega)]; rfl
                      go_wp2_with (at_builtin; refine wpList_app styE (.tmp 109) (.tmp 111) rfl rfl w1.heap.size (O6.out.alloc _) rfl 1 1 (rd_frC _ _ _ _) rfl rfl (by simp [Value.oneCell']) (by unfold maxLen; omega) (by omega) (by rw [World.size_alloc]; omega) ?_; intro v9 w9 own9 gr9 nil9 at9; obtain ⟨A9, c9, rfl, -, -⟩ := own_sl own9; have M9 := (M6.out.own.alloc (.cells #[.string x.key, .string x.val, .int .i64 x.seq, .bool x.del] 43)).kept gr9 (.inr (fun e => HNP.out p e.symm rfl)); have ca := M9.cellAt j (by omega); rw [iv_get HAJ.out] at ca; have fa := M9.frozenAt j; have za := (M9.lt p rfl).2; have M9' := Lib.hid M9; clear M9)
                      have SX := (M9'.out.stored j (.int .i64 ((a + 1 : Nat) : Int))).1
                      rw [iv_set] at SX
                      have hbl : Below w1.heap.size w6 w9 := ((Below.refl _ _).alloc (by omega) _).grown gr9 (by rw [World.size_alloc]; omega) (fun g e => (O6.out.lt g e).1)
                      have hb9 := (B6.out.trans (hbl.mono hpw1)).setCell (p := ⟨p, j, none⟩) (Nat.le_refl _) (.int .i64 ((a + 1 : Nat) : Int))
                      have M10 : Hid (MrS (w9.setCell ⟨p, j, none⟩ (.int .i64 ((a + 1 : Nat) : Int))) p k ls (at_.set j (a + 1))) := Lib.hid ⟨SX, by rw [List.length_set]; exact M6.out.len, fun i l b hl hb => by
                        by_cases e : j = i
                        · subst e
                          rw [List.getElem?_set_self (by rw [M6.out.len]; exact hjk)] at hb
                          injection hb with hb
                          rw [HLJ.out] at hl
                          injection hl with hl
                          subst hl
                          omega
                        · rw [List.getElem?_set_ne e] at hb
                          exact M6.out.le i l b hl hb⟩
                      have O10 : Hid ((w9.setCell ⟨p, j, none⟩ (.int .i64 ((a + 1 : Nat) : Int))).ownsRow w1.heap.size 43 4 (.slice A9 (out ++ [x]).length c9) (out ++ [x]).length (env (out ++ [x]))) := Lib.hid (by
                        have h1 : w9.ownsRow w1.heap.size 43 4 (.slice A9 (out.length + 1) c9) (out ++ [x]).length (env (out ++ [x])) := own_eq own9 (by simp) (by rw [env_app]; rfl)
                        have h := own_put (b := p) (o := j) h1 (fun g hg => by have h1 := (h1.lt g hg).1; omega) (.int .i64 ((a + 1 : Nat) : Int))
                        rw [List.length_append] at h ⊢
                        exact h)
                      have B10 := Lib.hid hb9
                      have hz10 : w1.heap.size ≤ (w9.setCell ⟨p, j, none⟩ (.int .i64 ((a + 1 : Nat) : Int))).heap.size := by have := hbl.size; simp; omega
                      clear SX hbl hb9 own9 gr9 nil9 at9
                      go_roundw
                      case rel => exact ⟨A9, c9, out ++ [x], at_.set j (a + 1), by rw [List.length_append]; rfl, O10, M10, HTT.out, HMG, HIV, B10, hz10⟩
                      case measure => simp [lenS]; omega
                · exact AllReadyH.nil
              · exact AllReadyH.nil
end Go.Proofs.Ytmcpjpkidcbgiaa
