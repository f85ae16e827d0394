/- Walk: the document's answer on whether cells and intents may stand. -/
import Derived.Test.YtgikaglmeeeplaaIb
namespace Go.Proofs.Ytgikaglmeeeplaa
open Go.RowKit Go.St
set_option linter.unusedVariables false
set_option linter.unusedSimpArgs false
set_option maxRecDepth 100000

set_option maxHeartbeats 6400000 in
theorem rcheck24_any (A : Option Addr) (n c : Nat) (cs : List Cel) (hl : cs.length = n) (hn : n ≤ 140737488351232) (A2 : Option Addr) (m c2 : Nat) (is : List Itt) (hl2 : is.length = m) (hm : m ≤ 140737488351232) (B : Nat) (w : World) (hr : Rd w B A (cev cs)) (hr2 : Rd w B A2 (itv is)) (hB : B ≤ w.heap.size) :
    Calls Try.prog 26 #[.slice A n c, .slice A2 m c2] w fun e w' => e = .returned (.int .i64 (chkCI cs is)) ∧ Below w.heap.size w w' := by
  have HL := Lib.hid hl
  have HR := Lib.hid hr
  have HL2 := Lib.hid hl2
  have HR2 := Lib.hid hr2
  clear hl hr hl2 hr2
  obtain ⟨E, hE⟩ : ∃ E, E = chkCI cs is := ⟨_, rfl⟩
  rw [← hE]
  have HE := Lib.hid hE
  clear hE
  go_enter Try.func26, Try.ntmps26
  go_wp2_with fail
  go_loopw [5] (fun s5 wr => ∃ i : Nat, s5 = .int .i64 (i : Int) ∧ i ≤ n ∧ Hid (allTo okC cs i) ∧ Hid (Below w.heap.size w wr)) (fun s5 _ => n - (intOf s5).toNat)
  case atStart => exact ⟨0, rfl, Nat.zero_le _, Lib.hid (fun j a h => by omega), Lib.hid (Below.refl _ _)⟩
  case round =>
    obtain ⟨i, rfl, hi, hU, hB1⟩ := hrel
    obtain ⟨w2, rfl⟩ : ∃ x, x = wr := ⟨_, rfl⟩
    by_cases hlt : i < n
    · obtain ⟨x, hx⟩ : ∃ x, cs[i]? = some x := ⟨_, List.getElem?_eq_getElem (by rw [HL.out]; exact hlt)⟩
      obtain ⟨b, off, rfl, hb, hce⟩ := ce_at HR.out hx
      have hce2 := hce.below (Nat.lt_of_lt_of_le hb hB) hB1.out
      obtain ⟨d0, d1, d2, d3, d4, d5⟩ := hce2
      have HX := Lib.hid hx
      have i1 : (i : Int) < (n : Int) := by omega
      clear hce hx
      go_wp2_with fail
      refine (rcell_any x _).mono ?_
      rintro e w3 ⟨rfl, hb3⟩
      have B3 : Hid (Below w.heap.size w w3) := Lib.hid (hB1.out.trans (hb3.mono hB1.out.size))
      clear hb3 d0 d1 d2 d3 d4 d5 hB1
      by_cases hok : okC x = true
      · have e0 : chkC x = 0 := by unfold chkC; rw [if_pos hok]
        rw [e0]
        have HU := Lib.hid (allTo_succ hU.out HX.out hok)
        clear e0 hok
        go_wp2_with fail
        go_roundw
        case rel => exact ⟨i + 1, by go_num, by omega, HU, B3⟩
        case measure => simp [intOf]; omega
      · have e0 : chkC x = 2 := by unfold chkC; rw [if_neg hok]
        rw [e0]
        have e1 : E = 2 := by rw [HE.out]; exact chkCI_two (fun h => hok (h.1 x (List.mem_of_getElem? HX.out)))
        have HE1 := Lib.hid e1
        clear e0 e1 hok
        go_wp2_with fail
        go_ret
        exact ⟨ret_int HE1.out.symm, B3.out⟩
    · have i1 : ¬ (i : Int) < (n : Int) := by omega
      have HC1 := Lib.hid (allTo_all hU.out (by rw [HL.out]; omega))
      clear hU hlt
      go_wp2_with fail
      go_loopw [7] (fun s7 wr => ∃ k : Nat, s7 = .int .i64 (k : Int) ∧ k ≤ m ∧ Hid (allTo okI is k) ∧ Hid (Below w.heap.size w wr)) (fun s7 _ => m - (intOf s7).toNat)
      case atStart => exact ⟨0, rfl, Nat.zero_le _, Lib.hid (fun j a h => by omega), hB1⟩
      case round =>
        obtain ⟨k, rfl, hk, hU2, hB4⟩ := hrel
        clear hB1
        obtain ⟨w5, rfl⟩ : ∃ x, x = wr := ⟨_, rfl⟩
        by_cases hlt2 : k < m
        · obtain ⟨x, hx⟩ : ∃ x, is[k]? = some x := ⟨_, List.getElem?_eq_getElem (by rw [HL2.out]; exact hlt2)⟩
          obtain ⟨b, off, rfl, hb, hce⟩ := it_at HR2.out hx
          have hce2 := hce.below (Nat.lt_of_lt_of_le hb hB) hB4.out
          obtain ⟨d0, d1, d2, d3, d4, d5, d6, d7, d8, d9, d10, d11⟩ := hce2
          have HX := Lib.hid hx
          have k1 : (k : Int) < (m : Int) := by omega
          clear hce hx
          go_wp2_with fail
          refine (ritt_any x _).mono ?_
          rintro e w3 ⟨rfl, hb3⟩
          have B3 : Hid (Below w.heap.size w w3) := Lib.hid (hB4.out.trans (hb3.mono hB4.out.size))
          clear hb3 d0 d1 d2 d3 d4 d5 d6 d7 d8 d9 d10 d11 hB4
          by_cases hok : okI x = true
          · have e0 : chkI x = 0 := by unfold chkI; rw [if_pos hok]
            rw [e0]
            have HU := Lib.hid (allTo_succ hU2.out HX.out hok)
            clear e0 hok
            go_wp2_with fail
            go_roundw
            case rel => exact ⟨k + 1, by go_num, by omega, HU, B3⟩
            case measure => simp [intOf]; omega
          · have e0 : chkI x = 2 := by unfold chkI; rw [if_neg hok]
            rw [e0]
            have e1 : E = 2 := by rw [HE.out]; exact chkCI_two (fun h => hok (h.2 x (List.mem_of_getElem? HX.out)))
            have HE1 := Lib.hid e1
            clear e0 e1 hok
            go_wp2_with fail
            go_ret
            exact ⟨ret_int HE1.out.symm, B3.out⟩
        · have k1 : ¬ (k : Int) < (m : Int) := by omega
          have HC2 := Lib.hid (allTo_all hU2.out (by rw [HL2.out]; omega))
          clear hU2 hlt2
          go_wp2_with fail
          go_loopw [9] (fun s9 wr => ∃ i : Nat, s9 = .int .i64 ((i + 1 : Nat) : Int) ∧ i ≤ n ∧ Hid (risTo ltC cs (i + 1)) ∧ Hid (Below w.heap.size w wr)) (fun s9 _ => n - (intOf s9).toNat)
          case atStart => exact ⟨0, rfl, Nat.zero_le _, Lib.hid (fun j a b h => by omega), hB4⟩
          case round =>
            obtain ⟨j, rfl, hj, hU3, hB6⟩ := hrel
            clear hB4
            obtain ⟨w7, rfl⟩ : ∃ x, x = wr := ⟨_, rfl⟩
            by_cases hlt3 : j + 1 < n
            · obtain ⟨x, hx⟩ : ∃ x, cs[j]? = some x := ⟨_, List.getElem?_eq_getElem (by rw [HL.out]; omega)⟩
              obtain ⟨y, hy⟩ : ∃ y, cs[j + 1]? = some y := ⟨_, List.getElem?_eq_getElem (by rw [HL.out]; omega)⟩
              obtain ⟨b, off, rfl, hb, hce⟩ := ce_at HR.out hx
              obtain ⟨b', off', eA, hb', hce'⟩ := ce_at HR.out hy
              injection eA with eA
              injection eA with eb eo
              subst eb eo
              obtain ⟨d0, d1, d2, d3, d4, d5⟩ := hce.below (Nat.lt_of_lt_of_le hb hB) hB6.out
              obtain ⟨f0, f1, f2, f3, f4, f5⟩ := hce'.below (Nat.lt_of_lt_of_le hb hB) hB6.out
              have HX := Lib.hid hx
              have HY := Lib.hid hy
              have j1 : ((j + 1 : Nat) : Int) < (n : Int) := by omega
              have j2 : ((j + 1 : Nat) : Int) - 1 = (j : Int) := by omega
              have j3 : (j : Int) < (n : Int) := by omega
              have j4 : IntKind.i64.wrap (j : Int) = (j : Int) := IntWalk.i64_in _ (by omega)
              have hb7 : b < w7.heap.size := by have := hB6.out.size; omega
              clear hce hce' hx hy hb'
              have B9 : Hid (∀ o o2 w8, Below ((w7.alloc o).alloc o2).drew.heap.size ((w7.alloc o).alloc o2).drew w8 → Below w.heap.size w w8) := Lib.hid (fun o o2 w8 h => (Below.drew ((hB6.out.alloc hB6.out.size _).alloc (by have := hB6.out.size; simp; omega) _)).trans (h.mono (by have := hB6.out.size; simp; omega)))
              have B8 : Hid (∀ o o2, Below w.heap.size w ((w7.alloc o).alloc o2).drew) := Lib.hid (fun o o2 => Below.drew ((hB6.out.alloc hB6.out.size _).alloc (by have := hB6.out.size; simp; omega) _))
              cases q1 : klt y.key x.key
              · have e1 : Op.bytesLess y.key.toList x.key.toList = false := q1
                by_cases q2 : x.key = y.key
                · have e2 : (x.key.toList == y.key.toList) = true := by rw [str_eq, decide_eq_true q2]
                  have Q2 := Lib.hid q2
                  have e3 : Op.bytesLess x.key.toList y.key.toList = false := by rw [q2]; exact klt_irr _
                  have e4 : (y.key.toList == x.key.toList) = true := by rw [str_eq, decide_eq_true q2.symm]
                  clear q1 q2 hB6
                  go_wp2_with fail
                  go_region
                  all_goals
                    go_wp2_with fail
                    refine (rless_any y.at_ x.at_ _).mono ?_
                    rintro e w8 ⟨rfl, hb8⟩
                    have B10 := Lib.hid (B9.out _ _ _ hb8)
                    clear hb8 d0 d1 d2 d3 d4 d5 f0 f1 f2 f3 f4 f5 hb7
                    cases q3 : less y.at_ x.at_
                    · have hno : E = 10 := by
                        rw [HE.out]
                        refine chkCI_ten ⟨HC1.out, HC2.out⟩ (fun h => ?_)
                        have h1 := h.1 j x y HX.out HY.out
                        unfold ltC at h1
                        rw [Q2.out, klt_irr, Bool.false_or, Bool.and_eq_true, q3] at h1
                        cases h1.2
                      have HN := Lib.hid hno
                      clear hno q3
                      go_wp2_with fail
                      go_ret
                      exact ⟨ret_int HN.out.symm, B10.out⟩
                    · have hyes : ltC x y = true := by
                        unfold ltC
                        rw [Q2.out, klt_irr, Bool.false_or, decide_eq_true rfl, Bool.true_and]
                        exact q3
                      have HU3 := Lib.hid (risTo_succ hU3.out HX.out HY.out hyes)
                      clear hyes q3
                      go_wp2_with fail
                      go_roundw
                      case rel => exact ⟨j + 1, by go_num, by omega, HU3, B10⟩
                      case measure => simp [intOf]; omega
                · have e2 : (x.key.toList == y.key.toList) = false := by rw [str_eq, decide_eq_false q2]
                  have e5 : (y.key.toList == x.key.toList) = false := by rw [str_eq, decide_eq_false (fun e => q2 e.symm)]
                  have hyes : ltC x y = true := by
                    unfold ltC
                    cases q4 : klt x.key y.key
                    · exact absurd (klt_tri q4 q1) q2
                    · rfl
                  have HU3 := Lib.hid (risTo_succ hU3.out HX.out HY.out hyes)
                  have e3 : Op.bytesLess x.key.toList y.key.toList = true := by
                    cases q4 : klt x.key y.key
                    · exact absurd (klt_tri q4 q1) q2
                    · exact q4
                  clear q1 q2 hB6 hyes
                  go_wp2_with fail
                  go_region
                  all_goals
                    go_wp2_with fail
                    go_roundw
                    case rel => exact ⟨j + 1, by go_num, by omega, HU3, Lib.hid (B8.out _ _)⟩
                    case measure => simp [intOf]; omega
              · have e1 : Op.bytesLess y.key.toList x.key.toList = true := q1
                have hno : E = 10 := by
                  rw [HE.out]
                  refine chkCI_ten ⟨HC1.out, HC2.out⟩ (fun h => ?_)
                  have h1 := h.1 j x y HX.out HY.out
                  unfold ltC at h1
                  rw [klt_asym q1, Bool.false_or, Bool.and_eq_true, decide_eq_true_eq] at h1
                  rw [h1.1, klt_irr] at q1
                  cases q1
                have HN := Lib.hid hno
                have e2 : Op.bytesLess x.key.toList y.key.toList = false := klt_asym q1
                have e3 : (x.key.toList == y.key.toList) = false := by
                  rw [str_eq]
                  exact decide_eq_false (fun e => by rw [e, klt_irr] at q1; cases q1)
                have e5 : (y.key.toList == x.key.toList) = false := by
                  rw [str_eq]
                  exact decide_eq_false (fun e => by rw [e, klt_irr] at q1; cases q1)
                clear hno q1 hB6
                go_wp2_with fail
                go_region
                all_goals
                  go_wp2_with fail
                  go_ret
                  exact ⟨ret_int HN.out.symm, B8.out _ _⟩
            · have j1 : ¬ ((j : Int) + 1) < (n : Int) := by omega
              have HC3 : Hid (risC cs) := Lib.hid (risTo_all hU3.out (by rw [HL.out]; omega))
              clear hU3 hlt3
              go_wp2_with fail
              go_loopw [12] (fun s12 wr => ∃ i : Nat, s12 = .int .i64 ((i + 1 : Nat) : Int) ∧ i ≤ m ∧ Hid (risTo ltI is (i + 1)) ∧ Hid (Below w.heap.size w wr)) (fun s12 _ => m - (intOf s12).toNat)
              case atStart => exact ⟨0, rfl, Nat.zero_le _, Lib.hid (fun j a b h => by omega), hB6⟩
              case round =>
                obtain ⟨l, rfl, hl4, hU4, hB7⟩ := hrel
                clear hB6
                obtain ⟨w9, rfl⟩ : ∃ x, x = wr := ⟨_, rfl⟩
                by_cases hlt4 : l + 1 < m
                · obtain ⟨x, hx⟩ : ∃ x, is[l]? = some x := ⟨_, List.getElem?_eq_getElem (by rw [HL2.out]; omega)⟩
                  obtain ⟨y, hy⟩ : ∃ y, is[l + 1]? = some y := ⟨_, List.getElem?_eq_getElem (by rw [HL2.out]; omega)⟩
                  obtain ⟨b, off, rfl, hb, hce⟩ := it_at HR2.out hx
                  obtain ⟨b', off', eA, hb', hce'⟩ := it_at HR2.out hy
                  injection eA with eA
                  injection eA with eb eo
                  subst eb eo
                  have d0 := (hce.below (Nat.lt_of_lt_of_le hb hB) hB7.out).c0
                  have f0 := (hce'.below (Nat.lt_of_lt_of_le hb hB) hB7.out).c0
                  have HX := Lib.hid hx
                  have HY := Lib.hid hy
                  have j1 : ((l + 1 : Nat) : Int) < (m : Int) := by omega
                  have j2 : ((l + 1 : Nat) : Int) - 1 = (l : Int) := by omega
                  have j3 : (l : Int) < (m : Int) := by omega
                  have j4 : IntKind.i64.wrap (l : Int) = (l : Int) := IntWalk.i64_in _ (by omega)
                  have B8 : Hid (Below w.heap.size w w9.drew) := Lib.hid (Below.drew hB7.out)
                  clear hce hce' hx hy hb' hB7
                  cases q1 : klt x.key y.key
                  · have q2 := nle_t q1
                    have e1 : Op.bytesLess x.key.toList y.key.toList = false := q1
                    have hno : E = 10 := by
                      rw [HE.out]
                      refine chkCI_ten ⟨HC1.out, HC2.out⟩ (fun h => ?_)
                      have h1 := h.2 l x y HX.out HY.out
                      unfold ltI at h1
                      rw [q1] at h1
                      cases h1
                    have HN := Lib.hid hno
                    clear hno q1
                    go_wp2_with fail
                    go_region
                    all_goals
                      go_wp2_with fail
                      go_ret
                      exact ⟨ret_int HN.out.symm, B8.out⟩
                  · have q2 := nle_f q1
                    have q3 : Op.bytesLess y.key.toList x.key.toList = false := (Bool.or_eq_false_iff.1 q2).1
                    have q4 : (y.key.toList == x.key.toList) = false := (Bool.or_eq_false_iff.1 q2).2
                    have e1 : Op.bytesLess x.key.toList y.key.toList = true := q1
                    have HU4 := Lib.hid (risTo_succ hU4.out HX.out HY.out q1)
                    clear q1 q2
                    go_wp2_with fail
                    go_region
                    all_goals
                      go_wp2_with fail
                      go_roundw
                      case rel => exact ⟨l + 1, by go_num, by omega, HU4, B8⟩
                      case measure => simp [intOf]; omega
                · have j1 : ¬ ((l : Int) + 1) < (m : Int) := by omega
                  have HC4 : Hid (risI is) := Lib.hid (risTo_all hU4.out (by rw [HL2.out]; omega))
                  have hyes : E = 0 := by rw [HE.out]; exact chkCI_yes ⟨HC1.out, HC2.out⟩ ⟨HC3.out, HC4.out⟩
                  have HY := Lib.hid hyes
                  clear hU4 hlt4 hyes
                  go_wp2_with fail
                  go_ret
                  exact ⟨ret_int HY.out.symm, hB7.out⟩
end Go.Proofs.Ytgikaglmeeeplaa
