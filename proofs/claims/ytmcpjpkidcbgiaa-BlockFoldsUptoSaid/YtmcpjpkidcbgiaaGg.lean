/- Walk: merged lists are in order, and have all that was in them. -/
import Derived.Test.YtmcpjpkidcbgiaaEs
import Derived.Test.YtmcpjpkidcbgiaaOel
namespace Go.Proofs.Ytmcpjpkidcbgiaa
open Go.RowKit Go.St Go.Maps
set_option linter.unusedVariables false
set_option linter.unusedSimpArgs false
set_option maxRecDepth 100000

theorem tot_take {ls : List (List Ent)} {i : Nat} {l : List Ent} (h : ls[i]? = some l) : totL (ls.take (i + 1)) = totL (ls.take i) + l.length := by
  unfold totL
  rw [List.take_add_one, h]
  simp
theorem tot_le {b : Nat} : ∀ {ls : List (List Ent)}, (∀ l ∈ ls, l.length ≤ b) → totL ls ≤ ls.length * b
  | [], _ => by simp [totL]
  | x :: r, h => by
    have h1 := h x (List.mem_cons_self ..)
    have h2 := tot_le (b := b) (ls := r) (fun l hl => h l (List.mem_cons_of_mem _ hl))
    unfold totL at h2 ⊢
    rw [List.map_cons, List.sum_cons, List.length_cons, Nat.succ_mul]
    omega
theorem mrg_cases (ls : List (List Ent)) : (mrgE ls = 10 ∧ mrgL ls = []) ∨ (mrgE ls = 9 ∧ mrgL ls = []) ∨ (∃ a, mrgE ls = 0 ∧ mrgL ls = a ∧ mrgM ls [] = some a) := by
  cases h : ls.all risE
  · exact .inl (mrg_bad0 h)
  · cases hm : mrgM ls [] with
    | none => exact .inr (.inl (mrg_res0 h hm))
    | some a => exact .inr (.inr ⟨a, (mrg_res1 h hm).1, (mrg_res1 h hm).2, rfl⟩)

set_option maxHeartbeats 6400000 in
theorem blockMerge_walk (w : World) (A : Option Addr) (k c : Nat) (vs : List Value) (ls : List (List Ent)) (hv : vs.length = k) (hl : ls.length = k) (hn : k ≤ 140737488351232) (hs : ∀ l ∈ ls, l.length ≤ 140737488351232) (hr : Rd w w.heap.size A vs) (hls : LsB w w.heap.size vs ls) :
    Calls Try.prog 5 #[.slice A k c] w fun e w' => e = .returned (.bool true) ∧ Below w.heap.size w w' := by
  obtain ⟨p, hp⟩ : ∃ p, p = w.heap.size := ⟨_, rfl⟩
  have HP := Lib.hid hp
  rw [← hp] at hr hls
  have hpw : p ≤ w.heap.size := by omega
  have HV := Lib.hid hv
  have HL := Lib.hid hl
  have HR := Lib.hid hr
  have HLS := Lib.hid hls
  have HS := Lib.hid hs
  clear hr hls hv hl hp hs
  go_enter Try.func5, Try.ntmps5
  go_wp2_with fail
  refine (lives07_any w).mono ?_
  rintro e w2 ⟨rfl, hb⟩
  have B2 : Hid (Below p w w2) := Lib.hid (hb.mono hpw)
  clear hb
  by_cases hk12 : 12 < k
  · have i8 : (12 : Int) < (k : Int) := by omega
    go_wp2_with fail
    go_ret
    exact ⟨rfl, by rw [← HP.out]; exact B2.out⟩
  have i8 : ¬ (12 : Int) < (k : Int) := by omega
  go_wp2_with fail
  go_loopw [3, 4] (fun s3 s4 wr => ∃ i : Nat, s3 = .int .i64 (totL (ls.take i) : Nat) ∧ s4 = .int .i64 (i : Int) ∧ i ≤ k ∧ Hid (∀ (j : Nat) (l : List Ent), j < i → ls[j]? = some l → l.length ≤ 70) ∧ Hid (Below p w wr)) (fun _ s4 _ => k - (intOf s4).toNat)
  case atStart => exact ⟨0, rfl, rfl, Nat.zero_le _, Lib.hid (fun j l h => by omega), B2⟩
  case round =>
    clear B2 i8
    obtain ⟨i, rfl, rfl, hi, HA, B3⟩ := hrel
    obtain ⟨w3, rfl⟩ : ∃ x, x = wr := ⟨_, rfl⟩
    by_cases hlt : i < k
    · obtain ⟨l, hll⟩ : ∃ l, ls[i]? = some l := ⟨_, List.getElem?_eq_getElem (by rw [HL.out]; exact hlt)⟩
      obtain ⟨Ai, ci, hvi, hcl, hri⟩ := HLS.out i l hll
      have hln := HS.out l (List.mem_of_getElem? hll)
      have HLI := Lib.hid hll
      have hw3 := B3.out.size
      have hp3 : p ≤ w3.heap.size := by omega
      obtain ⟨gl, ol, rfl, hgl, hce⟩ := (HR.out.below B3.out).at_ hvi
      have i1 : (i : Int) < (k : Int) := by omega
      have i0 : (0 : Int) ≤ (i : Int) := by omega
      have zg : gl < w3.heap.size := by omega
      have HO := Lib.hid (small7_any Ai l.length ci l rfl (by omega) p w3 (hri.below B3.out) hp3)
      have HGL := Lib.hid hce
      clear hvi hri hll hcl
      go_wp2_with fail
      refine HO.out.mono ?_
      rintro e w4 ⟨rfl, hb⟩
      have B4 := Lib.hid (B3.out.trans (hb.mono hp3))
      have hce4 := (hb.cell (p := ⟨gl, ol + i, none⟩) zg).trans HGL.out
      have zg4 : gl < w4.heap.size := Nat.lt_of_lt_of_le zg hb.size
      clear hb HO hce
      cases hsm : smallE l
      · go_wp2_with fail
        go_ret
        exact ⟨rfl, by rw [← HP.out]; exact B4.out⟩
      · have hl70 := (smallE_b hsm).1
        have HA9 : Hid (∀ (j : Nat) (l : List Ent), j < i + 1 → ls[j]? = some l → l.length ≤ 70) := Lib.hid (fun j l' h1 h2 => by
          rcases Nat.lt_or_ge j i with h | h
          · exact HA.out j l' h h2
          · have e : j = i := by omega
            subst e
            rw [HLI.out] at h2
            injection h2 with h2
            rw [← h2]
            exact hl70)
        have HTT := Lib.hid (tot_take HLI.out)
        have hti : totL (ls.take i) ≤ 12 * 70 := by
          have h1 := tot_le (b := 70) (ls := ls.take i) (fun l' hl' => by
            obtain ⟨j, hj⟩ := List.mem_iff_getElem?.1 hl'
            rw [List.getElem?_take] at hj
            split at hj
            · rename_i h
              exact HA.out j l' h hj
            · cases hj)
          have h2 : (ls.take i).length ≤ 12 := by rw [List.length_take]; omega
          have h3 : (ls.take i).length * 70 ≤ 12 * 70 := Nat.mul_le_mul_right _ h2
          omega
        clear hsm HA
        go_wp2_with fail
        go_roundw
        case rel => exact ⟨i + 1, by rw [HTT.out]; go_num, by go_num, by omega, HA9, B4⟩
        case measure => simp [intOf]; omega
    · have hik : i = k := by omega
      have i1 : ¬ (i : Int) < (k : Int) := by omega
      have HTK : Hid (ls.take i = ls) := Lib.hid (List.take_of_length_le (by rw [HL.out]; omega))
      have h70 : Hid (∀ l ∈ ls, l.length ≤ 70) := Lib.hid (fun l hl => by
        obtain ⟨j, hj⟩ := List.mem_iff_getElem?.1 hl
        exact HA.out j l (by have := (List.getElem?_eq_some_iff.1 hj).1; have := HL.out; omega) hj)
      have htot : totL ls ≤ 840 := by
        have h1 := tot_le (b := 70) (ls := ls) h70.out
        have h2 : ls.length * 70 ≤ 12 * 70 := Nat.mul_le_mul_right _ (by rw [HL.out]; omega)
        omega
      rw [HTK.out]
      have hw3 := B3.out.size
      have hp3 : p ≤ w3.heap.size := by omega
      have HMC := Lib.hid (mrg_cases ls)
      have HME := Lib.hid (merge_any A k c vs ls HV.out HL.out (by omega) (by omega) w3 ((HR.out.below B3.out).more hp3) ((HLS.out.below B3.out).more hp3))
      obtain ⟨E, hE⟩ : ∃ E, E = mrgE ls := ⟨_, rfl⟩
      obtain ⟨L, hL⟩ : ∃ L, L = mrgL ls := ⟨_, rfl⟩
      obtain ⟨T, hT⟩ : ∃ T, T = totL ls := ⟨_, rfl⟩
      have HT := Lib.hid hT
      rw [← hE, ← hL] at HMC HME
      rw [← hT] at htot ⊢
      clear hE hL hT hlt hik HA HTK
      go_wp2_with fail
      refine HME.out.mono ?_
      rintro e w4 ⟨v4, rfl, own4, hb⟩
      obtain ⟨A4, c4, rfl, hc4, -⟩ := own_sl own4
      have B4 := Lib.hid (B3.out.trans (hb.mono hp3))
      have O4 := Lib.hid own4
      have hp4 : p ≤ w4.heap.size := Nat.le_trans hp3 hb.size
      have z4 : w3.heap.size ≤ w4.heap.size := hb.size
      clear hb own4 HME B3 hw3
      rcases HMC.out with ⟨rfl, rfl⟩ | ⟨rfl, rfl⟩ | ⟨a, rfl, rfl, hm⟩
      · clear HMC
        go_wp2_with fail
        go_ret
        exact ⟨rfl, by rw [← HP.out]; exact B4.out⟩
      · clear HMC
        go_wp2_with fail
        go_ret
        exact ⟨rfl, by rw [← HP.out]; exact B4.out⟩
      · clear HMC
        have hlen : L.length = T := by rw [HT.out]; exact mrg_len hm
        have HRI := Lib.hid (mrg_ris hm)
        have HSB := Lib.hid (fun (j : Nat) (l : List Ent) (hj : ls[j]? = some l) => mrg_sub hm hj)
        have HLEN := Lib.hid hlen
        have i9 : ((L.length : Int) != (T : Int)) = false := by rw [bne_eq_false_iff_eq]; omega
        have hl840 : L.length ≤ 840 := by omega
        clear hm hlen
        go_wp2_with fail
        refine (rinOrder_any A4 L.length c4 L rfl (by omega) w4.heap.size w4 (own_rdL O4.out) (Nat.le_refl _)).mono ?_
        rintro e w5 ⟨rfl, hb⟩
        rw [HRI.out]
        have B5 := Lib.hid (B4.out.trans (hb.mono hp4))
        have O5 := Lib.hid (own_keep O4.out hb (Nat.le_refl _))
        have z5 : w3.heap.size ≤ w5.heap.size := Nat.le_trans z4 hb.size
        clear hb B4 O4 i9 hp4 z4
        go_wp2_with fail
        go_loopw [7] (fun s7 wr => ∃ i : Nat, s7 = .int .i64 (i : Int) ∧ i ≤ k ∧ Hid (wr.ownsRow w3.heap.size 43 4 (.slice A4 L.length c4) L.length (env L)) ∧ Hid (Below p w wr) ∧ w3.heap.size ≤ wr.heap.size) (fun s7 _ => k - (intOf s7).toNat)
        case atStart => exact ⟨0, rfl, Nat.zero_le _, O5, B5, z5⟩
        case round =>
          clear O5 B5 z5 i1
          obtain ⟨i, rfl, hi, O6, B6, z6⟩ := hrel
          obtain ⟨w6, rfl⟩ : ∃ x, x = wr := ⟨_, rfl⟩
          by_cases hlt : i < k
          · obtain ⟨l, hll⟩ : ∃ l, ls[i]? = some l := ⟨_, List.getElem?_eq_getElem (by rw [HL.out]; exact hlt)⟩
            obtain ⟨Ai, ci, hvi, hcl, hri⟩ := HLS.out i l hll
            have hl70 := h70.out l (List.mem_of_getElem? hll)
            obtain ⟨gl, ol, rfl, hgl, hce⟩ := HR.out.at_ hvi
            have HGL := Lib.hid hce
            have RI := Lib.hid hri
            have HSL := Lib.hid (HSB.out i l hll)
            have i1 : (i : Int) < (k : Int) := by omega
            have i0 : (0 : Int) ≤ (i : Int) := by omega
            clear hvi hri hll hcl hce
            go_wp2_with fail
            go_loopw [8, 9] (fun s8 s9 wr => ∃ q j : Nat, s8 = .int .i64 (q : Int) ∧ s9 = .int .i64 (j : Int) ∧ q ≤ l.length ∧ j ≤ L.length ∧ Hid ((l.drop q).Sublist (L.drop j)) ∧ Hid (wr.ownsRow w3.heap.size 43 4 (.slice A4 L.length c4) L.length (env L)) ∧ Hid (Below p w wr) ∧ w3.heap.size ≤ wr.heap.size) (fun _ s9 _ => L.length - (intOf s9).toNat)
            case atStart => exact ⟨0, 0, rfl, rfl, Nat.zero_le _, Nat.zero_le _, HSL, O6, B6, z6⟩
            case round =>
              clear O6 B6 z6 HSL
              obtain ⟨q, j, rfl, rfl, hq, hj, HSU, O8, B8, z8⟩ := hrel
              obtain ⟨w8, rfl⟩ : ∃ x, x = wr := ⟨_, rfl⟩
              have hce := (B8.out.cell (p := ⟨gl, ol + i, none⟩) hgl).trans HGL.out
              have zgl : gl < w8.heap.size := by omega
              by_cases hjl : j < L.length
              · have j1 : (j : Int) < (L.length : Int) := by omega
                have j0 : (0 : Int) ≤ (j : Int) := by omega
                by_cases hql : q < l.length
                · have q1 : (q : Int) < (l.length : Int) := by omega
                  have q0 : (0 : Int) ≤ (q : Int) := by omega
                  obtain ⟨x, hx⟩ : ∃ x, l[q]? = some x := ⟨_, List.getElem?_eq_getElem hql⟩
                  obtain ⟨y, hy⟩ : ∃ y, L[j]? = some y := ⟨_, List.getElem?_eq_getElem hjl⟩
                  obtain ⟨b, off, rfl, hb, hce1⟩ := en_at (own_rdL O8.out) hy
                  obtain ⟨b', off', rfl, hb', hce2⟩ := en_at (RI.out.below B8.out) hx
                  obtain ⟨d0, d1, d2, d3⟩ := hce1
                  obtain ⟨f0, f1, f2, f3⟩ := hce2
                  have HX := Lib.hid hx
                  have HY := Lib.hid hy
                  have zb2 : b' < w8.heap.size := by omega
                  clear hx hy
                  by_cases hxy : y = x
                  · subst hxy
                    have HS9 : Hid ((l.drop (q + 1)).Sublist (L.drop (j + 1))) := Lib.hid (sub_hit HSU.out HX.out HY.out)
                    clear HSU
                    go_wp2_with fail
                    refine wp_qall (by kernel_rfl) (by kernel_rfl) ?_
                    intro hcg
                    repeat (first | go_big_quiet_step (fail) | quiet_step (fail))
                    refine wpQuiet_nil ?_
                    intro wq hbwq hcwq hfwq
                    clear hcg
                    have B9 := Lib.hid (B8.out.trans (hbwq.mono (by omega)))
                    have O9 := Lib.hid (own_keep O8.out hbwq (Nat.le_refl _))
                    have z9 := Nat.le_trans z8 hbwq.size
                    clear hbwq hcwq hfwq
                    go_wp2_with fail
                    go_roundw
                    case rel => exact ⟨q + 1, j + 1, by go_num, by go_num, by omega, by omega, HS9, O9, B9, z9⟩
                    case measure => simp [intOf]; omega
                  · have HSM : Hid ((l.drop q).Sublist (L.drop (j + 1))) := Lib.hid (sub_miss HSU.out HX.out HY.out hxy)
                    have hne := ent_ne hxy
                    clear hxy HSU HX HY
                    obtain ⟨x1, x2, x3, x4⟩ := x
                    obtain ⟨y1, y2, y3, y4⟩ := y
                    dsimp only at d0 d1 d2 d3 f0 f1 f2 f3 hne
                    have e1 : (y1.toList == x1.toList) = decide (y1 = x1) := str_eqB _ _
                    have e2 : (y2.toList == x2.toList) = decide (y2 = x2) := str_eqB _ _
                    have e3 : (y3 == x3) = decide (y3 = x3) := by simp [BEq.beq]
                    have e4 : (y4 == x4) = decide (y4 = x4) := by cases y4 <;> cases x4 <;> rfl
                    have hall : ((y1.toList == x1.toList) && ((y2.toList == x2.toList) && ((y3 == x3) && (y4 == x4)))) = false := by
                      rw [e1, e2, e3, e4]
                      simpa using hne
                    have HNE := Lib.hid hall
                    clear hne e1 e2 e3 e4 hall
                    by_cases q1 : (y1.toList == x1.toList) = true
                    · by_cases q2 : (y2.toList == x2.toList) = true
                      · by_cases q3 : (y3 == x3) = true
                        · have q4 : (y4 == x4) = false := by have := HNE.out; rw [q1, q2, q3] at this; simpa using this
                          go_wp2_with fail
                          refine wp_qall (by kernel_rfl) (by kernel_rfl) ?_
                          intro hcg
                          repeat (first | go_big_quiet_step (fail) | quiet_step (fail))
                          refine wpQuiet_nil ?_
                          intro wq hbwq hcwq hfwq
                          clear hcg
                          have B9 := Lib.hid (B8.out.trans (hbwq.mono (by omega)))
                          have O9 := Lib.hid (own_keep O8.out hbwq (Nat.le_refl _))
                          have z9 := Nat.le_trans z8 hbwq.size
                          clear hbwq hcwq hfwq
                          go_wp2_with fail
                          go_roundw
                          case rel => exact ⟨q, j + 1, rfl, by go_num, hq, by omega, HSM, O9, B9, z9⟩
                          case measure => simp [intOf]; omega
                        · have q3' : (y3 == x3) = false := by simpa using q3
                          clear q3
                          go_wp2_with fail
                          refine wp_qall (by kernel_rfl) (by kernel_rfl) ?_
                          intro hcg
                          repeat (first | go_big_quiet_step (fail) | quiet_step (fail))
                          refine wpQuiet_nil ?_
                          intro wq hbwq hcwq hfwq
                          clear hcg
                          have B9 := Lib.hid (B8.out.trans (hbwq.mono (by omega)))
                          have O9 := Lib.hid (own_keep O8.out hbwq (Nat.le_refl _))
                          have z9 := Nat.le_trans z8 hbwq.size
                          clear hbwq hcwq hfwq
                          go_wp2_with fail
                          go_roundw
                          case rel => exact ⟨q, j + 1, rfl, by go_num, hq, by omega, HSM, O9, B9, z9⟩
                          case measure => simp [intOf]; omega
                      · have q2' : (y2.toList == x2.toList) = false := by simpa using q2
                        clear q2
                        go_wp2_with fail
                        refine wp_qall (by kernel_rfl) (by kernel_rfl) ?_
                        intro hcg
                        repeat (first | go_big_quiet_step (fail) | quiet_step (fail))
                        refine wpQuiet_nil ?_
                        intro wq hbwq hcwq hfwq
                        clear hcg
                        have B9 := Lib.hid (B8.out.trans (hbwq.mono (by omega)))
                        have O9 := Lib.hid (own_keep O8.out hbwq (Nat.le_refl _))
                        have z9 := Nat.le_trans z8 hbwq.size
                        clear hbwq hcwq hfwq
                        go_wp2_with fail
                        go_roundw
                        case rel => exact ⟨q, j + 1, rfl, by go_num, hq, by omega, HSM, O9, B9, z9⟩
                        case measure => simp [intOf]; omega
                    · have q1' : (y1.toList == x1.toList) = false := by simpa using q1
                      clear q1
                      go_wp2_with fail
                      refine wp_qall (by kernel_rfl) (by kernel_rfl) ?_
                      intro hcg
                      repeat (first | go_big_quiet_step (fail) | quiet_step (fail))
                      refine wpQuiet_nil ?_
                      intro wq hbwq hcwq hfwq
                      clear hcg
                      have B9 := Lib.hid (B8.out.trans (hbwq.mono (by omega)))
                      have O9 := Lib.hid (own_keep O8.out hbwq (Nat.le_refl _))
                      have z9 := Nat.le_trans z8 hbwq.size
                      clear hbwq hcwq hfwq
                      go_wp2_with fail
                      go_roundw
                      case rel => exact ⟨q, j + 1, rfl, by go_num, hq, by omega, HSM, O9, B9, z9⟩
                      case measure => simp [intOf]; omega
                · have q1 : ¬ (q : Int) < (l.length : Int) := by omega
                  have q2 : ((q : Int) != (l.length : Int)) = false := by rw [bne_eq_false_iff_eq]; omega
                  clear HSU
                  have HQE : q = l.length := by omega
                  go_wp2_with fail
                  go_roundw
                  case rel => exact ⟨i + 1, by go_num, by omega, O8, B8, z8⟩
                  case measure => simp [intOf]; omega
              · have j1 : ¬ (j : Int) < (L.length : Int) := by omega
                have hle := sub_end HSU.out (by omega)
                have q2 : ((q : Int) != (l.length : Int)) = false := by rw [bne_eq_false_iff_eq]; omega
                clear HSU
                have HQE : q = l.length := by omega
                go_wp2_with fail
                go_roundw
                case rel => exact ⟨i + 1, by go_num, by omega, O8, B8, z8⟩
                case measure => simp [intOf]; omega
          · have i1 : ¬ (i : Int) < (k : Int) := by omega
            go_wp2_with fail
            go_ret
            exact ⟨rfl, by rw [← HP.out]; exact B6.out⟩

theorem blockMerge_law (w : World) (x : EntssArg w) (_ : True) :
    Calls Try.prog 5 #[.slice x.A x.n x.c] w fun e w' => e = .returned (.bool true) ∧ Below w.heap.size w w' :=
  blockMerge_walk w x.A x.n x.c x.vs x.ls x.hv x.hl (Nat.le_trans x.hc x.hn) x.hs x.rd x.lsb
end Go.Proofs.Ytmcpjpkidcbgiaa
