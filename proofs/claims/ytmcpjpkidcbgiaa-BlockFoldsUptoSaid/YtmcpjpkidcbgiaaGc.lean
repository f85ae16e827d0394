/- Walk: entries are folded. -/
import Derived.Test.YtmcpjpkidcbgiaaGa
import Derived.Test.YtmcpjpkidcbgiaaNv
import Derived.Test.YtmcpjpkidcbgiaaEf
namespace Go.Proofs.Ytmcpjpkidcbgiaa
open Go.RowKit Go.St Go.Maps
set_option linter.unusedVariables false
set_option linter.unusedSimpArgs false
set_option maxRecDepth 100000

def foldR (qs : List Int) (last : Bool) (l : List Ent) : List Ent := fldN qs last l.length l
theorem fldN_fuel (qs : List Int) (last : Bool) : ∀ (n m : Nat) (l : List Ent), l.length ≤ n → l.length ≤ m → fldN qs last n l = fldN qs last m l
  | 0, m, l, h, _ => by
    rw [List.eq_nil_of_length_eq_zero (Nat.le_zero.1 h)]
    cases m <;> rfl
  | n + 1, 0, l, _, h => by rw [List.eq_nil_of_length_eq_zero (Nat.le_zero.1 h)]; rfl
  | _ + 1, _ + 1, [], _, _ => rfl
  | n + 1, m + 1, x :: r, h, k => by
    have hd : (r.dropWhile (sameK x.key)).length ≤ r.length := (List.dropWhile_suffix _).length_le
    simp only [List.length_cons] at h k
    rw [fldN, fldN, fldN_fuel qs last n m _ (by omega) (by omega)]
theorem foldR_nil (qs : List Int) (last : Bool) : foldR qs last [] = [] := rfl
theorem foldR_cons (qs : List Int) (last : Bool) (x : Ent) (r : List Ent) : foldR qs last (x :: r) = trI last (stG qs none (x :: r.takeWhile (sameK x.key))) ++ foldR qs last (r.dropWhile (sameK x.key)) := by
  unfold foldR
  have hd : (r.dropWhile (sameK x.key)).length ≤ r.length := (List.dropWhile_suffix _).length_le
  rw [List.length_cons, fldN, fldN_fuel qs last r.length (r.dropWhile (sameK x.key)).length _ hd (Nat.le_refl _)]
theorem grp_idx (qs : List Int) (last : Bool) {l : List Ent} {fr t : Nat} {x : Ent} (hx : l[fr]? = some x) (ht : fr < t) (htl : t ≤ l.length) (hs : ∀ (j : Nat) (y : Ent), fr ≤ j → j < t → l[j]? = some y → y.key = x.key) (he : ∀ y, l[t]? = some y → y.key ≠ x.key) :
    foldR qs last (l.drop fr) = trI last (stG qs none ((l.drop fr).take (t - fr))) ++ foldR qs last (l.drop t) := by
  have h1 : l.drop (fr + 1) = (l.drop (fr + 1)).take (t - fr - 1) ++ l.drop t := by
    conv => lhs; rw [← List.take_append_drop (t - fr - 1) (l.drop (fr + 1))]
    rw [List.drop_drop, show fr + 1 + (t - fr - 1) = t by omega]
  have hall : ∀ e ∈ (l.drop (fr + 1)).take (t - fr - 1), sameK x.key e = true := by
    intro e h
    obtain ⟨i, hi⟩ := List.mem_iff_getElem?.1 h
    rw [List.getElem?_take] at hi
    split at hi
    · rename_i h2
      rw [List.getElem?_drop] at hi
      exact decide_eq_true (hs _ e (by omega) (by omega) hi)
    · cases hi
  have hend : (l.drop t).takeWhile (sameK x.key) = [] ∧ (l.drop t).dropWhile (sameK x.key) = l.drop t := by
    cases hd : l.drop t with
    | nil => exact ⟨rfl, rfl⟩
    | cons y r =>
      have hy : l[t]? = some y := by
        have h2 : (l.drop t)[0]? = some y := by rw [hd]; rfl
        rwa [List.getElem?_drop, Nat.add_zero] at h2
      have h3 : ¬ (sameK x.key y = true) := fun h => he y hy (of_decide_eq_true h)
      exact ⟨List.takeWhile_cons_of_neg h3, List.dropWhile_cons_of_neg h3⟩
  have h4 : (l.drop (fr + 1)).takeWhile (sameK x.key) = (l.drop (fr + 1)).take (t - fr - 1) := by
    conv => lhs; rw [h1]
    rw [List.takeWhile_append_of_pos hall, hend.1, List.append_nil]
  have h5 : (l.drop (fr + 1)).dropWhile (sameK x.key) = l.drop t := by
    conv => lhs; rw [h1]
    rw [List.dropWhile_append_of_pos hall, hend.2]
  have h6 : (l.drop fr).take (t - fr) = x :: (l.drop (fr + 1)).take (t - fr - 1) := by
    rw [drop_at hx, show t - fr = (t - fr - 1) + 1 by omega, List.take_succ_cons]
    rfl
  rw [h6, drop_at hx, foldR_cons, h4, h5]
def prG (l : List Ent) (fr i : Nat) : Option Int := if i = fr then none else (l[i - 1]?).map Ent.seq
theorem stG_at (qs : List Int) {l : List Ent} {fr i t : Nat} {x : Ent} (hx : l[i]? = some x) (hf : fr ≤ i) (ht : i < t) :
    stG qs (prG l fr i) ((l.drop i).take (t - i)) = if askB qs (prG l fr i) x.seq = true then x :: stG qs (prG l fr (i + 1)) ((l.drop (i + 1)).take (t - (i + 1))) else stG qs (prG l fr (i + 1)) ((l.drop (i + 1)).take (t - (i + 1))) := by
  have e : prG l fr (i + 1) = some x.seq := by
    unfold prG
    rw [if_neg (by omega), Nat.add_sub_cancel, hx]
    rfl
  rw [drop_at hx, show t - i = (t - (i + 1)) + 1 by omega, List.take_succ_cons, stG, e]
theorem ask_yes {qs : List Int} {pr : Option Int} {s q : Int} {j : Nat} (hq : qs[j]? = some q) (h : (decide (s ≤ q) && prB pr q) = true) : askB qs pr s = true := by
  unfold askB
  rw [List.any_eq_true]
  exact ⟨q, List.mem_of_getElem? hq, h⟩
theorem ask_no {qs : List Int} {pr : Option Int} {s : Int} (h : ∀ (j : Nat) (q : Int), qs[j]? = some q → (decide (s ≤ q) && prB pr q) = false) : askB qs pr s = false := by
  unfold askB
  rw [List.any_eq_false]
  intro q hq
  obtain ⟨j, hj⟩ := List.mem_iff_getElem?.1 hq
  rw [h j q hj]
  decide
theorem trm_snoc : ∀ (l : List Ent) (x : Ent), trm (l ++ [x]) = if x.del = true then trm l else l ++ [x]
  | [], x => by
    rw [List.nil_append]
    show (if x.del = true ∧ (trm []).isEmpty = true then [] else x :: trm []) = _
    by_cases hx : x.del = true
    · rw [if_pos ⟨hx, rfl⟩, if_pos hx]
      rfl
    · rw [if_neg (fun h => hx h.1), if_neg hx]
      rfl
  | y :: r, x => by
    rw [List.cons_append, trm, trm_snoc r x, trm]
    by_cases hx : x.del = true
    · rw [if_pos hx, if_pos hx]
    · rw [if_neg hx, if_neg hx, if_neg]
      rintro ⟨_, h⟩
      simp at h
theorem trm_keep {l : List Ent} {x : Ent} (h : x.del = false) : trm (l ++ [x]) = l ++ [x] := by rw [trm_snoc, h]; rfl
theorem trm_cut {l : List Ent} {x : Ent} (h : x.del = true) : trm (l ++ [x]) = trm l := by rw [trm_snoc, if_pos h]
theorem take_snoc' {l : List Ent} {k : Nat} {x : Ent} (h : l[k]? = some x) : l.take (k + 1) = l.take k ++ [x] := by rw [List.take_add_one, h]; rfl

set_option maxHeartbeats 6400000 in
theorem fold_any (A : Option Addr) (n c : Nat) (l : List Ent) (hl : l.length = n) (hn : n ≤ 1000000) (K : Option Addr) (nk ck : Nat) (ks : List Int) (hkl : ks.length = nk) (hnk : nk ≤ 1000000) (last : Bool) (B : Nat) (w : World) (hr : Rd w B A (env l)) (hrk : Rd w B K (nv ks)) (hB : B ≤ w.heap.size) :
    Calls Try.prog 28 #[.slice A n c, .slice K nk ck, .bool last] w fun e w' => ∃ v, e = .returned v ∧ w'.ownsRow w.heap.size 43 4 v (foldE l ks last).length (env (foldE l ks last)) ∧ Below w.heap.size w w' := by
  have HL := Lib.hid hl
  have HR := Lib.hid hr
  have KL := Lib.hid hkl
  have HK := Lib.hid hrk
  clear hl hr hkl hrk
  obtain ⟨qs, hqs⟩ : ∃ qs : List Int, qs = 1073741824 :: ks := ⟨_, rfl⟩
  obtain ⟨E, hE⟩ : ∃ E, E = foldE l ks last := ⟨_, rfl⟩
  rw [← hE]
  have HE : Hid (E = [] ++ foldR qs last (l.drop 0)) := Lib.hid (by rw [hE, hqs]; rfl)
  have HQL : Hid (qs.length = 1 + nk) := Lib.hid (by rw [hqs, List.length_cons, KL.out]; omega)
  have HQS := Lib.hid hqs
  clear hE hqs
  go_enter Try.func28, Try.ntmps28
  go_wp2_with (at_builtin; refine wpList_app styI (.tmp 16) (.tmp 17) rfl rfl w.heap.size (World.ownsRow_lit w #[.int .i64 1073741824] 1 (Nat.le_refl _) (by decide) rfl) rfl nk ck (Rd.alloc HK.out hB _) rfl (by rw [nv_length, KL.out, Nat.mul_one]) (nv_one _) (by unfold maxLen; omega) (by omega) (by simp) ?_; intro v1 w1 own1 gr1 nil1 at1; obtain ⟨A7, c7, rfl, -, -⟩ := own_sl own1)
  have B1 : Hid (Below w.heap.size w w1) := Lib.hid (((Below.refl _ _).alloc (Nat.le_refl _) _).grown gr1 (by simp) (by simp [Value.ownBlock]))
  have RA : Hid (Rd w1 w1.heap.size A7 (nv qs)) := Lib.hid (by
    obtain ⟨A', c', e, -, h⟩ := own_sl own1
    injection e with e1
    rw [e1, HQS.out]
    exact h)
  have R1 := Lib.hid (HR.out.below (B1.out.mono hB))
  have hz1 := B1.out.size
  have hB1 : B ≤ w1.heap.size := by omega
  clear own1 gr1 nil1 at1 HR HK HQS
  go_loopw [8, 9] (fun s8 s9 wr => ∃ (A8 : Option Addr) (c8 : Nat) (out : List Ent) (fr : Nat), s8 = .slice A8 out.length c8 ∧ s9 = .int .i64 (fr : Int) ∧ fr ≤ n ∧ out.length ≤ fr ∧ Hid (wr.ownsRow w1.heap.size 43 4 (.slice A8 out.length c8) out.length (env out)) ∧ Hid (E = out ++ foldR qs last (l.drop fr)) ∧ Hid (Below w1.heap.size w1 wr)) (fun _ s9 _ => n - (intOf s9).toNat)
  case atStart => exact ⟨none, 0, [], 0, rfl, rfl, Nat.zero_le _, Nat.le_refl _, Lib.hid (World.ownsRow_nil _ _ _ _), HE, Lib.hid (Below.refl _ _)⟩
  case round =>
    clear HE
    obtain ⟨A8, c8, out, fr, rfl, rfl, hfn, hof, HO, HQ, B2⟩ := hrel
    obtain ⟨w2, rfl⟩ : ∃ x, x = wr := ⟨_, rfl⟩
    by_cases hlt : fr < n
    · obtain ⟨x, hx⟩ : ∃ x, l[fr]? = some x := ⟨_, List.getElem?_eq_getElem (by rw [HL.out]; exact hlt)⟩
      have R2 := Lib.hid (R1.out.below (B2.out.mono hB1))
      obtain ⟨b, off, rfl, hb, hce⟩ := en_at R2.out hx
      have HX := Lib.hid hx
      have HCE := Lib.hid hce
      have i3 : (fr : Int) < (n : Int) := by omega
      have i4 : (0 : Int) ≤ (fr : Int) := by omega
      clear hx hce
      go_wp2_with fail
      go_loopw [10] (fun s10 wr => ∃ t : Nat, s10 = .int .i64 (t : Int) ∧ fr ≤ t ∧ t ≤ n ∧ Hid (∀ (j : Nat) (y : Ent), fr ≤ j → j < t → l[j]? = some y → y.key = x.key) ∧ Hid (Below w2.heap.size w2 wr)) (fun s10 _ => n - (intOf s10).toNat)
      case atStart => exact ⟨fr, rfl, Nat.le_refl _, hfn, Lib.hid (fun j y h1 h2 => by omega), Lib.hid (Below.refl _ _)⟩
      case round =>
        obtain ⟨t, rfl, hft, htn, HSM, B23⟩ := hrel
        obtain ⟨w3, rfl⟩ : ∃ x, x = wr := ⟨_, rfl⟩
        have x0 := (HCE.out.below (Nat.lt_of_lt_of_le hb (Nat.le_trans hB1 B2.out.size)) B23.out).c0
        have zb : b < w3.heap.size := by have := B23.out.size; have := B2.out.size; omega
        by_cases htl : t < n
        · obtain ⟨y, hy⟩ : ∃ y, l[t]? = some y := ⟨_, List.getElem?_eq_getElem (by rw [HL.out]; exact htl)⟩
          have R3 := R2.out.below (B23.out.mono (Nat.le_trans hB1 B2.out.size))
          obtain ⟨b4, off4, e4, hb4, hce4⟩ := en_at R3 hy
          injection e4 with e4
          injection e4 with e5 e6
          subst e5 e6
          have y0 := hce4.c0
          have HY := Lib.hid hy
          have i5 : (t : Int) < (n : Int) := by omega
          have i6 : (0 : Int) ≤ (t : Int) := by omega
          have i7 : decide ((t : Int) < (n : Int)) = true := decide_eq_true i5
          have i8 : decide (t < n) = true := decide_eq_true htl
          clear hce4 hy R3
          by_cases hky : y.key = x.key
          · have e1 : (y.key.toList == x.key.toList) = true := by rw [str_eqB]; exact decide_eq_true hky
            have HSM9 : Hid (∀ (j : Nat) (y : Ent), fr ≤ j → j < t + 1 → l[j]? = some y → y.key = x.key) := Lib.hid (fun j y' h1 h2 h3 => by
              rcases Nat.lt_or_ge j t with h | h
              · exact HSM.out j y' h1 h h3
              · have e : j = t := by omega
                subst e
                rw [HY.out] at h3
                injection h3 with h3
                rw [← h3]
                exact hky)
            clear hky
            go_wp2_with fail
            refine wp_qall (by kernel_rfl) (by kernel_rfl) ?_
            intro hcg
            repeat (first | go_big_quiet_step (fail) | quiet_step (fail))
            refine wpQuiet_nil ?_
            intro wq hbwq hcwq hfwq
            clear hcg
            have B9 := Lib.hid (B23.out.trans (hbwq.mono B23.out.size))
            clear hbwq hcwq hfwq
            go_wp2_with fail
            go_roundw
            case rel => exact ⟨t + 1, by go_num, by omega, by omega, HSM9, B9⟩
            case measure => simp [intOf]; omega
          · have e1 : (y.key.toList == x.key.toList) = false := by rw [str_eqB]; exact decide_eq_false hky
            have hftt : fr < t := by
              rcases Nat.lt_or_ge fr t with h | h
              · exact h
              · have e : t = fr := by omega
                subst e
                have h2 := HX.out
                rw [HY.out] at h2
                injection h2 with h2
                exact absurd (by rw [h2]) hky
            have HGR := Lib.hid (grp_idx qs last HX.out hftt (by rw [HL.out]; exact htn) HSM.out (fun y' h => by rw [HY.out] at h; injection h with h; rw [← h]; exact hky))
            obtain ⟨G, hG⟩ : ∃ G, G = stG qs none ((l.drop fr).take (t - fr)) := ⟨_, rfl⟩
            have HG0 : Hid (G = [] ++ stG qs (prG l fr fr) ((l.drop fr).take (t - fr))) := Lib.hid (by rw [hG]; unfold prG; rw [if_pos rfl]; rfl)
            rw [← hG] at HGR
            clear hky hG
            go_wp2_with fail
            refine wp_qall (by kernel_rfl) (by kernel_rfl) ?_
            intro hcg
            repeat (first | go_big_quiet_step (fail) | quiet_step (fail))
            refine wpQuiet_nil ?_
            intro wq hbwq hcwq hfwq
            clear hcg
            have B39 := B23.out.trans (hbwq.mono B23.out.size)
            have O3 := Lib.hid (own_keep HO.out B39 (Nat.le_refl _))
            have B3 := Lib.hid (B2.out.trans (B39.mono B2.out.size))
            clear hbwq hcwq hfwq B39 HO B23 x0 zb y0
            obtain ⟨w3, rfl⟩ : ∃ x, x = wq := ⟨_, rfl⟩
            have hz3 : w1.heap.size ≤ w3.heap.size := B3.out.size
            go_wp2_with fail
            go_loopw [11, 12] (fun s11 s12 wr => ∃ (A11 : Option Addr) (c11 : Nat) (st : List Ent) (i : Nat), s11 = .slice A11 st.length c11 ∧ s12 = .int .i64 (i : Int) ∧ fr ≤ i ∧ i ≤ t ∧ st.length ≤ i - fr ∧ Hid (wr.ownsRow w3.heap.size 43 4 (.slice A11 st.length c11) st.length (env st)) ∧ Hid (G = st ++ stG qs (prG l fr i) ((l.drop i).take (t - i))) ∧ Hid (Below w3.heap.size w3 wr)) (fun _ s12 _ => t - (intOf s12).toNat)
            case atStart => exact ⟨none, 0, [], fr, rfl, rfl, Nat.le_refl _, by omega, by simp, Lib.hid (World.ownsRow_nil _ _ _ _), HG0, Lib.hid (Below.refl _ _)⟩
            case round =>
              clear HG0
              obtain ⟨A11, c11, st, i, rfl, rfl, hfi, hit2, hsl, OS, HG, B4⟩ := hrel
              obtain ⟨w4, rfl⟩ : ∃ x, x = wr := ⟨_, rfl⟩
              have BW := Lib.hid (B3.out.trans (B4.out.mono hz3))
              by_cases hit : i < t
              · obtain ⟨z, hz⟩ : ∃ z, l[i]? = some z := ⟨_, List.getElem?_eq_getElem (by rw [HL.out]; omega)⟩
                have R4 := Lib.hid (R1.out.below (BW.out.mono hB1))
                obtain ⟨b4, off4, e4, hb4, hce⟩ := en_at R4.out hz
                injection e4 with e4
                injection e4 with e5 e6
                subst e5 e6
                obtain ⟨z0, z1, z2, z3⟩ := hce
                have HZ := Lib.hid hz
                have i1 : (i : Int) < (t : Int) := by omega
                have i0 : (0 : Int) ≤ (i : Int) := by omega
                have i2 : (i : Int) < (n : Int) := by omega
                have zb4 : b < w4.heap.size := by have := BW.out.size; omega
                clear hz
                go_wp2_with fail
                go_loopw [11, 51] (fun s11 s51 wr => ∃ j : Nat, s11 = .slice A11 st.length c11 ∧ s51 = .int .i64 (j : Int) ∧ j ≤ 1 + nk ∧ Hid (∀ (m : Nat) (q : Int), m < j → qs[m]? = some q → (decide (z.seq ≤ q) && prB (prG l fr i) q) = false) ∧ wr = w4) (fun _ s51 _ => 1 + nk - (intOf s51).toNat)
                case atStart => exact ⟨0, rfl, rfl, Nat.zero_le _, Lib.hid (fun m q h => by omega), rfl⟩
                case round =>
                  obtain ⟨j, rfl, rfl, hj, HN, rfl⟩ := hrel
                  by_cases hjt : j < 1 + nk
                  · obtain ⟨q, hq⟩ : ∃ q, qs[j]? = some q := ⟨_, List.getElem?_eq_getElem (by rw [HQL.out]; omega)⟩
                    obtain ⟨bq, oq, rfl, hbq, hcq⟩ := (RA.out.below BW.out).at_ (nv_get hq)
                    have HQJ := Lib.hid hq
                    have k1 : (j : Int) < 1 + (nk : Int) := by omega
                    have k0 : (0 : Int) ≤ (j : Int) := by omega
                    have zbq : bq < wr.heap.size := by have := BW.out.size; omega
                    clear hq
                    by_cases hs1 : z.seq ≤ q
                    case neg =>
                      have hs1' : decide (z.seq ≤ q) = false := decide_eq_false hs1
                      have HS1 := Lib.hid hs1'
                      have HN9 : Hid (∀ (m : Nat) (q' : Int), m < j + 1 → qs[m]? = some q' → (decide (z.seq ≤ q') && prB (prG l fr i) q') = false) := Lib.hid (fun m q' hm hq' => by
                        rcases Nat.lt_or_ge m j with h | h
                        · exact HN.out m q' h hq'
                        · have e : m = j := by omega
                          subst e
                          rw [HQJ.out] at hq'
                          injection hq' with hq'
                          rw [← hq']
                          rw [HS1.out]; rfl)
                      go_wp2_with fail
                      go_roundw
                      case rel => exact ⟨j + 1, rfl, by go_num, by omega, HN9, (by first | rfl | trivial)⟩
                      case measure => simp [intOf]; omega
                    case pos =>
                      have hs1' : decide (z.seq ≤ q) = true := decide_eq_true hs1
                      have HS1 := Lib.hid hs1'
                      by_cases hif : i = fr
                      · have HIF := Lib.hid hif
                        have k2 : ((i : Int) == (fr : Int)) = true := by rw [beq_iff_eq]; omega
                        clear hif
                        have HA : Hid (askB qs (prG l fr i) z.seq = true) := Lib.hid (ask_yes HQJ.out (by rw [HS1.out]; unfold prG; rw [if_pos HIF.out]; rfl))
                        have HG9 : Hid (G = (st ++ [z]) ++ stG qs (prG l fr (i + 1)) ((l.drop (i + 1)).take (t - (i + 1)))) := Lib.hid (by rw [HG.out, stG_at qs HZ.out hfi hit, if_pos HA.out]; simp)
                        have hs4 := B4.out.size
                        clear HA HG HQJ HN
                        go_wp2_with (at_builtin; refine wpList_app styE (.tmp 77) (.tmp 82) rfl rfl w3.heap.size (OS.out.alloc _) rfl 1 1 (rd_frC _ _ _ _) rfl rfl (by simp [Value.oneCell']) (by unfold maxLen; omega) (by omega) (by rw [World.size_alloc]; omega) ?_; intro v5 w5 own5 gr5 nil5 at5; obtain ⟨A6, c6, rfl, -, -⟩ := own_sl own5)
                        have B9 := Lib.hid ((B4.out.alloc hs4 _).grown gr5 (by rw [World.size_alloc]; omega) (fun g e => (OS.out.lt g e).1))
                        have O9 : Hid (w5.ownsRow w3.heap.size 43 4 (.slice A6 (st ++ [z]).length c6) (st ++ [z]).length (env (st ++ [z]))) := Lib.hid (by
                          have h := own_eq own5 (m := (st ++ [z]).length) (ys := env (st ++ [z])) (by simp) (by rw [env_app]; rfl)
                          rw [List.length_append] at h ⊢
                          exact h)
                        clear own5 gr5 nil5 at5
                        go_roundw
                        case rel => exact ⟨A6, c6, st ++ [z], i + 1, by rw [List.length_append]; rfl, by go_num, by omega, by omega, by rw [List.length_append]; simp only [List.length_cons, List.length_nil]; omega, O9, HG9, B9⟩
                        case measure => simp [intOf]; omega
                      · have HIF := Lib.hid hif
                        have k2 : ((i : Int) == (fr : Int)) = false := by rw [beq_eq_false_iff_ne]; omega
                        obtain ⟨i', hi'⟩ : ∃ i', i' = i - 1 := ⟨_, rfl⟩
                        obtain ⟨y, hy⟩ : ∃ y, l[i']? = some y := ⟨_, List.getElem?_eq_getElem (by rw [HL.out]; omega)⟩
                        obtain ⟨b5, off5, e5, hb5, hce5⟩ := en_at R4.out hy
                        injection e5 with e5
                        injection e5 with e6 e7
                        subst e6 e7
                        have y2 := hce5.c2
                        have j2 : (i : Int) - 1 = (i' : Int) := by omega
                        have j3 : (i' : Int) < (n : Int) := by omega
                        have j4 : IntKind.i64.wrap (i' : Int) = (i' : Int) := IntWalk.i64_in _ (by omega)
                        have j6 : (0 : Int) ≤ (i' : Int) := by omega
                        have HPR : Hid (prG l fr i = some y.seq) := Lib.hid (by unfold prG; rw [if_neg HIF.out, ← hi', hy]; rfl)
                        clear hif hce5 hy hi'
                        by_cases hs2 : q < y.seq
                        · have HS2 := Lib.hid hs2
                          have hs2' : decide (q < y.seq) = true := decide_eq_true hs2
                          have HA : Hid (askB qs (prG l fr i) z.seq = true) := Lib.hid (ask_yes HQJ.out (by rw [HS1.out, HPR.out]; exact decide_eq_true HS2.out))
                          have HG9 : Hid (G = (st ++ [z]) ++ stG qs (prG l fr (i + 1)) ((l.drop (i + 1)).take (t - (i + 1)))) := Lib.hid (by rw [HG.out, stG_at qs HZ.out hfi hit, if_pos HA.out]; simp)
                          have hs4 := B4.out.size
                          clear HA HG HQJ HN
                          go_wp2_with (at_builtin; refine wpList_app styE (.tmp 77) (.tmp 82) rfl rfl w3.heap.size (OS.out.alloc _) rfl 1 1 (rd_frC _ _ _ _) rfl rfl (by simp [Value.oneCell']) (by unfold maxLen; omega) (by omega) (by rw [World.size_alloc]; omega) ?_; intro v5 w5 own5 gr5 nil5 at5; obtain ⟨A6, c6, rfl, -, -⟩ := own_sl own5)
                          have B9 := Lib.hid ((B4.out.alloc hs4 _).grown gr5 (by rw [World.size_alloc]; omega) (fun g e => (OS.out.lt g e).1))
                          have O9 : Hid (w5.ownsRow w3.heap.size 43 4 (.slice A6 (st ++ [z]).length c6) (st ++ [z]).length (env (st ++ [z]))) := Lib.hid (by
                            have h := own_eq own5 (m := (st ++ [z]).length) (ys := env (st ++ [z])) (by simp) (by rw [env_app]; rfl)
                            rw [List.length_append] at h ⊢
                            exact h)
                          clear own5 gr5 nil5 at5
                          go_roundw
                          case rel => exact ⟨A6, c6, st ++ [z], i + 1, by rw [List.length_append]; rfl, by go_num, by omega, by omega, by rw [List.length_append]; simp only [List.length_cons, List.length_nil]; omega, O9, HG9, B9⟩
                          case measure => simp [intOf]; omega
                        · have HS2 := Lib.hid hs2
                          have hs2' : decide (q < y.seq) = false := decide_eq_false hs2
                          have HN9 : Hid (∀ (m : Nat) (q' : Int), m < j + 1 → qs[m]? = some q' → (decide (z.seq ≤ q') && prB (prG l fr i) q') = false) := Lib.hid (fun m q' hm hq' => by
                            rcases Nat.lt_or_ge m j with h | h
                            · exact HN.out m q' h hq'
                            · have e : m = j := by omega
                              subst e
                              rw [HQJ.out] at hq'
                              injection hq' with hq'
                              rw [← hq']
                              rw [HS1.out, HPR.out]; exact decide_eq_false HS2.out)
                          go_wp2_with fail
                          go_roundw
                          case rel => exact ⟨j + 1, rfl, by go_num, by omega, HN9, (by first | rfl | trivial)⟩
                          case measure => simp [intOf]; omega
                  · have k1 : ¬ (j : Int) < 1 + (nk : Int) := by omega
                    have HA : Hid (askB qs (prG l fr i) z.seq = false) := Lib.hid (ask_no (fun m q hq => HN.out m q (by have := (List.getElem?_eq_some_iff.1 hq).1; have := HQL.out; omega) hq))
                    have HG9 : Hid (G = st ++ stG qs (prG l fr (i + 1)) ((l.drop (i + 1)).take (t - (i + 1)))) := Lib.hid (by rw [HG.out, stG_at qs HZ.out hfi hit, HA.out]; rfl)
                    clear HA HG HN
                    go_wp2_with fail
                    go_roundw
                    case rel => exact ⟨A11, c11, st, i + 1, rfl, by go_num, by omega, by omega, by omega, OS, HG9, B4⟩
                    case measure => simp [intOf]; omega
              · have i1 : ¬ (i : Int) < (t : Int) := by omega
                have HGS : Hid (G = st) := Lib.hid (by rw [HG.out, show t - i = 0 by omega]; simp [stG])
                have hcap : st.length ≤ c11 := by obtain ⟨A', c', e, h1, -⟩ := own_sl OS.out; injection e with _ _ e3; omega
                have RS : Hid (Rd w4 w4.heap.size A11 (env st)) := Lib.hid (by obtain ⟨A', c', e, -, h⟩ := own_sl OS.out; injection e with e1; rw [e1]; exact h)
                have OO := Lib.hid (own_keep O3.out B4.out (Nat.le_refl _))
                clear HG hit OS B4
                go_wp2_with fail
                go_loopw [11, 15] (fun s11 s15 wr => ∃ k : Nat, s11 = .slice A11 k c11 ∧ s15 = .int .i64 (k : Int) ∧ k ≤ st.length ∧ Hid (trI last st = trI last (st.take k)) ∧ (last = false → k = st.length) ∧ wr = w4) (fun _ s15 _ => (intOf s15).toNat)
                case atStart => exact ⟨st.length, rfl, rfl, Nat.le_refl _, Lib.hid (by rw [List.take_length]), fun _ => rfl, rfl⟩
                case round =>
                  obtain ⟨k, rfl, rfl, hk, HTR, hlf, rfl⟩ := hrel
                  obtain ⟨w4, rfl⟩ : ∃ x, x = wr := ⟨_, rfl⟩
                  cases last
                  · have HKL := Lib.hid (hlf rfl)
                    clear hlf
                    have HGT : Hid (trI false G = st.take k) := Lib.hid (by rw [HGS.out, HKL.out, List.take_length]; rfl)
                    have HQ9 : Hid (E = (out ++ st.take k) ++ foldR qs false (l.drop t)) := Lib.hid (by rw [HQ.out, HGR.out, HGT.out, List.append_assoc])
                    have RT : Hid (Rd w4 w4.heap.size (A11) (env (st.take k))) := Lib.hid (by rw [env_take]; exact (RS.out).take _)
                    have hlk : (st.take k).length = k := by rw [List.length_take]; omega
                    have hek : (env (st.take k)).length = k * 4 := by rw [env_len, hlk]
                    have hs4 : w1.heap.size ≤ w4.heap.size := BW.out.size
                    clear HQ HGR HGT HTR
                    go_wp2_with (at_builtin; refine wpList_app styE (.tmp 106) (.tmp 107) rfl rfl w1.heap.size OO.out rfl k c11 RT.out rfl hek (env_one _) (by unfold maxLen; omega) (by omega) hs4 ?_; intro v5 w5 own5 gr5 nil5 at5; obtain ⟨A6, c6, rfl, -, -⟩ := own_sl own5)
                    have B9 := Lib.hid (BW.out.grown gr5 hs4 (fun g e => (OO.out.lt g e).1))
                    have hel : out.length + k = (out ++ st.take k).length := by rw [List.length_append, hlk]
                    have O9 : Hid (w5.ownsRow w1.heap.size 43 4 (.slice A6 (out ++ st.take k).length c6) (out ++ st.take k).length (env (out ++ st.take k))) := Lib.hid (by
                      have h := own_eq own5 (m := (out ++ st.take k).length) (ys := env (out ++ st.take k)) hel (by rw [env_app])
                      rw [hel] at h
                      exact h)
                    clear own5 gr5 nil5 at5
                    go_roundw
                    case rel => exact ⟨A6, c6, out ++ st.take k, t, by rw [← hel], rfl, htn, by rw [← hel]; omega, O9, HQ9, B9⟩
                    case measure => simp [intOf]; omega
                  · clear hlf
                    by_cases hk0 : 0 < k
                    · obtain ⟨k', hk'⟩ : ∃ k', k' = k - 1 := ⟨_, rfl⟩
                      obtain ⟨y, hy⟩ : ∃ y, st[k']? = some y := ⟨_, List.getElem?_eq_getElem (by omega)⟩
                      have HTS : Hid (st.take k = st.take k' ++ [y]) := Lib.hid (by rw [← take_snoc' hy]; congr 1; omega)
                      obtain ⟨b5, off5, e5, hb5, hce5⟩ := en_at RS.out hy
                      have y3 := hce5.c3
                      have m1 : (0 : Int) < (k : Int) := by omega
                      have j2 : (k : Int) - 1 = (k' : Int) := by omega
                      have j3 : (k' : Int) < (k : Int) := by omega
                      have j4 : IntKind.i64.wrap (k' : Int) = (k' : Int) := IntWalk.i64_in _ (by omega)
                      have j6 : (0 : Int) ≤ (k' : Int) := by omega
                      clear hce5 hy hk'
                      cases hyd : y.del
                      · rw [hyd] at y3
                        have HYD := Lib.hid hyd
                        clear hyd
                        subst e5
                        have HGT : Hid (trI true G = st.take k) := Lib.hid (by rw [HGS.out, HTR.out, HTS.out]; exact trm_keep HYD.out)
                        have HQ9 : Hid (E = (out ++ st.take k) ++ foldR qs true (l.drop t)) := Lib.hid (by rw [HQ.out, HGR.out, HGT.out, List.append_assoc])
                        have RT : Hid (Rd w4 w4.heap.size (some ⟨b5, off5, none⟩) (env (st.take k))) := Lib.hid (by rw [env_take]; exact (RS.out).take _)
                        have hlk : (st.take k).length = k := by rw [List.length_take]; omega
                        have hek : (env (st.take k)).length = k * 4 := by rw [env_len, hlk]
                        have hs4 : w1.heap.size ≤ w4.heap.size := BW.out.size
                        clear HQ HGR HGT HTR
                        go_wp2_with (at_builtin; refine wpList_app styE (.tmp 106) (.tmp 107) rfl rfl w1.heap.size OO.out rfl k c11 RT.out rfl hek (env_one _) (by unfold maxLen; omega) (by omega) hs4 ?_; intro v5 w5 own5 gr5 nil5 at5; obtain ⟨A6, c6, rfl, -, -⟩ := own_sl own5)
                        have B9 := Lib.hid (BW.out.grown gr5 hs4 (fun g e => (OO.out.lt g e).1))
                        have hel : out.length + k = (out ++ st.take k).length := by rw [List.length_append, hlk]
                        have O9 : Hid (w5.ownsRow w1.heap.size 43 4 (.slice A6 (out ++ st.take k).length c6) (out ++ st.take k).length (env (out ++ st.take k))) := Lib.hid (by
                          have h := own_eq own5 (m := (out ++ st.take k).length) (ys := env (out ++ st.take k)) hel (by rw [env_app])
                          rw [hel] at h
                          exact h)
                        clear own5 gr5 nil5 at5
                        go_roundw
                        case rel => exact ⟨A6, c6, out ++ st.take k, t, by rw [← hel], rfl, htn, by rw [← hel]; omega, O9, HQ9, B9⟩
                        case measure => simp [intOf]; omega
                      · rw [hyd] at y3
                        have HTR9 : Hid (trI true st = trI true (st.take k')) := Lib.hid (by rw [HTR.out, HTS.out]; exact trm_cut hyd)
                        clear hyd HTR
                        have j7 : (k' : Int) ≤ (c11 : Int) := by omega
                        subst e5
                        go_wp2_with fail
                        go_roundw
                        case rel => exact ⟨k', rfl, rfl, by omega, HTR9, (fun h => by cases h), (by first | rfl | trivial)⟩
                        case measure => simp [intOf]; omega
                    · have m1 : ¬ (0 : Int) < (k : Int) := by omega
                      have HGT : Hid (trI true G = st.take k) := Lib.hid (by rw [HGS.out, HTR.out, show k = 0 by omega]; rfl)
                      have HQ9 : Hid (E = (out ++ st.take k) ++ foldR qs true (l.drop t)) := Lib.hid (by rw [HQ.out, HGR.out, HGT.out, List.append_assoc])
                      have RT : Hid (Rd w4 w4.heap.size (A11) (env (st.take k))) := Lib.hid (by rw [env_take]; exact (RS.out).take _)
                      have hlk : (st.take k).length = k := by rw [List.length_take]; omega
                      have hek : (env (st.take k)).length = k * 4 := by rw [env_len, hlk]
                      have hs4 : w1.heap.size ≤ w4.heap.size := BW.out.size
                      clear HQ HGR HGT HTR
                      go_wp2_with (at_builtin; refine wpList_app styE (.tmp 106) (.tmp 107) rfl rfl w1.heap.size OO.out rfl k c11 RT.out rfl hek (env_one _) (by unfold maxLen; omega) (by omega) hs4 ?_; intro v5 w5 own5 gr5 nil5 at5; obtain ⟨A6, c6, rfl, -, -⟩ := own_sl own5)
                      have B9 := Lib.hid (BW.out.grown gr5 hs4 (fun g e => (OO.out.lt g e).1))
                      have hel : out.length + k = (out ++ st.take k).length := by rw [List.length_append, hlk]
                      have O9 : Hid (w5.ownsRow w1.heap.size 43 4 (.slice A6 (out ++ st.take k).length c6) (out ++ st.take k).length (env (out ++ st.take k))) := Lib.hid (by
                        have h := own_eq own5 (m := (out ++ st.take k).length) (ys := env (out ++ st.take k)) hel (by rw [env_app])
                        rw [hel] at h
                        exact h)
                      clear own5 gr5 nil5 at5
                      go_roundw
                      case rel => exact ⟨A6, c6, out ++ st.take k, t, by rw [← hel], rfl, htn, by rw [← hel]; omega, O9, HQ9, B9⟩
                      case measure => simp [intOf]; omega
        · have i5 : ¬ (t : Int) < (n : Int) := by omega
          have i7 : decide ((t : Int) < (n : Int)) = false := decide_eq_false i5
          have i8 : decide (t < n) = false := decide_eq_false htl
          have hftt : fr < t := by omega
          have HGR := Lib.hid (grp_idx qs last HX.out hftt (by rw [HL.out]; exact htn) HSM.out (fun y' h => by have := (List.getElem?_eq_some_iff.1 h).1; have := HL.out; omega))
          obtain ⟨G, hG⟩ : ∃ G, G = stG qs none ((l.drop fr).take (t - fr)) := ⟨_, rfl⟩
          have HG0 : Hid (G = [] ++ stG qs (prG l fr fr) ((l.drop fr).take (t - fr))) := Lib.hid (by rw [hG]; unfold prG; rw [if_pos rfl]; rfl)
          rw [← hG] at HGR
          clear hG
          go_wp2_with fail
          refine wp_qall (by kernel_rfl) (by kernel_rfl) ?_
          intro hcg
          repeat (first | go_big_quiet_step (fail) | quiet_step (fail))
          refine wpQuiet_nil ?_
          intro wq hbwq hcwq hfwq
          clear hcg
          have B39 := B23.out.trans (hbwq.mono B23.out.size)
          have O3 := Lib.hid (own_keep HO.out B39 (Nat.le_refl _))
          have B3 := Lib.hid (B2.out.trans (B39.mono B2.out.size))
          clear hbwq hcwq hfwq B39 HO B23 x0 zb
          obtain ⟨w3, rfl⟩ : ∃ x, x = wq := ⟨_, rfl⟩
          have hz3 : w1.heap.size ≤ w3.heap.size := B3.out.size
          go_wp2_with fail
          go_loopw [11, 12] (fun s11 s12 wr => ∃ (A11 : Option Addr) (c11 : Nat) (st : List Ent) (i : Nat), s11 = .slice A11 st.length c11 ∧ s12 = .int .i64 (i : Int) ∧ fr ≤ i ∧ i ≤ t ∧ st.length ≤ i - fr ∧ Hid (wr.ownsRow w3.heap.size 43 4 (.slice A11 st.length c11) st.length (env st)) ∧ Hid (G = st ++ stG qs (prG l fr i) ((l.drop i).take (t - i))) ∧ Hid (Below w3.heap.size w3 wr)) (fun _ s12 _ => t - (intOf s12).toNat)
          case atStart => exact ⟨none, 0, [], fr, rfl, rfl, Nat.le_refl _, by omega, by simp, Lib.hid (World.ownsRow_nil _ _ _ _), HG0, Lib.hid (Below.refl _ _)⟩
          case round =>
            clear HG0
            obtain ⟨A11, c11, st, i, rfl, rfl, hfi, hit2, hsl, OS, HG, B4⟩ := hrel
            obtain ⟨w4, rfl⟩ : ∃ x, x = wr := ⟨_, rfl⟩
            have BW := Lib.hid (B3.out.trans (B4.out.mono hz3))
            by_cases hit : i < t
            · obtain ⟨z, hz⟩ : ∃ z, l[i]? = some z := ⟨_, List.getElem?_eq_getElem (by rw [HL.out]; omega)⟩
              have R4 := Lib.hid (R1.out.below (BW.out.mono hB1))
              obtain ⟨b4, off4, e4, hb4, hce⟩ := en_at R4.out hz
              injection e4 with e4
              injection e4 with e5 e6
              subst e5 e6
              obtain ⟨z0, z1, z2, z3⟩ := hce
              have HZ := Lib.hid hz
              have i1 : (i : Int) < (t : Int) := by omega
              have i0 : (0 : Int) ≤ (i : Int) := by omega
              have i2 : (i : Int) < (n : Int) := by omega
              have zb4 : b < w4.heap.size := by have := BW.out.size; omega
              clear hz
              go_wp2_with fail
              go_loopw [11, 51] (fun s11 s51 wr => ∃ j : Nat, s11 = .slice A11 st.length c11 ∧ s51 = .int .i64 (j : Int) ∧ j ≤ 1 + nk ∧ Hid (∀ (m : Nat) (q : Int), m < j → qs[m]? = some q → (decide (z.seq ≤ q) && prB (prG l fr i) q) = false) ∧ wr = w4) (fun _ s51 _ => 1 + nk - (intOf s51).toNat)
              case atStart => exact ⟨0, rfl, rfl, Nat.zero_le _, Lib.hid (fun m q h => by omega), rfl⟩
              case round =>
                obtain ⟨j, rfl, rfl, hj, HN, rfl⟩ := hrel
                by_cases hjt : j < 1 + nk
                · obtain ⟨q, hq⟩ : ∃ q, qs[j]? = some q := ⟨_, List.getElem?_eq_getElem (by rw [HQL.out]; omega)⟩
                  obtain ⟨bq, oq, rfl, hbq, hcq⟩ := (RA.out.below BW.out).at_ (nv_get hq)
                  have HQJ := Lib.hid hq
                  have k1 : (j : Int) < 1 + (nk : Int) := by omega
                  have k0 : (0 : Int) ≤ (j : Int) := by omega
                  have zbq : bq < wr.heap.size := by have := BW.out.size; omega
                  clear hq
                  by_cases hs1 : z.seq ≤ q
                  case neg =>
                    have hs1' : decide (z.seq ≤ q) = false := decide_eq_false hs1
                    have HS1 := Lib.hid hs1'
                    have HN9 : Hid (∀ (m : Nat) (q' : Int), m < j + 1 → qs[m]? = some q' → (decide (z.seq ≤ q') && prB (prG l fr i) q') = false) := Lib.hid (fun m q' hm hq' => by
                      rcases Nat.lt_or_ge m j with h | h
                      · exact HN.out m q' h hq'
                      · have e : m = j := by omega
                        subst e
                        rw [HQJ.out] at hq'
                        injection hq' with hq'
                        rw [← hq']
                        rw [HS1.out]; rfl)
                    go_wp2_with fail
                    go_roundw
                    case rel => exact ⟨j + 1, rfl, by go_num, by omega, HN9, (by first | rfl | trivial)⟩
                    case measure => simp [intOf]; omega
                  case pos =>
                    have hs1' : decide (z.seq ≤ q) = true := decide_eq_true hs1
                    have HS1 := Lib.hid hs1'
                    by_cases hif : i = fr
                    · have HIF := Lib.hid hif
                      have k2 : ((i : Int) == (fr : Int)) = true := by rw [beq_iff_eq]; omega
                      clear hif
                      have HA : Hid (askB qs (prG l fr i) z.seq = true) := Lib.hid (ask_yes HQJ.out (by rw [HS1.out]; unfold prG; rw [if_pos HIF.out]; rfl))
                      have HG9 : Hid (G = (st ++ [z]) ++ stG qs (prG l fr (i + 1)) ((l.drop (i + 1)).take (t - (i + 1)))) := Lib.hid (by rw [HG.out, stG_at qs HZ.out hfi hit, if_pos HA.out]; simp)
                      have hs4 := B4.out.size
                      clear HA HG HQJ HN
                      go_wp2_with (at_builtin; refine wpList_app styE (.tmp 77) (.tmp 82) rfl rfl w3.heap.size (OS.out.alloc _) rfl 1 1 (rd_frC _ _ _ _) rfl rfl (by simp [Value.oneCell']) (by unfold maxLen; omega) (by omega) (by rw [World.size_alloc]; omega) ?_; intro v5 w5 own5 gr5 nil5 at5; obtain ⟨A6, c6, rfl, -, -⟩ := own_sl own5)
                      have B9 := Lib.hid ((B4.out.alloc hs4 _).grown gr5 (by rw [World.size_alloc]; omega) (fun g e => (OS.out.lt g e).1))
                      have O9 : Hid (w5.ownsRow w3.heap.size 43 4 (.slice A6 (st ++ [z]).length c6) (st ++ [z]).length (env (st ++ [z]))) := Lib.hid (by
                        have h := own_eq own5 (m := (st ++ [z]).length) (ys := env (st ++ [z])) (by simp) (by rw [env_app]; rfl)
                        rw [List.length_append] at h ⊢
                        exact h)
                      clear own5 gr5 nil5 at5
                      go_roundw
                      case rel => exact ⟨A6, c6, st ++ [z], i + 1, by rw [List.length_append]; rfl, by go_num, by omega, by omega, by rw [List.length_append]; simp only [List.length_cons, List.length_nil]; omega, O9, HG9, B9⟩
                      case measure => simp [intOf]; omega
                    · have HIF := Lib.hid hif
                      have k2 : ((i : Int) == (fr : Int)) = false := by rw [beq_eq_false_iff_ne]; omega
                      obtain ⟨i', hi'⟩ : ∃ i', i' = i - 1 := ⟨_, rfl⟩
                      obtain ⟨y, hy⟩ : ∃ y, l[i']? = some y := ⟨_, List.getElem?_eq_getElem (by rw [HL.out]; omega)⟩
                      obtain ⟨b5, off5, e5, hb5, hce5⟩ := en_at R4.out hy
                      injection e5 with e5
                      injection e5 with e6 e7
                      subst e6 e7
                      have y2 := hce5.c2
                      have j2 : (i : Int) - 1 = (i' : Int) := by omega
                      have j3 : (i' : Int) < (n : Int) := by omega
                      have j4 : IntKind.i64.wrap (i' : Int) = (i' : Int) := IntWalk.i64_in _ (by omega)
                      have j6 : (0 : Int) ≤ (i' : Int) := by omega
                      have HPR : Hid (prG l fr i = some y.seq) := Lib.hid (by unfold prG; rw [if_neg HIF.out, ← hi', hy]; rfl)
                      clear hif hce5 hy hi'
                      by_cases hs2 : q < y.seq
                      · have HS2 := Lib.hid hs2
                        have hs2' : decide (q < y.seq) = true := decide_eq_true hs2
                        have HA : Hid (askB qs (prG l fr i) z.seq = true) := Lib.hid (ask_yes HQJ.out (by rw [HS1.out, HPR.out]; exact decide_eq_true HS2.out))
                        have HG9 : Hid (G = (st ++ [z]) ++ stG qs (prG l fr (i + 1)) ((l.drop (i + 1)).take (t - (i + 1)))) := Lib.hid (by rw [HG.out, stG_at qs HZ.out hfi hit, if_pos HA.out]; simp)
                        have hs4 := B4.out.size
                        clear HA HG HQJ HN
                        go_wp2_with (at_builtin; refine wpList_app styE (.tmp 77) (.tmp 82) rfl rfl w3.heap.size (OS.out.alloc _) rfl 1 1 (rd_frC _ _ _ _) rfl rfl (by simp [Value.oneCell']) (by unfold maxLen; omega) (by omega) (by rw [World.size_alloc]; omega) ?_; intro v5 w5 own5 gr5 nil5 at5; obtain ⟨A6, c6, rfl, -, -⟩ := own_sl own5)
                        have B9 := Lib.hid ((B4.out.alloc hs4 _).grown gr5 (by rw [World.size_alloc]; omega) (fun g e => (OS.out.lt g e).1))
                        have O9 : Hid (w5.ownsRow w3.heap.size 43 4 (.slice A6 (st ++ [z]).length c6) (st ++ [z]).length (env (st ++ [z]))) := Lib.hid (by
                          have h := own_eq own5 (m := (st ++ [z]).length) (ys := env (st ++ [z])) (by simp) (by rw [env_app]; rfl)
                          rw [List.length_append] at h ⊢
                          exact h)
                        clear own5 gr5 nil5 at5
                        go_roundw
                        case rel => exact ⟨A6, c6, st ++ [z], i + 1, by rw [List.length_append]; rfl, by go_num, by omega, by omega, by rw [List.length_append]; simp only [List.length_cons, List.length_nil]; omega, O9, HG9, B9⟩
                        case measure => simp [intOf]; omega
                      · have HS2 := Lib.hid hs2
                        have hs2' : decide (q < y.seq) = false := decide_eq_false hs2
                        have HN9 : Hid (∀ (m : Nat) (q' : Int), m < j + 1 → qs[m]? = some q' → (decide (z.seq ≤ q') && prB (prG l fr i) q') = false) := Lib.hid (fun m q' hm hq' => by
                          rcases Nat.lt_or_ge m j with h | h
                          · exact HN.out m q' h hq'
                          · have e : m = j := by omega
                            subst e
                            rw [HQJ.out] at hq'
                            injection hq' with hq'
                            rw [← hq']
                            rw [HS1.out, HPR.out]; exact decide_eq_false HS2.out)
                        go_wp2_with fail
                        go_roundw
                        case rel => exact ⟨j + 1, rfl, by go_num, by omega, HN9, (by first | rfl | trivial)⟩
                        case measure => simp [intOf]; omega
                · have k1 : ¬ (j : Int) < 1 + (nk : Int) := by omega
                  have HA : Hid (askB qs (prG l fr i) z.seq = false) := Lib.hid (ask_no (fun m q hq => HN.out m q (by have := (List.getElem?_eq_some_iff.1 hq).1; have := HQL.out; omega) hq))
                  have HG9 : Hid (G = st ++ stG qs (prG l fr (i + 1)) ((l.drop (i + 1)).take (t - (i + 1)))) := Lib.hid (by rw [HG.out, stG_at qs HZ.out hfi hit, HA.out]; rfl)
                  clear HA HG HN
                  go_wp2_with fail
                  go_roundw
                  case rel => exact ⟨A11, c11, st, i + 1, rfl, by go_num, by omega, by omega, by omega, OS, HG9, B4⟩
                  case measure => simp [intOf]; omega
            · have i1 : ¬ (i : Int) < (t : Int) := by omega
              have HGS : Hid (G = st) := Lib.hid (by rw [HG.out, show t - i = 0 by omega]; simp [stG])
              have hcap : st.length ≤ c11 := by obtain ⟨A', c', e, h1, -⟩ := own_sl OS.out; injection e with _ _ e3; omega
              have RS : Hid (Rd w4 w4.heap.size A11 (env st)) := Lib.hid (by obtain ⟨A', c', e, -, h⟩ := own_sl OS.out; injection e with e1; rw [e1]; exact h)
              have OO := Lib.hid (own_keep O3.out B4.out (Nat.le_refl _))
              clear HG hit OS B4
              go_wp2_with fail
              go_loopw [11, 15] (fun s11 s15 wr => ∃ k : Nat, s11 = .slice A11 k c11 ∧ s15 = .int .i64 (k : Int) ∧ k ≤ st.length ∧ Hid (trI last st = trI last (st.take k)) ∧ (last = false → k = st.length) ∧ wr = w4) (fun _ s15 _ => (intOf s15).toNat)
              case atStart => exact ⟨st.length, rfl, rfl, Nat.le_refl _, Lib.hid (by rw [List.take_length]), fun _ => rfl, rfl⟩
              case round =>
                obtain ⟨k, rfl, rfl, hk, HTR, hlf, rfl⟩ := hrel
                obtain ⟨w4, rfl⟩ : ∃ x, x = wr := ⟨_, rfl⟩
                cases last
                · have HKL := Lib.hid (hlf rfl)
                  clear hlf
                  have HGT : Hid (trI false G = st.take k) := Lib.hid (by rw [HGS.out, HKL.out, List.take_length]; rfl)
                  have HQ9 : Hid (E = (out ++ st.take k) ++ foldR qs false (l.drop t)) := Lib.hid (by rw [HQ.out, HGR.out, HGT.out, List.append_assoc])
                  have RT : Hid (Rd w4 w4.heap.size (A11) (env (st.take k))) := Lib.hid (by rw [env_take]; exact (RS.out).take _)
                  have hlk : (st.take k).length = k := by rw [List.length_take]; omega
                  have hek : (env (st.take k)).length = k * 4 := by rw [env_len, hlk]
                  have hs4 : w1.heap.size ≤ w4.heap.size := BW.out.size
                  clear HQ HGR HGT HTR
                  go_wp2_with (at_builtin; refine wpList_app styE (.tmp 106) (.tmp 107) rfl rfl w1.heap.size OO.out rfl k c11 RT.out rfl hek (env_one _) (by unfold maxLen; omega) (by omega) hs4 ?_; intro v5 w5 own5 gr5 nil5 at5; obtain ⟨A6, c6, rfl, -, -⟩ := own_sl own5)
                  have B9 := Lib.hid (BW.out.grown gr5 hs4 (fun g e => (OO.out.lt g e).1))
                  have hel : out.length + k = (out ++ st.take k).length := by rw [List.length_append, hlk]
                  have O9 : Hid (w5.ownsRow w1.heap.size 43 4 (.slice A6 (out ++ st.take k).length c6) (out ++ st.take k).length (env (out ++ st.take k))) := Lib.hid (by
                    have h := own_eq own5 (m := (out ++ st.take k).length) (ys := env (out ++ st.take k)) hel (by rw [env_app])
                    rw [hel] at h
                    exact h)
                  clear own5 gr5 nil5 at5
                  go_roundw
                  case rel => exact ⟨A6, c6, out ++ st.take k, t, by rw [← hel], rfl, htn, by rw [← hel]; omega, O9, HQ9, B9⟩
                  case measure => simp [intOf]; omega
                · clear hlf
                  by_cases hk0 : 0 < k
                  · obtain ⟨k', hk'⟩ : ∃ k', k' = k - 1 := ⟨_, rfl⟩
                    obtain ⟨y, hy⟩ : ∃ y, st[k']? = some y := ⟨_, List.getElem?_eq_getElem (by omega)⟩
                    have HTS : Hid (st.take k = st.take k' ++ [y]) := Lib.hid (by rw [← take_snoc' hy]; congr 1; omega)
                    obtain ⟨b5, off5, e5, hb5, hce5⟩ := en_at RS.out hy
                    have y3 := hce5.c3
                    have m1 : (0 : Int) < (k : Int) := by omega
                    have j2 : (k : Int) - 1 = (k' : Int) := by omega
                    have j3 : (k' : Int) < (k : Int) := by omega
                    have j4 : IntKind.i64.wrap (k' : Int) = (k' : Int) := IntWalk.i64_in _ (by omega)
                    have j6 : (0 : Int) ≤ (k' : Int) := by omega
                    clear hce5 hy hk'
                    cases hyd : y.del
                    · rw [hyd] at y3
                      have HYD := Lib.hid hyd
                      clear hyd
                      subst e5
                      have HGT : Hid (trI true G = st.take k) := Lib.hid (by rw [HGS.out, HTR.out, HTS.out]; exact trm_keep HYD.out)
                      have HQ9 : Hid (E = (out ++ st.take k) ++ foldR qs true (l.drop t)) := Lib.hid (by rw [HQ.out, HGR.out, HGT.out, List.append_assoc])
                      have RT : Hid (Rd w4 w4.heap.size (some ⟨b5, off5, none⟩) (env (st.take k))) := Lib.hid (by rw [env_take]; exact (RS.out).take _)
                      have hlk : (st.take k).length = k := by rw [List.length_take]; omega
                      have hek : (env (st.take k)).length = k * 4 := by rw [env_len, hlk]
                      have hs4 : w1.heap.size ≤ w4.heap.size := BW.out.size
                      clear HQ HGR HGT HTR
                      go_wp2_with (at_builtin; refine wpList_app styE (.tmp 106) (.tmp 107) rfl rfl w1.heap.size OO.out rfl k c11 RT.out rfl hek (env_one _) (by unfold maxLen; omega) (by omega) hs4 ?_; intro v5 w5 own5 gr5 nil5 at5; obtain ⟨A6, c6, rfl, -, -⟩ := own_sl own5)
                      have B9 := Lib.hid (BW.out.grown gr5 hs4 (fun g e => (OO.out.lt g e).1))
                      have hel : out.length + k = (out ++ st.take k).length := by rw [List.length_append, hlk]
                      have O9 : Hid (w5.ownsRow w1.heap.size 43 4 (.slice A6 (out ++ st.take k).length c6) (out ++ st.take k).length (env (out ++ st.take k))) := Lib.hid (by
                        have h := own_eq own5 (m := (out ++ st.take k).length) (ys := env (out ++ st.take k)) hel (by rw [env_app])
                        rw [hel] at h
                        exact h)
                      clear own5 gr5 nil5 at5
                      go_roundw
                      case rel => exact ⟨A6, c6, out ++ st.take k, t, by rw [← hel], rfl, htn, by rw [← hel]; omega, O9, HQ9, B9⟩
                      case measure => simp [intOf]; omega
                    · rw [hyd] at y3
                      have HTR9 : Hid (trI true st = trI true (st.take k')) := Lib.hid (by rw [HTR.out, HTS.out]; exact trm_cut hyd)
                      clear hyd HTR
                      have j7 : (k' : Int) ≤ (c11 : Int) := by omega
                      subst e5
                      go_wp2_with fail
                      go_roundw
                      case rel => exact ⟨k', rfl, rfl, by omega, HTR9, (fun h => by cases h), (by first | rfl | trivial)⟩
                      case measure => simp [intOf]; omega
                  · have m1 : ¬ (0 : Int) < (k : Int) := by omega
                    have HGT : Hid (trI true G = st.take k) := Lib.hid (by rw [HGS.out, HTR.out, show k = 0 by omega]; rfl)
                    have HQ9 : Hid (E = (out ++ st.take k) ++ foldR qs true (l.drop t)) := Lib.hid (by rw [HQ.out, HGR.out, HGT.out, List.append_assoc])
                    have RT : Hid (Rd w4 w4.heap.size (A11) (env (st.take k))) := Lib.hid (by rw [env_take]; exact (RS.out).take _)
                    have hlk : (st.take k).length = k := by rw [List.length_take]; omega
                    have hek : (env (st.take k)).length = k * 4 := by rw [env_len, hlk]
                    have hs4 : w1.heap.size ≤ w4.heap.size := BW.out.size
                    clear HQ HGR HGT HTR
                    go_wp2_with (at_builtin; refine wpList_app styE (.tmp 106) (.tmp 107) rfl rfl w1.heap.size OO.out rfl k c11 RT.out rfl hek (env_one _) (by unfold maxLen; omega) (by omega) hs4 ?_; intro v5 w5 own5 gr5 nil5 at5; obtain ⟨A6, c6, rfl, -, -⟩ := own_sl own5)
                    have B9 := Lib.hid (BW.out.grown gr5 hs4 (fun g e => (OO.out.lt g e).1))
                    have hel : out.length + k = (out ++ st.take k).length := by rw [List.length_append, hlk]
                    have O9 : Hid (w5.ownsRow w1.heap.size 43 4 (.slice A6 (out ++ st.take k).length c6) (out ++ st.take k).length (env (out ++ st.take k))) := Lib.hid (by
                      have h := own_eq own5 (m := (out ++ st.take k).length) (ys := env (out ++ st.take k)) hel (by rw [env_app])
                      rw [hel] at h
                      exact h)
                    clear own5 gr5 nil5 at5
                    go_roundw
                    case rel => exact ⟨A6, c6, out ++ st.take k, t, by rw [← hel], rfl, htn, by rw [← hel]; omega, O9, HQ9, B9⟩
                    case measure => simp [intOf]; omega
    · have i3 : ¬ (fr : Int) < (n : Int) := by omega
      have SEQ : Hid (E = out) := Lib.hid (by rw [HQ.out, List.drop_eq_nil_of_le (by rw [HL.out]; omega), foldR_nil, List.append_nil])
      clear hlt HQ
      go_wp2_with fail
      go_ret
      exact ⟨_, rfl, by rw [SEQ.out]; exact own_base HO.out hz1, B1.out.trans (B2.out.mono hz1)⟩
end Go.Proofs.Ytmcpjpkidcbgiaa
