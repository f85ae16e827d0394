/- Walk: folding loses nothing that somebody may still ask for. -/
import Derived.Test.YtmcpjpkidcbgiaaEs
import Derived.Test.YtmcpjpkidcbgiaaGc
import Derived.Test.YtmcpjpkidcbgiaaGb
import Derived.Test.YtmcpjpkidcbgiaaOin
namespace Go.Proofs.Ytmcpjpkidcbgiaa
open Go.RowKit Go.St Go.Maps
set_option linter.unusedVariables false
set_option linter.unusedSimpArgs false
set_option maxRecDepth 100000

theorem putE_len (l : List Ent) : (putE l).length ≤ l.length := List.length_filter_le _ _
theorem putE_snoc (l : List Ent) (x : Ent) : putE (l ++ [x]) = if x.del = true then putE l else putE l ++ [x] := by
  unfold putE
  rw [List.filter_append]
  cases hx : x.del
  · rw [if_neg (by decide), List.filter_cons_of_pos (by rw [hx]; rfl)]
    rfl
  · rw [if_pos rfl, List.filter_cons_of_neg (by rw [hx]; decide)]
    simp
set_option maxHeartbeats 1600000 in
theorem puts_any (A : Option Addr) (n c : Nat) (l : List Ent) (hl : l.length = n) (hn : n ≤ 1000000) (B : Nat) (w : World) (hr : Rd w B A (env l)) (hB : B ≤ w.heap.size) :
    Calls Try.prog 30 #[.slice A n c] w fun e w' => ∃ v, e = .returned v ∧ w'.ownsRow w.heap.size 43 4 v (putE l).length (env (putE l)) ∧ Below w.heap.size w w' := by
  have HL := Lib.hid hl
  have HR := Lib.hid hr
  clear hl hr
  go_enter Try.func30, Try.ntmps30
  go_wp2_with fail
  go_loopw [3, 4] (fun s3 s4 wr => ∃ (A3 : Option Addr) (c3 : Nat) (i : Nat), s3 = .slice A3 (putE (l.take i)).length c3 ∧ s4 = .int .i64 (i : Int) ∧ i ≤ n ∧ Hid (wr.ownsRow w.heap.size 43 4 (.slice A3 (putE (l.take i)).length c3) (putE (l.take i)).length (env (putE (l.take i)))) ∧ Hid (Below w.heap.size w wr)) (fun _ s4 _ => n - (intOf s4).toNat)
  case atStart => exact ⟨none, 0, 0, rfl, rfl, Nat.zero_le _, Lib.hid (World.ownsRow_nil _ _ _ _), Lib.hid (Below.refl _ _)⟩
  case round =>
    obtain ⟨A3, c3, i, rfl, rfl, hi, OW, B2⟩ := hrel
    obtain ⟨w2, rfl⟩ : ∃ x, x = wr := ⟨_, rfl⟩
    have hpl : (putE (l.take i)).length ≤ i := Nat.le_trans (putE_len _) (by rw [List.length_take]; omega)
    by_cases hlt : i < n
    · obtain ⟨x, hx⟩ : ∃ x, l[i]? = some x := ⟨_, List.getElem?_eq_getElem (by rw [HL.out]; exact hlt)⟩
      obtain ⟨b, off, rfl, hb, hce⟩ := en_at HR.out hx
      obtain ⟨d0, d1, d2, d3⟩ := hce.below (Nat.lt_of_lt_of_le hb hB) B2.out
      have HPS := Lib.hid (show putE (l.take (i + 1)) = if x.del = true then putE (l.take i) else putE (l.take i) ++ [x] by rw [List.take_add_one, hx]; exact putE_snoc _ _)
      obtain ⟨P, hP⟩ : ∃ P, P = putE (l.take i) := ⟨_, rfl⟩
      obtain ⟨P', hP'⟩ : ∃ P', P' = putE (l.take (i + 1)) := ⟨_, rfl⟩
      have HP' := Lib.hid hP'
      rw [← hP] at OW HPS hpl ⊢
      rw [← hP'] at HPS
      clear hP hP'
      have i1 : (i : Int) < (n : Int) := by omega
      have i0 : (0 : Int) ≤ (i : Int) := by omega
      have z1 : b < w2.heap.size := by have := B2.out.size; omega
      have hs2 := B2.out.size
      clear hce hx
      cases hd : x.del
      · rw [hd] at HPS d3
        have HPE : Hid (P' = P ++ [x]) := Lib.hid HPS.out
        have HXD := Lib.hid hd
        clear HPS hd
        go_wp2_with (at_builtin; refine wpList_app styE (.tmp 17) (.tmp 22) rfl rfl w.heap.size (OW.out.alloc _) rfl 1 1 (rd_frC _ _ _ _) rfl rfl (by simp [Value.oneCell']) (by unfold maxLen; omega) (by omega) (by rw [World.size_alloc]; omega) ?_; intro v5 w5 own5 gr5 nil5 at5; obtain ⟨A6, c6, rfl, -, -⟩ := own_sl own5)
        have B9 := Lib.hid ((B2.out.alloc hs2 _).grown gr5 (by rw [World.size_alloc]; omega) (fun g e => (OW.out.lt g e).1))
        have hel : P.length + 1 = P'.length := by rw [HPE.out]; simp
        have O9 : Hid (w5.ownsRow w.heap.size 43 4 (.slice A6 P'.length c6) P'.length (env P')) := Lib.hid (by
          have h := own_eq own5 (m := P'.length) (ys := env P') hel (by rw [HPE.out, env_app]; simp only [env, List.map_cons, List.map_nil, List.flatten_cons, List.flatten_nil, List.append_nil, Ent.c]; rw [HXD.out])
          rw [hel] at h
          exact h)
        clear own5 gr5 nil5 at5
        have HEL := Lib.hid hel
        clear hel
        rw [HP'.out] at O9 HEL
        go_roundw
        case rel => exact ⟨A6, c6, i + 1, by rw [HEL.out], by go_num, by omega, O9, B9⟩
        case measure => simp [intOf]; omega
      · rw [hd] at HPS d3
        have HPE : Hid (P' = P) := Lib.hid HPS.out
        clear HPS hd
        have O9 : Hid (w2.ownsRow w.heap.size 43 4 (.slice A3 P'.length c3) P'.length (env P')) := Lib.hid (by rw [HPE.out]; exact OW.out)
        have HEL : Hid (P.length = P'.length) := Lib.hid (by rw [HPE.out])
        rw [HP'.out] at O9 HEL
        go_wp2_with fail
        go_roundw
        case rel => exact ⟨A3, c3, i + 1, by rw [HEL.out], by go_num, by omega, O9, B2⟩
        case measure => simp [intOf]; omega
    · have i1 : ¬ (i : Int) < (n : Int) := by omega
      have HT : Hid (l.take i = l) := Lib.hid (List.take_of_length_le (by rw [HL.out]; omega))
      rw [HT.out] at OW ⊢
      clear hlt
      go_wp2_with fail
      go_ret
      exact ⟨_, rfl, OW.out, B2.out⟩

set_option maxHeartbeats 6400000 in
theorem blockFold_walk (w : World) (A : Option Addr) (n c : Nat) (l : List Ent) (hl : l.length = n) (hc : n ≤ c) (hn : c ≤ 140737488351232) (hr : Rd w w.heap.size A (env l)) (K : Option Addr) (nk ck : Nat) (ks : List Int) (hkl : ks.length = nk) (hkc : nk ≤ ck) (hkn : ck ≤ 140737488351232) (hrk : Rd w w.heap.size K (nv ks)) (fr to_ : ByteArray) (last : Bool) :
    Calls Try.prog 6 #[.slice A n c, .slice K nk ck, .agg #[.string fr, .string to_], .bool last] w fun e w' => e = .returned (.bool true) ∧ Below w.heap.size w w' := by
  obtain ⟨p, hp⟩ : ∃ p, p = w.heap.size := ⟨_, rfl⟩
  have HP := Lib.hid hp
  have HL := Lib.hid hl
  have KL := Lib.hid hkl
  have HR := Lib.hid hr
  have HK := Lib.hid hrk
  clear hr hl hkl hrk
  go_enter Try.func6, Try.ntmps6
  go_wp2_with fail
  have X1 : Hid (BxV (w.alloc (.cells #[.string fr, .string to_] 47)) w.heap.size [.string fr, .string to_]) := Lib.hid (BxV.new w _ _)
  have B1 : Hid (Below w.heap.size w (w.alloc (.cells #[.string fr, .string to_] 47))) := Lib.hid ((Below.refl _ _).alloc (Nat.le_refl _) _)
  generalize w.alloc (.cells #[.string fr, .string to_] 47) = w1 at *
  rw [← hp]
  rw [← hp] at HR HK B1 X1
  clear hp
  have R1 := Lib.hid (HR.out.below B1.out)
  have S1 := Lib.hid (HK.out.below B1.out)
  have z1 : p ≤ w1.heap.size := by have := B1.out.size; have := HP.out; omega
  clear HR HK
  refine (lives07_any w1).mono ?_
  rintro e w2 ⟨rfl, hb⟩
  have B2 := Lib.hid (B1.out.trans (hb.mono z1))
  have R2 := Lib.hid (R1.out.below (hb.mono z1))
  have S2 := Lib.hid (S1.out.below (hb.mono z1))
  have X2 := Lib.hid (X1.out.next hb)
  have z2 : p ≤ w2.heap.size := Nat.le_trans z1 hb.size
  clear B1 R1 S1 X1
  clear hb
  go_wp2_with fail
  refine (small7_any A n c l HL.out (by omega) p w2 R2.out z2).mono ?_
  rintro e w3 ⟨rfl, hb⟩
  have B3 := Lib.hid (B2.out.trans (hb.mono z2))
  have R3 := Lib.hid (R2.out.below (hb.mono z2))
  have S3 := Lib.hid (S2.out.below (hb.mono z2))
  have X3 := Lib.hid (X2.out.next hb)
  have z3 : p ≤ w3.heap.size := Nat.le_trans z2 hb.size
  clear B2 R2 S2 X2
  clear hb
  cases hsm : smallE l
  · go_wp2_with fail
    go_ret
    exact ⟨rfl, by rw [← HP.out]; exact B3.out⟩
  have hn70 : n ≤ 70 := by have := (smallE_b hsm).1; rwa [HL.out] at this
  clear hsm
  by_cases hk70 : 70 < nk
  · have i8 : (70 : Int) < (nk : Int) := by omega
    go_wp2_with fail
    go_ret
    exact ⟨rfl, by rw [← HP.out]; exact B3.out⟩
  have i8 : ¬ (70 : Int) < (nk : Int) := by omega
  go_wp2_with fail
  refine (rinOrder_any A n c l HL.out (by omega) p w3 R3.out z3).mono ?_
  rintro e w4 ⟨rfl, hb⟩
  have B4 := Lib.hid (B3.out.trans (hb.mono z3))
  have R4 := Lib.hid (R3.out.below (hb.mono z3))
  have S4 := Lib.hid (S3.out.below (hb.mono z3))
  have X4 := Lib.hid (X3.out.next hb)
  have z4 : p ≤ w4.heap.size := Nat.le_trans z3 hb.size
  clear B3 R3 S3 X3
  clear hb
  cases hri : risE l
  · go_wp2_with fail
    go_ret
    exact ⟨rfl, by rw [← HP.out]; exact B4.out⟩
  have HRI := Lib.hid hri
  have HFV := Lib.hid (fun q hq => fold_vis hri ks last q hq fr to_)
  have HFS := Lib.hid (fold_sub l ks last)
  have HFA := Lib.hid (fun W h1 h2 h3 => fold_any A n c l HL.out (by omega) K nk ck ks KL.out (by omega) last p W h1 h2 h3)
  have hfl := fold_len l ks last
  rw [HL.out] at hfl
  obtain ⟨M, hM⟩ : ∃ M, M = foldE l ks last := ⟨_, rfl⟩
  rw [← hM] at HFV HFS HFA hfl
  clear hri i8 hM
  go_wp2_with fail
  go_loopw [9] (fun s9 wr => ∃ i : Nat, s9 = .int .i64 (i : Int) ∧ i ≤ n ∧ wr = w4) (fun s9 _ => n - (intOf s9).toNat)
  case atStart => exact ⟨0, rfl, Nat.zero_le _, rfl⟩
  case round =>
    obtain ⟨i, rfl, hi, rfl⟩ := hrel
    obtain ⟨w4, rfl⟩ : ∃ x, x = wr := ⟨_, rfl⟩
    by_cases hlt : i < n
    · obtain ⟨x, hx⟩ : ∃ x, l[i]? = some x := ⟨_, List.getElem?_eq_getElem (by rw [HL.out]; exact hlt)⟩
      obtain ⟨b, off, rfl, hb, hce⟩ := en_at R4.out hx
      have d2 := hce.c2
      have i1 : (i : Int) < (n : Int) := by omega
      have i0 : (0 : Int) ≤ (i : Int) := by omega
      have zb : b < w4.heap.size := by omega
      clear hce hx
      by_cases hq : 1073741824 < x.seq
      · go_wp2_with fail
        go_ret
        exact ⟨rfl, by rw [← HP.out]; exact B4.out⟩
      · go_wp2_with fail
        go_roundw
        case rel => exact ⟨i + 1, by go_num, by omega, (by first | rfl | trivial)⟩
        case measure => simp [intOf]; omega
    · have i1 : ¬ (i : Int) < (n : Int) := by omega
      clear hlt
      go_wp2_with fail
      refine (HFA.out w4 R4.out S4.out z4).mono ?_
      rintro e w5 ⟨v5, rfl, own5, hb⟩
      obtain ⟨Af, cf, rfl, hcf, -⟩ := own_sl own5
      have OF5 := Lib.hid own5
      have B5 := Lib.hid (B4.out.trans (hb.mono z4))
      have R5 := Lib.hid (R4.out.below (hb.mono z4))
      have S5 := Lib.hid (S4.out.below (hb.mono z4))
      have X5 := Lib.hid (X4.out.next hb)
      have z5 : p ≤ w5.heap.size := Nat.le_trans z4 hb.size
      clear B4 R4 S4 X4
      clear hb own5 HFA
      go_wp2_with fail
      go_loopw [11, 12] (fun s11 s12 wr => ∃ k i : Nat, s11 = .int .i64 (k : Int) ∧ s12 = .int .i64 (i : Int) ∧ k ≤ n ∧ i ≤ M.length ∧ Hid ((M.drop i).Sublist (l.drop k)) ∧ Hid (Below w5.heap.size w5 wr)) (fun _ s12 _ => M.length - (intOf s12).toNat)
      case atStart => exact ⟨0, 0, rfl, rfl, Nat.zero_le _, Nat.zero_le _, Lib.hid HFS.out, Lib.hid (Below.refl _ _)⟩
      case round =>
        clear HFS
        obtain ⟨k0, i, rfl, rfl, hk0, hi2, HS0, B56⟩ := hrel
        obtain ⟨w6, rfl⟩ : ∃ x, x = wr := ⟨_, rfl⟩
        by_cases hit : i < M.length
        · obtain ⟨y, hy⟩ : ∃ y, M[i]? = some y := ⟨_, List.getElem?_eq_getElem hit⟩
          obtain ⟨bf, offf, rfl, hbf, hcef⟩ := en_at (own_rdL OF5.out) hy
          have HCF := Lib.hid hcef
          have HY := Lib.hid hy
          have j1 : (i : Int) < (M.length : Int) := by omega
          have j0 : (0 : Int) ≤ (i : Int) := by omega
          clear hcef hy
          go_wp2_with fail
          go_loopw [11] (fun s11 wr => ∃ k : Nat, s11 = .int .i64 (k : Int) ∧ k ≤ n ∧ Hid ((M.drop i).Sublist (l.drop k)) ∧ Hid (Below w5.heap.size w5 wr)) (fun s11 _ => n - (intOf s11).toNat)
          case atStart => exact ⟨k0, rfl, hk0, HS0, B56⟩
          case round =>
            clear HS0 B56
            obtain ⟨k, rfl, hk, HS, B57⟩ := hrel
            obtain ⟨w7, rfl⟩ : ∃ x, x = wr := ⟨_, rfl⟩
            have hkn2 : k < n := by
              rcases Nat.lt_or_ge k n with h | h
              · exact h
              · have := sub_end HS.out (by rw [HL.out]; exact h)
                omega
            obtain ⟨x, hx⟩ : ∃ x, l[k]? = some x := ⟨_, List.getElem?_eq_getElem (by rw [HL.out]; exact hkn2)⟩
            obtain ⟨b, off, rfl, hb, hce⟩ := en_at (R5.out.below (B57.out.mono z5)) hx
            obtain ⟨d0, d1, d2, d3⟩ := hce
            obtain ⟨f0, f1, f2, f3⟩ := HCF.out.below hbf B57.out
            have HX := Lib.hid hx
            have i3 : (k : Int) < (n : Int) := by omega
            have i4 : (0 : Int) ≤ (k : Int) := by omega
            have i5 : decide ((k : Int) < (n : Int)) = true := decide_eq_true i3
            have i6 : decide (k < n) = true := decide_eq_true hkn2
            have z7 := B57.out.size
            have zb1 : b < w7.heap.size := by omega
            have zb2 : bf < w7.heap.size := by omega
            clear hx
            by_cases hxy : x = y
            · subst hxy
              have HS9 : Hid ((M.drop (i + 1)).Sublist (l.drop (k + 1))) := Lib.hid (sub_hit HS.out HY.out HX.out)
              have i7 : ((k : Int) == (n : Int)) = false := by rw [beq_eq_false_iff_ne]; omega
              clear HS
              go_wp2_with fail
              refine wp_qall (by kernel_rfl) (by kernel_rfl) ?_
              intro hcg
              repeat (first | go_big_quiet_step (fail) | quiet_step (fail))
              refine wpQuiet_nil ?_
              intro wq hbwq hcwq hfwq
              clear hcg
              have B9 := Lib.hid (B57.out.trans (hbwq.mono B57.out.size))
              clear hbwq hcwq hfwq
              go_wp2_with fail
              go_roundw
              case rel => exact ⟨k + 1, i + 1, by go_num, by go_num, by omega, by omega, HS9, B9⟩
              case measure => simp [intOf]; omega
            · have HSM : Hid ((M.drop i).Sublist (l.drop (k + 1))) := Lib.hid (sub_miss HS.out HY.out HX.out hxy)
              have hne := ent_ne hxy
              clear hxy HS HX HY HCF
              obtain ⟨x1, x2, x3, x4⟩ := x
              obtain ⟨y1, y2, y3, y4⟩ := y
              dsimp only at d0 d1 d2 d3 f0 f1 f2 f3 hne
              have e1 : (x1.toList == y1.toList) = decide (x1 = y1) := str_eqB _ _
              have e2 : (x2.toList == y2.toList) = decide (x2 = y2) := str_eqB _ _
              have e3 : (x3 == y3) = decide (x3 = y3) := by simp [BEq.beq]
              have e4 : (x4 == y4) = decide (x4 = y4) := by cases x4 <;> cases y4 <;> rfl
              have hall : ((x1.toList == y1.toList) && ((x2.toList == y2.toList) && ((x3 == y3) && (x4 == y4)))) = false := by
                rw [e1, e2, e3, e4]
                simpa using hne
              have HNE := Lib.hid hall
              clear hne e1 e2 e3 e4 hall
              by_cases q1 : (x1.toList == y1.toList) = true
              · by_cases q2 : (x2.toList == y2.toList) = true
                · by_cases q3 : (x3 == y3) = true
                  · have q4 : (x4 == y4) = false := by have := HNE.out; rw [q1, q2, q3] at this; simpa using this
                    go_wp2_with fail
                    refine wp_qall (by kernel_rfl) (by kernel_rfl) ?_
                    intro hcg
                    repeat (first | go_big_quiet_step (fail) | quiet_step (fail))
                    refine wpQuiet_nil ?_
                    intro wq hbwq hcwq hfwq
                    clear hcg
                    have B9 := Lib.hid (B57.out.trans (hbwq.mono B57.out.size))
                    clear hbwq hcwq hfwq
                    go_wp2_with fail
                    go_roundw
                    case rel => exact ⟨k + 1, by go_num, by omega, HSM, B9⟩
                    case measure => simp [intOf]; omega
                  · have q3' : (x3 == y3) = false := by simpa using q3
                    clear q3
                    go_wp2_with fail
                    refine wp_qall (by kernel_rfl) (by kernel_rfl) ?_
                    intro hcg
                    repeat (first | go_big_quiet_step (fail) | quiet_step (fail))
                    refine wpQuiet_nil ?_
                    intro wq hbwq hcwq hfwq
                    clear hcg
                    have B9 := Lib.hid (B57.out.trans (hbwq.mono B57.out.size))
                    clear hbwq hcwq hfwq
                    go_wp2_with fail
                    go_roundw
                    case rel => exact ⟨k + 1, by go_num, by omega, HSM, B9⟩
                    case measure => simp [intOf]; omega
                · have q2' : (x2.toList == y2.toList) = false := by simpa using q2
                  clear q2
                  go_wp2_with fail
                  refine wp_qall (by kernel_rfl) (by kernel_rfl) ?_
                  intro hcg
                  repeat (first | go_big_quiet_step (fail) | quiet_step (fail))
                  refine wpQuiet_nil ?_
                  intro wq hbwq hcwq hfwq
                  clear hcg
                  have B9 := Lib.hid (B57.out.trans (hbwq.mono B57.out.size))
                  clear hbwq hcwq hfwq
                  go_wp2_with fail
                  go_roundw
                  case rel => exact ⟨k + 1, by go_num, by omega, HSM, B9⟩
                  case measure => simp [intOf]; omega
              · have q1' : (x1.toList == y1.toList) = false := by simpa using q1
                clear q1
                go_wp2_with fail
                refine wp_qall (by kernel_rfl) (by kernel_rfl) ?_
                intro hcg
                repeat (first | go_big_quiet_step (fail) | quiet_step (fail))
                refine wpQuiet_nil ?_
                intro wq hbwq hcwq hfwq
                clear hcg
                have B9 := Lib.hid (B57.out.trans (hbwq.mono B57.out.size))
                clear hbwq hcwq hfwq
                go_wp2_with fail
                go_roundw
                case rel => exact ⟨k + 1, by go_num, by omega, HSM, B9⟩
                case measure => simp [intOf]; omega
        · have j1 : ¬ (i : Int) < (M.length : Int) := by omega
          have hb := B56.out
          have B6 := Lib.hid (B5.out.trans (hb.mono z5))
          have R6 := Lib.hid (R5.out.below (hb.mono z5))
          have S6 := Lib.hid (S5.out.below (hb.mono z5))
          have X6 := Lib.hid (X5.out.next hb)
          have z6 : p ≤ w6.heap.size := Nat.le_trans z5 hb.size
          clear B5 R5 S5 X5
          have OF6 := Lib.hid (own_keep OF5.out hb (Nat.le_refl _))
          clear OF5
          clear hb B56 HS0 hit
          go_wp2_with fail
          go_loopw [13] (fun s13 wr => ∃ i : Nat, s13 = .int .i64 (i : Int) ∧ i ≤ nk + 1 ∧ Hid (Below w6.heap.size w6 wr)) (fun s13 _ => nk + 1 - (intOf s13).toNat)
          case atStart => exact ⟨0, rfl, Nat.zero_le _, Lib.hid (Below.refl _ _)⟩
          case round =>
            clear j1
            obtain ⟨i, rfl, hi3, B68⟩ := hrel
            obtain ⟨w8, rfl⟩ : ∃ x, x = wr := ⟨_, rfl⟩
            have hb := B68.out
            have B8 := Lib.hid (B6.out.trans (hb.mono z6))
            have R8 := Lib.hid (R6.out.below (hb.mono z6))
            have S8 := Lib.hid (S6.out.below (hb.mono z6))
            have X8 := Lib.hid (X6.out.next hb)
            have z8 : p ≤ w8.heap.size := Nat.le_trans z6 hb.size
            have OF8 := Lib.hid (own_keep OF6.out hb (Nat.le_refl _))
            clear hb B6 R6 S6 X6 OF6
            by_cases hie : i ≤ nk
            · have i1 : (i : Int) ≤ (nk : Int) := by omega
              have i0 : (0 : Int) ≤ (i : Int) := by omega
              by_cases hilt : i < nk
              · have i2 : (i : Int) < (nk : Int) := by omega
                obtain ⟨q, hq⟩ : ∃ q, ks[i]? = some q := ⟨_, List.getElem?_eq_getElem (by rw [KL.out]; exact hilt)⟩
                obtain ⟨bq, oq, rfl, hbq, hcq⟩ := S8.out.at_ (nv_get hq)
                have HQ := Lib.hid hq
                have zbq : bq < w8.heap.size := by omega
                clear hq
                have HV1 := Lib.hid (fun W (h : Below w8.heap.size w8 W) => visible_any A n c l HL.out (by omega) fr to_ (q) w8.heap.size W (((R8.out.more z8).below h)) h.size)
                have HV2 := Lib.hid (fun W (h : Below w8.heap.size w8 W) => visible_any Af M.length cf M rfl (by omega) fr to_ (q) w8.heap.size W ((own_rdL OF8.out).below h) h.size)
                have HVV := Lib.hid (HFV.out (q) (List.mem_cons_of_mem _ (List.mem_of_getElem? HQ.out)))
                have HL1 := Lib.hid (visE_len fr to_ (q) l)
                have HL2 := Lib.hid (visE_len fr to_ (q) M)
                obtain ⟨V1, hV1⟩ : ∃ V, V = visE fr to_ (q) l := ⟨_, rfl⟩
                obtain ⟨V2, hV2⟩ : ∃ V, V = visE fr to_ (q) M := ⟨_, rfl⟩
                rw [← hV1] at HV1 HVV HL1
                rw [← hV2] at HV2 HVV HL2
                clear hV1 hV2
                go_wp2_with fail
                refine wp_heldall (S := fun W => Below w8.heap.size w8 W) 10 (by kernel_rfl) rfl (Below.drew (Below.refl _ _)) (fun hHeld => ?_)
                refine takeL (i := 0) (v := ?_) rfl (by kernel_rfl) (by kernel_rfl) (by kernel_rfl) (fun _ _ _ h => h) ⟨by rfl, ?_⟩ (by first | assumption | trivial) ?_
                rotate_left
                · intro W9 hSw
                  (try dsimp only at hSw)
                  go_simp
                  try with_reducible rfl
                (try simp only [Act.put, List.setIfInBounds_toArray, List.set_cons_zero, List.set_cons_succ])
                refine takeL (i := 1) (v := ?_) rfl (by kernel_rfl) (by kernel_rfl) (by kernel_rfl) (fun _ _ _ h => h) ⟨by rfl, ?_⟩ (by first | assumption | trivial) ?_
                rotate_left
                · intro W9 hSw
                  (try dsimp only at hSw)
                  (have x0 := (X8.out.next hSw).c 0 _ rfl; have x1 := (X8.out.next hSw).c 1 _ rfl; have xl := (X8.out.next hSw).lt)
                  go_simp
                  try with_reducible rfl
                (try simp only [Act.put, List.setIfInBounds_toArray, List.set_cons_zero, List.set_cons_succ])
                refine takeL (i := 2) (v := ?_) rfl (by kernel_rfl) (by kernel_rfl) (by kernel_rfl) (fun _ _ _ h => h) ⟨by rfl, ?_⟩ (by first | assumption | trivial) ?_
                rotate_left
                · intro W9 hSw
                  (try dsimp only at hSw)
                  go_simp
                  try with_reducible rfl
                (try simp only [Act.put, List.setIfInBounds_toArray, List.set_cons_zero, List.set_cons_succ])
                refine takeL (i := 4) (v := ?_) rfl (by kernel_rfl) (by kernel_rfl) (by kernel_rfl) (fun _ _ _ h => h) ⟨by rfl, ?_⟩ (by first | assumption | trivial) ?_
                rotate_left
                · intro W9 hSw
                  (try dsimp only at hSw)
                  go_simp
                  try with_reducible rfl
                (try simp only [Act.put, List.setIfInBounds_toArray, List.set_cons_zero, List.set_cons_succ])
                refine takeL (i := 5) (v := ?_) rfl (by kernel_rfl) (by kernel_rfl) (by kernel_rfl) (fun _ _ _ h => h) ⟨by rfl, ?_⟩ (by first | assumption | trivial) ?_
                rotate_left
                · intro W9 hSw
                  (try dsimp only at hSw)
                  (have x0 := (X8.out.next hSw).c 0 _ rfl; have x1 := (X8.out.next hSw).c 1 _ rfl; have xl := (X8.out.next hSw).lt)
                  go_simp
                  try with_reducible rfl
                (try simp only [Act.put, List.setIfInBounds_toArray, List.set_cons_zero, List.set_cons_succ])
                refine takeL (i := 6) (v := ?_) rfl (by kernel_rfl) (by kernel_rfl) (by kernel_rfl) (fun _ _ _ h => h) ⟨by rfl, ?_⟩ (by first | assumption | trivial) ?_
                rotate_left
                · intro W9 hSw
                  (try dsimp only at hSw)
                  go_simp
                  try with_reducible rfl
                (try simp only [Act.put, List.setIfInBounds_toArray, List.set_cons_zero, List.set_cons_succ])
                have SB := Lib.hid hHeld
                clear hHeld
                generalize w8.drew = Y at *
                refine wpAnyH_ready (rs := [3]) (by kernel_rfl) (by simp) ?_
                refine consL rfl (by rfl) (fun K hK => ?_) ?_
                · go_simp
                  refine (HV1.out Y SB.out).mono ?_
                  rintro e w9 ⟨v9, rfl, own9, hb⟩
                  have SB9' := SB.out.trans (hb.mono SB.out.size)
                  refine hK.out _ _ SB9' (fun _ => ?_)
                  clear hK K
                  obtain ⟨Aa, ca, rfl, hca, hra⟩ := own_sl own9
                  have RA9 := Lib.hid hra
                  have SB9 := Lib.hid SB9'
                  clear hra own9 hb SB SB9' HV1
                  (try simp only [Act.put, List.setIfInBounds_toArray, List.set_cons_zero, List.set_cons_succ])
                  refine wpAnyH_ready (rs := [7]) (by kernel_rfl) (by simp) ?_
                  refine consL rfl (by rfl) (fun K hK => ?_) ?_
                  · go_simp
                    refine (HV2.out w9 SB9.out).mono ?_
                    rintro e w10 ⟨v10, rfl, own10, hb⟩
                    have SB10' := SB9.out.trans (hb.mono SB9.out.size)
                    refine hK.out _ _ SB10' (fun _ => ?_)
                    clear hK K
                    obtain ⟨Ab, cb, rfl, hcb, hrb⟩ := own_sl own10
                    have RA10 := Lib.hid ((RA9.out.below hb).more hb.size)
                    have RB10 := Lib.hid hrb
                    have SB10 := Lib.hid SB10'
                    clear hrb own10 hb SB9 SB10' HV2 RA9
                    (try simp only [Act.put, List.setIfInBounds_toArray, List.set_cons_zero, List.set_cons_succ])
                    refine takeL (i := 8) (v := ?_) rfl (by kernel_rfl) (by kernel_rfl) (by kernel_rfl) (fun _ _ _ h => h) ⟨by rfl, ?_⟩ (by first | assumption | trivial) ?_
                    rotate_left
                    · intro W9 hSw
                      (try dsimp only at hSw)
                      go_simp
                      try with_reducible rfl
                    (try simp only [Act.put, List.setIfInBounds_toArray, List.set_cons_zero, List.set_cons_succ])
                    refine takeL (i := 9) (v := ?_) rfl (by kernel_rfl) (by kernel_rfl) (by kernel_rfl) (fun _ _ _ h => h) ⟨by rfl, ?_⟩ (by first | assumption | trivial) ?_
                    rotate_left
                    · intro W9 hSw
                      (try dsimp only at hSw)
                      go_simp
                      try with_reducible rfl
                    (try simp only [Act.put, List.setIfInBounds_toArray, List.set_cons_zero, List.set_cons_succ])
                    refine wpAnyH_done (by kernel_rfl) ?_ _
                    go_wp2_with fail
                    refine (puts_any Aa V1.length ca V1 rfl (by have := HL1.out; rw [HL.out] at this; omega) w10.heap.size w10 RA10.out (Nat.le_refl _)).mono ?_
                    rintro e w11 ⟨v11, rfl, own11, hb⟩
                    obtain ⟨Ac, cc, rfl, hcc, hrc⟩ := own_sl own11
                    have SB11 := Lib.hid (SB10.out.trans (hb.mono SB10.out.size))
                    have RC11 := Lib.hid hrc
                    have RA11 := Lib.hid ((RA10.out.below hb).more hb.size)
                    clear RA10
                    have RB11 := Lib.hid ((RB10.out.below hb).more hb.size)
                    clear RB10
                    clear hb own11 hrc SB10
                    go_wp2_with fail
                    refine (puts_any Ab V2.length cb V2 rfl (by have := HL2.out; omega) w11.heap.size w11 RB11.out (Nat.le_refl _)).mono ?_
                    rintro e w12 ⟨v12, rfl, own12, hb⟩
                    obtain ⟨Ad, cd, rfl, hcd, hrd⟩ := own_sl own12
                    have SB12 := Lib.hid (SB11.out.trans (hb.mono SB11.out.size))
                    have RD12 := Lib.hid hrd
                    have RA12 := Lib.hid ((RA11.out.below hb).more hb.size)
                    clear RA11
                    have RB12 := Lib.hid ((RB11.out.below hb).more hb.size)
                    clear RB11
                    have RC12 := Lib.hid ((RC11.out.below hb).more hb.size)
                    clear RC11
                    clear hb own12 hrd SB11
                    go_wp2_with fail
                    refine (sameE_any Ac Ad (putE V1).length (putE V2).length cc cd _ _ (putE V1) (putE V2) rfl rfl (by have := putE_len V1; have h2 := HL1.out; rw [HL.out] at h2; omega) w12 RC12.out (Nat.le_refl _) RD12.out (Nat.le_refl _)).mono ?_
                    rintro e w13 ⟨rfl, hb⟩
                    rw [decide_eq_true HVV.out.1]
                    have SB13 := Lib.hid (SB12.out.trans (hb.mono SB12.out.size))
                    have RA13 := Lib.hid ((RA12.out.below hb).more hb.size)
                    clear RA12
                    have RB13 := Lib.hid ((RB12.out.below hb).more hb.size)
                    clear RB12
                    clear hb RC12 RD12 SB12
                    cases last
                    · have HVE := Lib.hid (HVV.out.2 rfl)
                      go_wp2_with fail
                      refine (sameE_any Aa Ab V1.length V2.length ca cb _ _ V1 V2 rfl rfl (by have h2 := HL1.out; rw [HL.out] at h2; omega) w13 RA13.out (Nat.le_refl _) RB13.out (Nat.le_refl _)).mono ?_
                      rintro e w14 ⟨rfl, hb⟩
                      rw [decide_eq_true HVE.out]
                      have B9 := Lib.hid (B68.out.trans ((SB13.out.trans (hb.mono SB13.out.size)).mono B68.out.size))
                      clear hb SB13 RA13 RB13
                      go_wp2_with fail
                      go_roundw
                      case rel => exact ⟨i + 1, by go_num, by omega, B9⟩
                      case measure => simp [intOf]; omega
                    · have B9 := Lib.hid (B68.out.trans (SB13.out.mono B68.out.size))
                      clear SB13 RA13 RB13
                      go_wp2_with fail
                      go_roundw
                      case rel => exact ⟨i + 1, by go_num, by omega, B9⟩
                      case measure => simp [intOf]; omega
                  · exact AllReadyH.nil
                · exact AllReadyH.nil
              · have i2 : ¬ (i : Int) < (nk : Int) := by omega
                have HV1 := Lib.hid (fun W (h : Below w8.heap.size w8 W) => visible_any A n c l HL.out (by omega) fr to_ (1073741824) w8.heap.size W (((R8.out.more z8).below h)) h.size)
                have HV2 := Lib.hid (fun W (h : Below w8.heap.size w8 W) => visible_any Af M.length cf M rfl (by omega) fr to_ (1073741824) w8.heap.size W ((own_rdL OF8.out).below h) h.size)
                have HVV := Lib.hid (HFV.out (1073741824) (List.mem_cons_self ..))
                have HL1 := Lib.hid (visE_len fr to_ (1073741824) l)
                have HL2 := Lib.hid (visE_len fr to_ (1073741824) M)
                obtain ⟨V1, hV1⟩ : ∃ V, V = visE fr to_ (1073741824) l := ⟨_, rfl⟩
                obtain ⟨V2, hV2⟩ : ∃ V, V = visE fr to_ (1073741824) M := ⟨_, rfl⟩
                rw [← hV1] at HV1 HVV HL1
                rw [← hV2] at HV2 HVV HL2
                clear hV1 hV2
                go_wp2_with fail
                refine wp_heldall (S := fun W => Below w8.heap.size w8 W) 10 (by kernel_rfl) rfl (Below.drew (Below.refl _ _)) (fun hHeld => ?_)
                refine takeL (i := 0) (v := ?_) rfl (by kernel_rfl) (by kernel_rfl) (by kernel_rfl) (fun _ _ _ h => h) ⟨by rfl, ?_⟩ (by first | assumption | trivial) ?_
                rotate_left
                · intro W9 hSw
                  (try dsimp only at hSw)
                  go_simp
                  try with_reducible rfl
                (try simp only [Act.put, List.setIfInBounds_toArray, List.set_cons_zero, List.set_cons_succ])
                refine takeL (i := 1) (v := ?_) rfl (by kernel_rfl) (by kernel_rfl) (by kernel_rfl) (fun _ _ _ h => h) ⟨by rfl, ?_⟩ (by first | assumption | trivial) ?_
                rotate_left
                · intro W9 hSw
                  (try dsimp only at hSw)
                  (have x0 := (X8.out.next hSw).c 0 _ rfl; have x1 := (X8.out.next hSw).c 1 _ rfl; have xl := (X8.out.next hSw).lt)
                  go_simp
                  try with_reducible rfl
                (try simp only [Act.put, List.setIfInBounds_toArray, List.set_cons_zero, List.set_cons_succ])
                refine takeL (i := 2) (v := ?_) rfl (by kernel_rfl) (by kernel_rfl) (by kernel_rfl) (fun _ _ _ h => h) ⟨by rfl, ?_⟩ (by first | assumption | trivial) ?_
                rotate_left
                · intro W9 hSw
                  (try dsimp only at hSw)
                  go_simp
                  try with_reducible rfl
                (try simp only [Act.put, List.setIfInBounds_toArray, List.set_cons_zero, List.set_cons_succ])
                refine takeL (i := 4) (v := ?_) rfl (by kernel_rfl) (by kernel_rfl) (by kernel_rfl) (fun _ _ _ h => h) ⟨by rfl, ?_⟩ (by first | assumption | trivial) ?_
                rotate_left
                · intro W9 hSw
                  (try dsimp only at hSw)
                  go_simp
                  try with_reducible rfl
                (try simp only [Act.put, List.setIfInBounds_toArray, List.set_cons_zero, List.set_cons_succ])
                refine takeL (i := 5) (v := ?_) rfl (by kernel_rfl) (by kernel_rfl) (by kernel_rfl) (fun _ _ _ h => h) ⟨by rfl, ?_⟩ (by first | assumption | trivial) ?_
                rotate_left
                · intro W9 hSw
                  (try dsimp only at hSw)
                  (have x0 := (X8.out.next hSw).c 0 _ rfl; have x1 := (X8.out.next hSw).c 1 _ rfl; have xl := (X8.out.next hSw).lt)
                  go_simp
                  try with_reducible rfl
                (try simp only [Act.put, List.setIfInBounds_toArray, List.set_cons_zero, List.set_cons_succ])
                refine takeL (i := 6) (v := ?_) rfl (by kernel_rfl) (by kernel_rfl) (by kernel_rfl) (fun _ _ _ h => h) ⟨by rfl, ?_⟩ (by first | assumption | trivial) ?_
                rotate_left
                · intro W9 hSw
                  (try dsimp only at hSw)
                  go_simp
                  try with_reducible rfl
                (try simp only [Act.put, List.setIfInBounds_toArray, List.set_cons_zero, List.set_cons_succ])
                have SB := Lib.hid hHeld
                clear hHeld
                generalize w8.drew = Y at *
                refine wpAnyH_ready (rs := [3]) (by kernel_rfl) (by simp) ?_
                refine consL rfl (by rfl) (fun K hK => ?_) ?_
                · go_simp
                  refine (HV1.out Y SB.out).mono ?_
                  rintro e w9 ⟨v9, rfl, own9, hb⟩
                  have SB9' := SB.out.trans (hb.mono SB.out.size)
                  refine hK.out _ _ SB9' (fun _ => ?_)
                  clear hK K
                  obtain ⟨Aa, ca, rfl, hca, hra⟩ := own_sl own9
                  have RA9 := Lib.hid hra
                  have SB9 := Lib.hid SB9'
                  clear hra own9 hb SB SB9' HV1
                  (try simp only [Act.put, List.setIfInBounds_toArray, List.set_cons_zero, List.set_cons_succ])
                  refine wpAnyH_ready (rs := [7]) (by kernel_rfl) (by simp) ?_
                  refine consL rfl (by rfl) (fun K hK => ?_) ?_
                  · go_simp
                    refine (HV2.out w9 SB9.out).mono ?_
                    rintro e w10 ⟨v10, rfl, own10, hb⟩
                    have SB10' := SB9.out.trans (hb.mono SB9.out.size)
                    refine hK.out _ _ SB10' (fun _ => ?_)
                    clear hK K
                    obtain ⟨Ab, cb, rfl, hcb, hrb⟩ := own_sl own10
                    have RA10 := Lib.hid ((RA9.out.below hb).more hb.size)
                    have RB10 := Lib.hid hrb
                    have SB10 := Lib.hid SB10'
                    clear hrb own10 hb SB9 SB10' HV2 RA9
                    (try simp only [Act.put, List.setIfInBounds_toArray, List.set_cons_zero, List.set_cons_succ])
                    refine takeL (i := 8) (v := ?_) rfl (by kernel_rfl) (by kernel_rfl) (by kernel_rfl) (fun _ _ _ h => h) ⟨by rfl, ?_⟩ (by first | assumption | trivial) ?_
                    rotate_left
                    · intro W9 hSw
                      (try dsimp only at hSw)
                      go_simp
                      try with_reducible rfl
                    (try simp only [Act.put, List.setIfInBounds_toArray, List.set_cons_zero, List.set_cons_succ])
                    refine takeL (i := 9) (v := ?_) rfl (by kernel_rfl) (by kernel_rfl) (by kernel_rfl) (fun _ _ _ h => h) ⟨by rfl, ?_⟩ (by first | assumption | trivial) ?_
                    rotate_left
                    · intro W9 hSw
                      (try dsimp only at hSw)
                      go_simp
                      try with_reducible rfl
                    (try simp only [Act.put, List.setIfInBounds_toArray, List.set_cons_zero, List.set_cons_succ])
                    refine wpAnyH_done (by kernel_rfl) ?_ _
                    go_wp2_with fail
                    refine (puts_any Aa V1.length ca V1 rfl (by have := HL1.out; rw [HL.out] at this; omega) w10.heap.size w10 RA10.out (Nat.le_refl _)).mono ?_
                    rintro e w11 ⟨v11, rfl, own11, hb⟩
                    obtain ⟨Ac, cc, rfl, hcc, hrc⟩ := own_sl own11
                    have SB11 := Lib.hid (SB10.out.trans (hb.mono SB10.out.size))
                    have RC11 := Lib.hid hrc
                    have RA11 := Lib.hid ((RA10.out.below hb).more hb.size)
                    clear RA10
                    have RB11 := Lib.hid ((RB10.out.below hb).more hb.size)
                    clear RB10
                    clear hb own11 hrc SB10
                    go_wp2_with fail
                    refine (puts_any Ab V2.length cb V2 rfl (by have := HL2.out; omega) w11.heap.size w11 RB11.out (Nat.le_refl _)).mono ?_
                    rintro e w12 ⟨v12, rfl, own12, hb⟩
                    obtain ⟨Ad, cd, rfl, hcd, hrd⟩ := own_sl own12
                    have SB12 := Lib.hid (SB11.out.trans (hb.mono SB11.out.size))
                    have RD12 := Lib.hid hrd
                    have RA12 := Lib.hid ((RA11.out.below hb).more hb.size)
                    clear RA11
                    have RB12 := Lib.hid ((RB11.out.below hb).more hb.size)
                    clear RB11
                    have RC12 := Lib.hid ((RC11.out.below hb).more hb.size)
                    clear RC11
                    clear hb own12 hrd SB11
                    go_wp2_with fail
                    refine (sameE_any Ac Ad (putE V1).length (putE V2).length cc cd _ _ (putE V1) (putE V2) rfl rfl (by have := putE_len V1; have h2 := HL1.out; rw [HL.out] at h2; omega) w12 RC12.out (Nat.le_refl _) RD12.out (Nat.le_refl _)).mono ?_
                    rintro e w13 ⟨rfl, hb⟩
                    rw [decide_eq_true HVV.out.1]
                    have SB13 := Lib.hid (SB12.out.trans (hb.mono SB12.out.size))
                    have RA13 := Lib.hid ((RA12.out.below hb).more hb.size)
                    clear RA12
                    have RB13 := Lib.hid ((RB12.out.below hb).more hb.size)
                    clear RB12
                    clear hb RC12 RD12 SB12
                    cases last
                    · have HVE := Lib.hid (HVV.out.2 rfl)
                      go_wp2_with fail
                      refine (sameE_any Aa Ab V1.length V2.length ca cb _ _ V1 V2 rfl rfl (by have h2 := HL1.out; rw [HL.out] at h2; omega) w13 RA13.out (Nat.le_refl _) RB13.out (Nat.le_refl _)).mono ?_
                      rintro e w14 ⟨rfl, hb⟩
                      rw [decide_eq_true HVE.out]
                      have B9 := Lib.hid (B68.out.trans ((SB13.out.trans (hb.mono SB13.out.size)).mono B68.out.size))
                      clear hb SB13 RA13 RB13
                      go_wp2_with fail
                      go_roundw
                      case rel => exact ⟨i + 1, by go_num, by omega, B9⟩
                      case measure => simp [intOf]; omega
                    · have B9 := Lib.hid (B68.out.trans (SB13.out.mono B68.out.size))
                      clear SB13 RA13 RB13
                      go_wp2_with fail
                      go_roundw
                      case rel => exact ⟨i + 1, by go_num, by omega, B9⟩
                      case measure => simp [intOf]; omega
                  · exact AllReadyH.nil
                · exact AllReadyH.nil
            · have i1 : ¬ (i : Int) ≤ (nk : Int) := by omega
              go_wp2_with fail
              go_ret
              exact ⟨rfl, by rw [← HP.out]; exact B8.out⟩

theorem blockFold_law (w : World) (x : EntsArg w) (_ : True) (k : IntsArg w) (_ : True) (s : Spn) (_ : InSp s) (last : Bool) :
    Calls Try.prog 6 #[.slice x.A x.n x.c, .slice k.A k.n k.c, .agg #[.string s.f, .string s.t], .bool last] w fun e w' => e = .returned (.bool true) ∧ Below w.heap.size w w' :=
  blockFold_walk w x.A x.n x.c x.l x.hl x.hc x.hn x.rd k.A k.n k.c k.l k.hl k.hc k.hn k.rd s.f s.t last
end Go.Proofs.Ytmcpjpkidcbgiaa
