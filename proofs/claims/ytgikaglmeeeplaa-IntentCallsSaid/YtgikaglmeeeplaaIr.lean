/- Walk: the cells that no read sees from a threshold on. -/
import Derived.Test.YtgikaglmeeeplaaIg
import Derived.Test.YtgikaglmeeeplaaQTail
namespace Go.Proofs.Ytgikaglmeeeplaa
open Go.RowKit Go.St
set_option linter.unusedVariables false
set_option linter.unusedSimpArgs false
set_option maxRecDepth 100000

theorem styC : STy Try.prog 22 45 6 56 (.agg #[.string { data := #[] }, .int .i64 0, .int .i32 0, .int .i32 0, .string { data := #[] }, .bool false]) := ⟨Try.underlying22, ⟨_, rfl, by kernel_rfl, by kernel_rfl, by kernel_rfl⟩, rfl, by decide⟩
def goneG (cs : List Cel) (thr : Stp) : List Cel := if chkdE cs [] [thr] = 0 then goneL cs thr else []


set_option maxHeartbeats 6400000 in
theorem gone24_any (A : Option Addr) (n c : Nat) (cs : List Cel) (hl : cs.length = n) (hn : n ≤ 1000000) (t : Stp) (B : Nat) (w : World) (hr : Rd w B A (cev cs)) (hB : B ≤ w.heap.size) :
    Calls Try.prog 18 #[.slice A n c, .agg #[.int .i64 t.wall, .int .i32 t.logic, .int .i32 t.tag]] w fun e w' => ∃ v, e = .returned (.tuple #[v, .int .i64 (chkdE cs [] [t])]) ∧ w'.ownsRow w.heap.size 45 6 v (goneG cs t).length (cev (goneG cs t)) ∧ Below w.heap.size w w' := by
  have HL := Lib.hid hl
  have HR := Lib.hid hr
  clear hl hr
  obtain ⟨F, hF⟩ : ∃ F, F = chkdE cs [] [t] := ⟨_, rfl⟩
  obtain ⟨E, hE⟩ : ∃ E, E = goneG cs t := ⟨_, rfl⟩
  rw [← hF, ← hE]
  have HF := Lib.hid hF
  have HE := Lib.hid hE
  clear hF hE
  go_enter Try.func18, Try.ntmps18
  go_wp2_with fail
  have X5 : Hid (BxV ((w.alloc (.cells #[.int .i64 t.wall, .int .i32 t.logic, .int .i32 t.tag] 25)).alloc (.cells #[.int .i64 t.wall, .int .i32 t.logic, .int .i32 t.tag] 25)) w.heap.size (spc t)) := Lib.hid ((BxV.new w _ _).alloc _)
  have RS : Hid (Rd ((w.alloc (.cells #[.int .i64 t.wall, .int .i32 t.logic, .int .i32 t.tag] 25)).alloc (.cells #[.int .i64 t.wall, .int .i32 t.logic, .int .i32 t.tag] 25)) ((w.alloc (.cells #[.int .i64 t.wall, .int .i32 t.logic, .int .i32 t.tag] 25)).alloc (.cells #[.int .i64 t.wall, .int .i32 t.logic, .int .i32 t.tag] 25)).heap.size (some ⟨w.heap.size + 1, 0, none⟩) (spv [t])) := Lib.hid (by
    have h := rd_frC (w.alloc (.cells #[.int .i64 t.wall, .int .i32 t.logic, .int .i32 t.tag] 25)) #[.int .i64 t.wall, .int .i32 t.logic, .int .i32 t.tag] 25 (0, 0)
    simpa [spv, spc] using h)
  have B5 : Hid (Below w.heap.size w ((w.alloc (.cells #[.int .i64 t.wall, .int .i32 t.logic, .int .i32 t.tag] 25)).alloc (.cells #[.int .i64 t.wall, .int .i32 t.logic, .int .i32 t.tag] 25))) := Lib.hid (((Below.refl _ _).alloc (Nat.le_refl _) _).alloc (by simp) _)
  generalize ((w.alloc (.cells #[.int .i64 t.wall, .int .i32 t.logic, .int .i32 t.tag] 25)).alloc (.cells #[.int .i64 t.wall, .int .i32 t.logic, .int .i32 t.tag] 25)) = w5 at *
  have R5 := Lib.hid ((HR.out.below (B5.out.mono hB)).more (show B ≤ w5.heap.size by have := B5.out.size; omega))
  refine (checked24_any A n c cs HL.out (by omega) none 0 0 [] rfl (by decide) (some ⟨w.heap.size + 1, 0, none⟩) 1 1 [t] rfl (by decide) w5.heap.size w5 R5.out Rd.nil RS.out (Nat.le_refl _)).mono ?_
  rintro e w7 ⟨rfl, hb6⟩
  have X7 := Lib.hid (X5.out.next hb6)
  have B7 := Lib.hid (B5.out.trans (hb6.mono B5.out.size))
  rw [← HF.out]
  clear hb6 X5 RS B5 R5
  by_cases h0 : F = 0
  case neg =>
    have hE1 : E = [] := by rw [HE.out]; unfold goneG; rw [if_neg (by rw [← HF.out]; exact h0)]
    have SEQ := Lib.hid hE1
    have e1 : (F != 0) = true := by simpa using h0
    clear hE1 h0 HE HF
    go_wp2_with fail
    go_ret2
    exact ⟨_, rfl, by rw [SEQ.out]; exact World.ownsRow_nil _ _ _ _, B7.out⟩
  have hE1 : E = goneA t zE cs := by rw [HE.out]; unfold goneG; rw [if_pos (by rw [← HF.out]; exact h0)]; rfl
  have HE1 : Hid (E = [] ++ goneA t zE (cs.drop 0)) := Lib.hid (by rw [hE1]; rfl)
  have HO := Lib.hid (chkdE_ok.1 (by rw [← HF.out]; exact h0)).1
  have HF0 := Lib.hid h0
  have hzB : B ≤ w7.heap.size := by have := B7.out.size; omega
  have R7 := Lib.hid (HR.out.below (B7.out.mono hB))
  have HZ : Hid (∀ c ∈ cs, c.key ≠ zE) := Lib.hid (fun c hc e => by
    have h1 := HO.out.1 c hc
    unfold okC at h1
    rw [e, show usr zE = false by decide] at h1
    cases h1)
  clear hE1 h0 HE HF HR
  rw [HF0.out]
  go_wp2_with fail
  go_loopw [7, 8, 9] (fun s7 s8 s9 wr => ∃ (A5 : Option Addr) (c5 : Nat) (out : List Cel) (i : Nat) (lat : Int) (K : ByteArray), s7 = .slice A5 out.length c5 ∧ s8 = .int .i64 (i : Int) ∧ s9 = .int .i64 lat ∧ i ≤ n ∧ Hid (out.length ≤ i) ∧ Hid (wr.ownsRow w7.heap.size 45 6 (.slice A5 out.length c5) out.length (cev out)) ∧ Hid (E = out ++ goneA t K (cs.drop i)) ∧ Hid (InvG cs i K lat) ∧ Hid (Below w7.heap.size w7 wr)) (fun s7 s8 s9 _ => n - (intOf s8).toNat)
  case atStart => exact ⟨none, 0, [], 0, -1, zE, rfl, rfl, rfl, Nat.zero_le _, Lib.hid (Nat.le_refl _), Lib.hid (World.ownsRow_nil _ _ _ _), HE1, Lib.hid (InvG.first cs), Lib.hid (Below.refl _ _)⟩
  case round =>
    obtain ⟨A5, c5, out, i, lat, K, rfl, rfl, rfl, hi, HOL, HOw, HQ, HG, hB1⟩ := hrel
    obtain ⟨w2, rfl⟩ : ∃ x, x = wr := ⟨_, rfl⟩
    have hbd := HG.out.bd
    by_cases hlt : i < n
    · obtain ⟨x, hx⟩ : ∃ x, cs[i]? = some x := ⟨_, List.getElem?_eq_getElem (by rw [HL.out]; exact hlt)⟩
      obtain ⟨b, off, rfl, hb, hce⟩ := ce_at R7.out hx
      obtain ⟨d0, d1, d2, d3, d4, d5⟩ := hce.below (Nat.lt_of_lt_of_le hb hzB) hB1.out
      have HX := Lib.hid hx
      have X2 := Lib.hid (X7.out.next hB1.out)
      have zzb : b < w2.heap.size := by have := hB1.out.size; omega
      have i1 : (i : Int) < (n : Int) := by omega
      have i0 : (0 : Int) ≤ (i : Int) := by omega
      clear hce hx
      rcases Nat.eq_zero_or_pos i with hi0 | hi0
      · have hlat : lat = -1 := by omega
        have HP1 : Hid (0 ≤ lat → K = x.key) := Lib.hid (fun e => by omega)
        have HP2 : Hid (lat < 0 → K ≠ x.key) := Lib.hid (fun _ e => by
          rcases HG.out.old with h | ⟨j, a, hj, _, _⟩
          · exact HZ.out x (List.mem_of_getElem? HX.out) (by rw [← e, h])
          · omega)
        have hln : lat < 0 := by omega
        have hg0 : ¬ (0 < (i : Int)) := by omega
        have hg1 : decide (0 < (i : Int)) = false := decide_eq_false hg0
        have hg2 : decide (0 < i) = false := decide_eq_false (by omega)
        clear hi0 hlat
        go_wp2_with fail
        refine wp_qall (by kernel_rfl) (by kernel_rfl) ?_
        intro hcg
        repeat (first | go_big_quiet_step (fail) | quiet_step (fail))
        refine wpQuiet_nil ?_
        intro wq hbwq hcwq hfwq
        clear hcg
        go_wp2_with fail
        have Xq := Lib.hid (X2.out.next hbwq)
        have Bq := Lib.hid (hB1.out.trans (hbwq.mono hB1.out.size))
        have Oq := own_keep HOw.out hbwq (Nat.le_refl _)
        have c1 := (hcwq _ _ zzb).trans d1
        have c2 := (hcwq _ _ zzb).trans d2
        have c3 := (hcwq _ _ zzb).trans d3
        have c0 := (hcwq _ _ zzb).trans d0
        have c4 := (hcwq _ _ zzb).trans d4
        have c5' := (hcwq _ _ zzb).trans d5
        have zq := Nat.lt_of_lt_of_le zzb hbwq.size
        clear d0 d1 d2 d3 d4 d5 hbwq hcwq hfwq X2
        have a0 := Xq.out.c 0 _ rfl
        have a1 := Xq.out.c 1 _ rfl
        have a2 := Xq.out.c 2 _ rfl
        have za := Xq.out.lt
        go_wp2_with fail
        refine wp_qall (by kernel_rfl) (by kernel_rfl) ?_
        intro hcg
        repeat (first | go_big_quiet_step ((with_reducible (exact Calls.reg (hcompare_any x.at_ t _)))) | quiet_step ((with_reducible (exact Calls.reg (hcompare_any x.at_ t _)))))
        refine wpQuiet_nil ?_
        intro wc hbwc hcwc hfwc
        clear hcg
        have B4 := Lib.hid (Bq.out.trans (hbwc.mono Bq.out.size))
        have O4 := Lib.hid (own_keep Oq hbwc (Nat.le_refl _))
        have d0 := (hcwc _ _ zq).trans c0
        have d1 := (hcwc _ _ zq).trans c1
        have d2 := (hcwc _ _ zq).trans c2
        have d3 := (hcwc _ _ zq).trans c3
        have d4 := (hcwc _ _ zq).trans c4
        have d5 := (hcwc _ _ zq).trans c5'
        have zc := Nat.lt_of_lt_of_le zq hbwc.size
        clear c0 c1 c2 c3 c4 c5' hbwc hcwc hfwc Xq Bq Oq a0 a1 a2 za zq hB1
        cases k1 : less t x.at_
        case true =>
          have g3 : 0 < cmpS x.at_ t := by rw [cmp_gt k1]; omega
          have HG9 := Lib.hid (HG.out.skip HX.out (lat2 := lat) (by omega) HP1.out HP2.out)
          have HQ9 : Hid (E = out ++ goneA t K (cs.drop (i + 1))) := Lib.hid (by rw [HQ.out, drop_at HX.out, goneA_no (by unfold le; rw [k1]; simp)])
          have L9 : Hid (out.length ≤ i + 1) := Lib.hid (by have := HOL.out; omega)
          clear HQ HG HOw k1
          go_wp2_with fail
          go_roundw
          case rel => exact ⟨A5, c5, out, i + 1, lat, K, rfl, by go_num, rfl, by omega, L9, O4, HQ9, HG9, B4⟩
          case measure => simp [intOf]; omega
        have g3 : ¬ (0 < cmpS x.at_ t) := by have := (cmp_le x.at_ t).2 k1; omega
        have g4 : ¬ ((0 : Int) ≤ lat) := by omega
        have hKx : K ≠ x.key := HP2.out (by omega)
        by_cases hd : x.del = true
        · have hc : x.key = K ∨ x.del = true := .inr hd
          have HD := Lib.hid hd
          rw [hd] at d5
          clear hd
          have HG9 := Lib.hid (HG.out.take HX.out)
          have HQ9 : Hid (E = (out ++ [x]) ++ goneA t x.key (cs.drop (i + 1))) := Lib.hid (by rw [HQ.out, drop_at HX.out, goneA_yes (by unfold le; rw [k1]; rfl), if_pos hc]; simp)
          have hol : out.length ≤ i := HOL.out
          have hs4 := B4.out.size
          clear HQ HG HOw k1
          go_wp2_with (at_builtin; refine wpList_app styC (.tmp 56) (.tmp 61) rfl rfl w7.heap.size (O4.out.alloc _) rfl 1 1 (rd_frC _ _ _ _) rfl rfl (by simp [Value.oneCell']) (by unfold maxLen; omega) (by omega) (by rw [World.size_alloc]; omega) ?_; intro v5 w5 own5 gr5 nil5 at5; obtain ⟨A6, c6, rfl, -, -⟩ := own_sl own5)
          have B10 := Lib.hid ((B4.out.alloc hs4 _).grown gr5 (by rw [World.size_alloc]; omega) (fun g e => (O4.out.lt g e).1))
          have O10 : Hid (w5.ownsRow w7.heap.size 45 6 (.slice A6 (out.length + 1) c6) (out ++ [x]).length (cev (out ++ [x]))) := Lib.hid (own_eq own5 (by simp) (by rw [cev_app]; first | rfl | (simp [cev, Cel.c, HD.out])))
          go_roundw
          case rel => exact ⟨A6, c6, out ++ [x], i + 1, (i : Int), x.key, by rw [List.length_append]; rfl, by go_num, rfl, by omega, Lib.hid (by rw [List.length_append]; simp only [List.length_cons, List.length_nil]; omega), Lib.hid (by have h := O10.out; rw [List.length_append] at h ⊢; exact h), HQ9, HG9, B10⟩
          case measure => simp [intOf]; omega
        · have hc : ¬ (x.key = K ∨ x.del = true) := fun e => by
            rcases e with e | e
            · exact hKx e.symm
            · exact hd e
          have hd' : x.del = false := by simpa using hd
          rw [hd'] at d5
          clear hd hd'
          have HG9 := Lib.hid (HG.out.take HX.out)
          have HQ9 : Hid (E = out ++ goneA t x.key (cs.drop (i + 1))) := Lib.hid (by rw [HQ.out, drop_at HX.out, goneA_yes (by unfold le; rw [k1]; rfl), if_neg hc]; rfl)
          have L9 : Hid (out.length ≤ i + 1) := Lib.hid (by have := HOL.out; omega)
          clear HQ HG HOw k1
          go_wp2_with fail
          go_roundw
          case rel => exact ⟨A5, c5, out, i + 1, (i : Int), x.key, rfl, by go_num, rfl, by omega, L9, O4, HQ9, HG9, B4⟩
          case measure => simp [intOf]; omega
      · obtain ⟨j, hj⟩ : ∃ j, i = j + 1 := ⟨i - 1, by omega⟩
        obtain ⟨p, hp⟩ : ∃ p, cs[j]? = some p := ⟨_, List.getElem?_eq_getElem (by rw [HL.out]; omega)⟩
        obtain ⟨b', off', eA, hb', hce'⟩ := ce_at R7.out hp
        injection eA with eA
        injection eA with eb eo
        subst eb eo
        have f0 := (hce'.below (Nat.lt_of_lt_of_le hb hzB) hB1.out).c0
        have HGj : Hid (InvG cs (j + 1) K lat) := Lib.hid (by rw [← hj]; exact HG.out)
        have HXj : Hid (cs[j + 1]? = some x) := Lib.hid (by rw [← hj]; exact HX.out)
        have HPp := Lib.hid hp
        have hg0 : (0 : Int) < (i : Int) := by omega
        have hg1 : decide (0 < (i : Int)) = true := decide_eq_true hg0
        have hg2 : decide (0 < i) = true := decide_eq_true (by omega)
        have j2 : (i : Int) - 1 = (j : Int) := by omega
        have j3 : (j : Int) < (n : Int) := by omega
        have j4 : IntKind.i64.wrap (j : Int) = (j : Int) := IntWalk.i64_in _ (by omega)
        have j5 : (0 : Int) ≤ (j : Int) := by omega
        clear hce' hp hb' hj hi0
        by_cases q0 : p.key = x.key
        · have e1 : (p.key.toList == x.key.toList) = true := by rw [str_eq, decide_eq_true q0]
          have HP1 : Hid (0 ≤ lat → K = x.key) := Lib.hid (fun e => by
            obtain ⟨a, j', hj', ha, hk⟩ := HGj.out.yes e
            have e2 : j' = j := by omega
            subst e2
            rw [HPp.out] at ha
            injection ha with ha
            rw [hk, ← ha, q0])
          have HP2 : Hid (lat < 0 → K ≠ x.key) := Lib.hid (fun e => by
            rw [← q0]
            exact HGj.out.no e p j rfl HPp.out)
          by_cases hl0 : 0 ≤ lat
          · clear q0
            go_wp2_with fail
            refine wp_qall (by kernel_rfl) (by kernel_rfl) ?_
            intro hcg
            repeat (first | go_big_quiet_step (fail) | quiet_step (fail))
            refine wpQuiet_nil ?_
            intro wq hbwq hcwq hfwq
            clear hcg
            go_wp2_with fail
            have Xq := Lib.hid (X2.out.next hbwq)
            have Bq := Lib.hid (hB1.out.trans (hbwq.mono hB1.out.size))
            have Oq := own_keep HOw.out hbwq (Nat.le_refl _)
            have c1 := (hcwq _ _ zzb).trans d1
            have c2 := (hcwq _ _ zzb).trans d2
            have c3 := (hcwq _ _ zzb).trans d3
            have c0 := (hcwq _ _ zzb).trans d0
            have c4 := (hcwq _ _ zzb).trans d4
            have c5' := (hcwq _ _ zzb).trans d5
            have zq := Nat.lt_of_lt_of_le zzb hbwq.size
            clear d0 d1 d2 d3 d4 d5 hbwq hcwq hfwq X2
            have a0 := Xq.out.c 0 _ rfl
            have a1 := Xq.out.c 1 _ rfl
            have a2 := Xq.out.c 2 _ rfl
            have za := Xq.out.lt
            go_wp2_with fail
            refine wp_qall (by kernel_rfl) (by kernel_rfl) ?_
            intro hcg
            repeat (first | go_big_quiet_step ((with_reducible (exact Calls.reg (hcompare_any x.at_ t _)))) | quiet_step ((with_reducible (exact Calls.reg (hcompare_any x.at_ t _)))))
            refine wpQuiet_nil ?_
            intro wc hbwc hcwc hfwc
            clear hcg
            have B4 := Lib.hid (Bq.out.trans (hbwc.mono Bq.out.size))
            have O4 := Lib.hid (own_keep Oq hbwc (Nat.le_refl _))
            have d0 := (hcwc _ _ zq).trans c0
            have d1 := (hcwc _ _ zq).trans c1
            have d2 := (hcwc _ _ zq).trans c2
            have d3 := (hcwc _ _ zq).trans c3
            have d4 := (hcwc _ _ zq).trans c4
            have d5 := (hcwc _ _ zq).trans c5'
            have zc := Nat.lt_of_lt_of_le zq hbwc.size
            clear c0 c1 c2 c3 c4 c5' hbwc hcwc hfwc Xq Bq Oq a0 a1 a2 za zq hB1
            cases k1 : less t x.at_
            case true =>
              have g3 : 0 < cmpS x.at_ t := by rw [cmp_gt k1]; omega
              have HG9 := Lib.hid (HG.out.skip HX.out (lat2 := lat) (by omega) HP1.out HP2.out)
              have HQ9 : Hid (E = out ++ goneA t K (cs.drop (i + 1))) := Lib.hid (by rw [HQ.out, drop_at HX.out, goneA_no (by unfold le; rw [k1]; simp)])
              have L9 : Hid (out.length ≤ i + 1) := Lib.hid (by have := HOL.out; omega)
              clear HQ HG HOw k1
              go_wp2_with fail
              go_roundw
              case rel => exact ⟨A5, c5, out, i + 1, lat, K, rfl, by go_num, rfl, by omega, L9, O4, HQ9, HG9, B4⟩
              case measure => simp [intOf]; omega
            have g3 : ¬ (0 < cmpS x.at_ t) := by have := (cmp_le x.at_ t).2 k1; omega
            have g4 : (0 : Int) ≤ lat := by omega
            have hc : x.key = K ∨ x.del = true := .inl (HP1.out (by omega)).symm
            have HG9 := Lib.hid (HG.out.take HX.out)
            have HQ9 : Hid (E = (out ++ [x]) ++ goneA t x.key (cs.drop (i + 1))) := Lib.hid (by rw [HQ.out, drop_at HX.out, goneA_yes (by unfold le; rw [k1]; rfl), if_pos hc]; simp)
            have hol : out.length ≤ i := HOL.out
            have hs4 := B4.out.size
            clear HQ HG HOw k1
            go_wp2_with (at_builtin; refine wpList_app styC (.tmp 56) (.tmp 61) rfl rfl w7.heap.size (O4.out.alloc _) rfl 1 1 (rd_frC _ _ _ _) rfl rfl (by simp [Value.oneCell']) (by unfold maxLen; omega) (by omega) (by rw [World.size_alloc]; omega) ?_; intro v5 w5 own5 gr5 nil5 at5; obtain ⟨A6, c6, rfl, -, -⟩ := own_sl own5)
            have B10 := Lib.hid ((B4.out.alloc hs4 _).grown gr5 (by rw [World.size_alloc]; omega) (fun g e => (O4.out.lt g e).1))
            have O10 : Hid (w5.ownsRow w7.heap.size 45 6 (.slice A6 (out.length + 1) c6) (out ++ [x]).length (cev (out ++ [x]))) := Lib.hid (own_eq own5 (by simp) (by rw [cev_app]; first | rfl | (simp [cev, Cel.c, HD.out])))
            go_roundw
            case rel => exact ⟨A6, c6, out ++ [x], i + 1, (i : Int), x.key, by rw [List.length_append]; rfl, by go_num, rfl, by omega, Lib.hid (by rw [List.length_append]; simp only [List.length_cons, List.length_nil]; omega), Lib.hid (by have h := O10.out; rw [List.length_append] at h ⊢; exact h), HQ9, HG9, B10⟩
            case measure => simp [intOf]; omega
          · have hln : lat < 0 := by omega
            clear q0 hl0
            go_wp2_with fail
            refine wp_qall (by kernel_rfl) (by kernel_rfl) ?_
            intro hcg
            repeat (first | go_big_quiet_step (fail) | quiet_step (fail))
            refine wpQuiet_nil ?_
            intro wq hbwq hcwq hfwq
            clear hcg
            go_wp2_with fail
            have Xq := Lib.hid (X2.out.next hbwq)
            have Bq := Lib.hid (hB1.out.trans (hbwq.mono hB1.out.size))
            have Oq := own_keep HOw.out hbwq (Nat.le_refl _)
            have c1 := (hcwq _ _ zzb).trans d1
            have c2 := (hcwq _ _ zzb).trans d2
            have c3 := (hcwq _ _ zzb).trans d3
            have c0 := (hcwq _ _ zzb).trans d0
            have c4 := (hcwq _ _ zzb).trans d4
            have c5' := (hcwq _ _ zzb).trans d5
            have zq := Nat.lt_of_lt_of_le zzb hbwq.size
            clear d0 d1 d2 d3 d4 d5 hbwq hcwq hfwq X2
            have a0 := Xq.out.c 0 _ rfl
            have a1 := Xq.out.c 1 _ rfl
            have a2 := Xq.out.c 2 _ rfl
            have za := Xq.out.lt
            go_wp2_with fail
            refine wp_qall (by kernel_rfl) (by kernel_rfl) ?_
            intro hcg
            repeat (first | go_big_quiet_step ((with_reducible (exact Calls.reg (hcompare_any x.at_ t _)))) | quiet_step ((with_reducible (exact Calls.reg (hcompare_any x.at_ t _)))))
            refine wpQuiet_nil ?_
            intro wc hbwc hcwc hfwc
            clear hcg
            have B4 := Lib.hid (Bq.out.trans (hbwc.mono Bq.out.size))
            have O4 := Lib.hid (own_keep Oq hbwc (Nat.le_refl _))
            have d0 := (hcwc _ _ zq).trans c0
            have d1 := (hcwc _ _ zq).trans c1
            have d2 := (hcwc _ _ zq).trans c2
            have d3 := (hcwc _ _ zq).trans c3
            have d4 := (hcwc _ _ zq).trans c4
            have d5 := (hcwc _ _ zq).trans c5'
            have zc := Nat.lt_of_lt_of_le zq hbwc.size
            clear c0 c1 c2 c3 c4 c5' hbwc hcwc hfwc Xq Bq Oq a0 a1 a2 za zq hB1
            cases k1 : less t x.at_
            case true =>
              have g3 : 0 < cmpS x.at_ t := by rw [cmp_gt k1]; omega
              have HG9 := Lib.hid (HG.out.skip HX.out (lat2 := lat) (by omega) HP1.out HP2.out)
              have HQ9 : Hid (E = out ++ goneA t K (cs.drop (i + 1))) := Lib.hid (by rw [HQ.out, drop_at HX.out, goneA_no (by unfold le; rw [k1]; simp)])
              have L9 : Hid (out.length ≤ i + 1) := Lib.hid (by have := HOL.out; omega)
              clear HQ HG HOw k1
              go_wp2_with fail
              go_roundw
              case rel => exact ⟨A5, c5, out, i + 1, lat, K, rfl, by go_num, rfl, by omega, L9, O4, HQ9, HG9, B4⟩
              case measure => simp [intOf]; omega
            have g3 : ¬ (0 < cmpS x.at_ t) := by have := (cmp_le x.at_ t).2 k1; omega
            have g4 : ¬ ((0 : Int) ≤ lat) := by omega
            have hKx : K ≠ x.key := HP2.out (by omega)
            by_cases hd : x.del = true
            · have hc : x.key = K ∨ x.del = true := .inr hd
              have HD := Lib.hid hd
              rw [hd] at d5
              clear hd
              have HG9 := Lib.hid (HG.out.take HX.out)
              have HQ9 : Hid (E = (out ++ [x]) ++ goneA t x.key (cs.drop (i + 1))) := Lib.hid (by rw [HQ.out, drop_at HX.out, goneA_yes (by unfold le; rw [k1]; rfl), if_pos hc]; simp)
              have hol : out.length ≤ i := HOL.out
              have hs4 := B4.out.size
              clear HQ HG HOw k1
              go_wp2_with (at_builtin; refine wpList_app styC (.tmp 56) (.tmp 61) rfl rfl w7.heap.size (O4.out.alloc _) rfl 1 1 (rd_frC _ _ _ _) rfl rfl (by simp [Value.oneCell']) (by unfold maxLen; omega) (by omega) (by rw [World.size_alloc]; omega) ?_; intro v5 w5 own5 gr5 nil5 at5; obtain ⟨A6, c6, rfl, -, -⟩ := own_sl own5)
              have B10 := Lib.hid ((B4.out.alloc hs4 _).grown gr5 (by rw [World.size_alloc]; omega) (fun g e => (O4.out.lt g e).1))
              have O10 : Hid (w5.ownsRow w7.heap.size 45 6 (.slice A6 (out.length + 1) c6) (out ++ [x]).length (cev (out ++ [x]))) := Lib.hid (own_eq own5 (by simp) (by rw [cev_app]; first | rfl | (simp [cev, Cel.c, HD.out])))
              go_roundw
              case rel => exact ⟨A6, c6, out ++ [x], i + 1, (i : Int), x.key, by rw [List.length_append]; rfl, by go_num, rfl, by omega, Lib.hid (by rw [List.length_append]; simp only [List.length_cons, List.length_nil]; omega), Lib.hid (by have h := O10.out; rw [List.length_append] at h ⊢; exact h), HQ9, HG9, B10⟩
              case measure => simp [intOf]; omega
            · have hc : ¬ (x.key = K ∨ x.del = true) := fun e => by
                rcases e with e | e
                · exact hKx e.symm
                · exact hd e
              have hd' : x.del = false := by simpa using hd
              rw [hd'] at d5
              clear hd hd'
              have HG9 := Lib.hid (HG.out.take HX.out)
              have HQ9 : Hid (E = out ++ goneA t x.key (cs.drop (i + 1))) := Lib.hid (by rw [HQ.out, drop_at HX.out, goneA_yes (by unfold le; rw [k1]; rfl), if_neg hc]; rfl)
              have L9 : Hid (out.length ≤ i + 1) := Lib.hid (by have := HOL.out; omega)
              clear HQ HG HOw k1
              go_wp2_with fail
              go_roundw
              case rel => exact ⟨A5, c5, out, i + 1, (i : Int), x.key, rfl, by go_num, rfl, by omega, L9, O4, HQ9, HG9, B4⟩
              case measure => simp [intOf]; omega
        · have e1 : (p.key.toList == x.key.toList) = false := by rw [str_eq, decide_eq_false q0]
          have HP1 : Hid (0 ≤ (-1 : Int) → K = x.key) := Lib.hid (fun e => by omega)
          have HP2 : Hid ((-1 : Int) < 0 → K ≠ x.key) := Lib.hid (fun _ => HGj.out.turn HO.out.2.2.1 HZ.out HPp.out HXj.out q0)
          clear q0
          go_wp2_with fail
          refine wp_qall (by kernel_rfl) (by kernel_rfl) ?_
          intro hcg
          repeat (first | go_big_quiet_step (fail) | quiet_step (fail))
          refine wpQuiet_nil ?_
          intro wq hbwq hcwq hfwq
          clear hcg
          go_wp2_with fail
          have Xq := Lib.hid (X2.out.next hbwq)
          have Bq := Lib.hid (hB1.out.trans (hbwq.mono hB1.out.size))
          have Oq := own_keep HOw.out hbwq (Nat.le_refl _)
          have c1 := (hcwq _ _ zzb).trans d1
          have c2 := (hcwq _ _ zzb).trans d2
          have c3 := (hcwq _ _ zzb).trans d3
          have c0 := (hcwq _ _ zzb).trans d0
          have c4 := (hcwq _ _ zzb).trans d4
          have c5' := (hcwq _ _ zzb).trans d5
          have zq := Nat.lt_of_lt_of_le zzb hbwq.size
          clear d0 d1 d2 d3 d4 d5 hbwq hcwq hfwq X2
          have a0 := Xq.out.c 0 _ rfl
          have a1 := Xq.out.c 1 _ rfl
          have a2 := Xq.out.c 2 _ rfl
          have za := Xq.out.lt
          go_wp2_with fail
          refine wp_qall (by kernel_rfl) (by kernel_rfl) ?_
          intro hcg
          repeat (first | go_big_quiet_step ((with_reducible (exact Calls.reg (hcompare_any x.at_ t _)))) | quiet_step ((with_reducible (exact Calls.reg (hcompare_any x.at_ t _)))))
          refine wpQuiet_nil ?_
          intro wc hbwc hcwc hfwc
          clear hcg
          have B4 := Lib.hid (Bq.out.trans (hbwc.mono Bq.out.size))
          have O4 := Lib.hid (own_keep Oq hbwc (Nat.le_refl _))
          have d0 := (hcwc _ _ zq).trans c0
          have d1 := (hcwc _ _ zq).trans c1
          have d2 := (hcwc _ _ zq).trans c2
          have d3 := (hcwc _ _ zq).trans c3
          have d4 := (hcwc _ _ zq).trans c4
          have d5 := (hcwc _ _ zq).trans c5'
          have zc := Nat.lt_of_lt_of_le zq hbwc.size
          clear c0 c1 c2 c3 c4 c5' hbwc hcwc hfwc Xq Bq Oq a0 a1 a2 za zq hB1
          cases k1 : less t x.at_
          case true =>
            have g3 : 0 < cmpS x.at_ t := by rw [cmp_gt k1]; omega
            have HG9 := Lib.hid (HG.out.skip HX.out (lat2 := (-1)) (by omega) HP1.out HP2.out)
            have HQ9 : Hid (E = out ++ goneA t K (cs.drop (i + 1))) := Lib.hid (by rw [HQ.out, drop_at HX.out, goneA_no (by unfold le; rw [k1]; simp)])
            have L9 : Hid (out.length ≤ i + 1) := Lib.hid (by have := HOL.out; omega)
            clear HQ HG HOw k1
            go_wp2_with fail
            go_roundw
            case rel => exact ⟨A5, c5, out, i + 1, (-1), K, rfl, by go_num, rfl, by omega, L9, O4, HQ9, HG9, B4⟩
            case measure => simp [intOf]; omega
          have g3 : ¬ (0 < cmpS x.at_ t) := by have := (cmp_le x.at_ t).2 k1; omega
          have g4 : ¬ ((0 : Int) ≤ (-1)) := by omega
          have hKx : K ≠ x.key := HP2.out (by omega)
          by_cases hd : x.del = true
          · have hc : x.key = K ∨ x.del = true := .inr hd
            have HD := Lib.hid hd
            rw [hd] at d5
            clear hd
            have HG9 := Lib.hid (HG.out.take HX.out)
            have HQ9 : Hid (E = (out ++ [x]) ++ goneA t x.key (cs.drop (i + 1))) := Lib.hid (by rw [HQ.out, drop_at HX.out, goneA_yes (by unfold le; rw [k1]; rfl), if_pos hc]; simp)
            have hol : out.length ≤ i := HOL.out
            have hs4 := B4.out.size
            clear HQ HG HOw k1
            go_wp2_with (at_builtin; refine wpList_app styC (.tmp 56) (.tmp 61) rfl rfl w7.heap.size (O4.out.alloc _) rfl 1 1 (rd_frC _ _ _ _) rfl rfl (by simp [Value.oneCell']) (by unfold maxLen; omega) (by omega) (by rw [World.size_alloc]; omega) ?_; intro v5 w5 own5 gr5 nil5 at5; obtain ⟨A6, c6, rfl, -, -⟩ := own_sl own5)
            have B10 := Lib.hid ((B4.out.alloc hs4 _).grown gr5 (by rw [World.size_alloc]; omega) (fun g e => (O4.out.lt g e).1))
            have O10 : Hid (w5.ownsRow w7.heap.size 45 6 (.slice A6 (out.length + 1) c6) (out ++ [x]).length (cev (out ++ [x]))) := Lib.hid (own_eq own5 (by simp) (by rw [cev_app]; first | rfl | (simp [cev, Cel.c, HD.out])))
            go_roundw
            case rel => exact ⟨A6, c6, out ++ [x], i + 1, (i : Int), x.key, by rw [List.length_append]; rfl, by go_num, rfl, by omega, Lib.hid (by rw [List.length_append]; simp only [List.length_cons, List.length_nil]; omega), Lib.hid (by have h := O10.out; rw [List.length_append] at h ⊢; exact h), HQ9, HG9, B10⟩
            case measure => simp [intOf]; omega
          · have hc : ¬ (x.key = K ∨ x.del = true) := fun e => by
              rcases e with e | e
              · exact hKx e.symm
              · exact hd e
            have hd' : x.del = false := by simpa using hd
            rw [hd'] at d5
            clear hd hd'
            have HG9 := Lib.hid (HG.out.take HX.out)
            have HQ9 : Hid (E = out ++ goneA t x.key (cs.drop (i + 1))) := Lib.hid (by rw [HQ.out, drop_at HX.out, goneA_yes (by unfold le; rw [k1]; rfl), if_neg hc]; rfl)
            have L9 : Hid (out.length ≤ i + 1) := Lib.hid (by have := HOL.out; omega)
            clear HQ HG HOw k1
            go_wp2_with fail
            go_roundw
            case rel => exact ⟨A5, c5, out, i + 1, (i : Int), x.key, rfl, by go_num, rfl, by omega, L9, O4, HQ9, HG9, B4⟩
            case measure => simp [intOf]; omega
    · have i1 : ¬ (i : Int) < (n : Int) := by omega
      have SEQ : Hid (E = out) := Lib.hid (by rw [HQ.out, List.drop_eq_nil_of_le (by rw [HL.out]; omega)]; simp [goneA])
      clear HQ HG hlt
      go_wp2_with fail
      go_ret2
      exact ⟨_, by rw [HF0.out] <;> rfl, by rw [SEQ.out]; exact own_base HOw.out B7.out.size, B7.out.trans (hB1.out.mono B7.out.size)⟩
end Go.Proofs.Ytgikaglmeeeplaa
