/- Walks: the document folds entries. -/
import Derived.Test.YtmcpjpkidcbgiaaGa
import Derived.Test.YtmcpjpkidcbgiaaNv
import Derived.Test.YtmcpjpkidcbgiaaEh
import Derived.Test.YtmcpjpkidcbgiaaGf
namespace Go.Proofs.Ytmcpjpkidcbgiaa
open Go.RowKit Go.St Go.Maps
set_option linter.unusedVariables false
set_option linter.unusedSimpArgs false
set_option maxRecDepth 100000

def askV (l : List Ent) (x : Ent) (q : Int) : Bool := isE l x.key q && decide ((fndE l x.key q).seq = x.seq)
def askP (l : List Ent) (i : Nat) (x : Ent) (q : Int) : Bool := decide (x.seq ≤ q) && prB (prO (prev l i) x.key) q
theorem ask_eq {l : List Ent} (h : risE l = true) {i : Nat} {x : Ent} (hx : l[i]? = some x) (q : Int) : askV l x q = askP l i x q := by
  have h1 := ask_doc h hx q
  have h2 : (askV l x q = true) ↔ (∃ y, findE l x.key q = some y ∧ y.seq = x.seq) := by
    unfold askV
    rw [Bool.and_eq_true, decide_eq_true_eq]
    cases hf : findE l x.key q with
    | none => rw [(fnd_none hf).2]; simp
    | some y =>
      rw [(fnd_some hf).1, (fnd_some hf).2]
      simp
  have h3 : (askP l i x q = true) ↔ (∃ y, findE l x.key q = some y ∧ y.seq = x.seq) := h1.symm
  cases h4 : askV l x q
  · cases h5 : askP l i x q
    · rfl
    · rw [h2.2 (h3.1 h5)] at h4; cases h4
  · exact (h3.2 (h2.1 h4)).symm

set_option maxHeartbeats 1600000 in
theorem asked_any (A : Option Addr) (n c : Nat) (l : List Ent) (hl : l.length = n) (hn : n ≤ 1000000) (i : Nat) (x : Ent) (hx : l[i]? = some x) (q : Int) (B : Nat) (w : World) (hr : Rd w B A (env l)) (hB : B ≤ w.heap.size) :
    Calls Try.prog 64 #[.slice A n c, .int .i64 (i : Int), .int .i64 q] w fun e w' => e = .returned (.bool (askV l x q)) ∧ Below w.heap.size w w' := by
  have HV := Lib.hid (fun W h k => rvisible_any A n c l hl hn x.key q B W h k)
  have hin : i < n := by have := (List.getElem?_eq_some_iff.1 hx).1; omega
  have HR := Lib.hid hr
  have HX := Lib.hid hx
  clear hr hl hx
  obtain ⟨E, hE⟩ : ∃ E, E = askV l x q := ⟨_, rfl⟩
  rw [← hE]
  unfold askV at hE
  generalize fndE l x.key q = S at *
  generalize isE l x.key q = I at *
  have HE := Lib.hid hE
  clear hE
  obtain ⟨s1, s2, s3, s4⟩ := S
  unfold Ent.v at HV
  dsimp only at HV HE
  obtain ⟨b, off, rfl, hb, hce⟩ := en_at HR.out HX.out
  have x0 := hce.c0
  have x2 := hce.c2
  have i1 : (i : Int) < (n : Int) := by omega
  have i0 : (0 : Int) ≤ (i : Int) := by omega
  have zb : b < w.heap.size := by omega
  clear hce
  go_enter Try.func64, Try.ntmps64
  go_wp2_with fail
  refine (HV.out w HR.out hB).mono ?_
  rintro e w2 ⟨rfl, hbb⟩
  have B2 := Lib.hid hbb
  have y2 := (hbb.cell (p := ⟨b, off + i * 4 + 2, none⟩) zb).trans x2
  clear hbb x0 x2 HV
  go_upto_region 2 with (fail)
  have hal : Below w2.heap.size w2 (w2.alloc (.cells #[.string s1, .string s2, .int .i64 s3, .bool s4] 43)) := (Below.refl _ _).alloc (Nat.le_refl _) _
  have X3 := Lib.hid (BxV.new w2 #[.string s1, .string s2, .int .i64 s3, .bool s4] 43)
  have z3 : (w2.alloc (.cells #[.string s1, .string s2, .int .i64 s3, .bool s4] 43)).cell? ⟨b, off + i * 4 + 2, none⟩ = some (.int .i64 x.seq) := (hal.cell (p := ⟨b, off + i * 4 + 2, none⟩) (by show b < _; have := B2.out.size; omega)).trans y2
  have B3 := Lib.hid (B2.out.trans (hal.mono B2.out.size))
  clear hal y2 B2
  generalize w2.alloc (.cells #[.string s1, .string s2, .int .i64 s3, .bool s4] 43) = w3 at *
  generalize w2.heap.size = bx at *
  have q2 := X3.out.c 2 _ rfl
  have ql := X3.out.lt
  have zb3 : b < w3.heap.size := by have := B3.out.size; omega
  cases I
  · have HF : Hid (E = false) := Lib.hid (by rw [HE.out]; rfl)
    clear HE
    go_wp2_with fail
    refine wp_qall (by kernel_rfl) (by kernel_rfl) ?_
    intro hcg
    repeat (first | go_big_quiet_step (fail) | quiet_step (fail))
    refine wpQuiet_nil ?_
    intro wq hbwq hcwq hfwq
    clear hcg
    have B9 := Lib.hid (B3.out.trans (hbwq.mono B3.out.size))
    clear hbwq hcwq hfwq
    go_wp2_with fail
    go_ret
    exact ⟨ret_bool HF.out.symm, B9.out⟩
  · have HF : Hid (E = (s3 == x.seq)) := Lib.hid (by rw [HE.out]; simp [BEq.beq])
    clear HE
    go_wp2_with fail
    refine wp_qall (by kernel_rfl) (by kernel_rfl) ?_
    intro hcg
    repeat (first | go_big_quiet_step (fail) | quiet_step (fail))
    refine wpQuiet_nil ?_
    intro wq hbwq hcwq hfwq
    clear hcg
    have B9 := Lib.hid (B3.out.trans (hbwq.mono B3.out.size))
    clear hbwq hcwq hfwq
    go_wp2_with fail
    go_ret
    exact ⟨ret_bool HF.out.symm, B9.out⟩

theorem trA_at {O : List Ent} {m : Nat} {y : Ent} (h : O[m]? = some y) : trA (O.drop m) = if y.del = true ∧ (trA (O.drop (m + 1))).head?.map Ent.key ≠ some y.key then trA (O.drop (m + 1)) else y :: trA (O.drop (m + 1)) := by rw [drop_at h, trA]
theorem head_rev {l : List Ent} {o' : List Ent} {z : Ent} (h : l.reverse = o' ++ [z]) : l.head?.map Ent.key = some z.key := by
  rw [← List.getLast?_reverse, h]
  simp
theorem head_rev0 {l : List Ent} (h : l.reverse = []) : l.head?.map Ent.key = none := by
  rw [List.reverse_eq_nil_iff.1 h]
  rfl
theorem pos_test (m : Nat) : decide ((0 : Int) ≤ (m : Int)) = true := decide_eq_true (by omega)
set_option maxHeartbeats 6400000 in
theorem rfold_any (A : Option Addr) (n c : Nat) (l : List Ent) (hl : l.length = n) (hn : n ≤ 1000000) (hri : risE l = true) (K : Option Addr) (nk ck : Nat) (ks : List Int) (hkl : ks.length = nk) (hnk : nk ≤ 1000000) (last : Bool) (B : Nat) (w : World) (hr : Rd w B A (env l)) (hrk : Rd w B K (nv ks)) (hB : B ≤ w.heap.size) :
    Calls Try.prog 37 #[.slice A n c, .slice K nk ck, .bool last] w fun e w' => ∃ v, e = .returned v ∧ w'.ownsRow w.heap.size 43 4 v (foldE l ks last).length (env (foldE l ks last)) ∧ Below w.heap.size w w' := by
  obtain ⟨p, hp⟩ : ∃ p, p = w.heap.size := ⟨_, rfl⟩
  rw [← hp]
  have hpw : p ≤ w.heap.size := by omega
  have HL := Lib.hid hl
  have KL := Lib.hid hkl
  have HR := Lib.hid (hr.more (show B ≤ p by omega))
  have HK := Lib.hid (hrk.more (show B ≤ p by omega))
  have HASK := Lib.hid (fun i x (hx : l[i]? = some x) q W h k => asked_any A n c l hl hn i x hx q p W h k)
  have HAE := Lib.hid (fun i x (hx : l[i]? = some x) q => ask_eq hri hx q)
  obtain ⟨qs, hqs⟩ : ∃ qs : List Int, qs = 1073741824 :: ks := ⟨_, rfl⟩
  have HFE := Lib.hid (fold_eq hri ks last)
  rw [← hqs] at HFE
  obtain ⟨E, hE⟩ : ∃ E, E = foldE l ks last := ⟨_, rfl⟩
  rw [← hE] at HFE ⊢
  obtain ⟨O, hO⟩ : ∃ O, O = stA qs none l := ⟨_, rfl⟩
  rw [← hO] at HFE
  have HO0 : Hid (O = [] ++ stA qs (prev l 0) (l.drop 0)) := Lib.hid (by rw [hO]; rfl)
  have HOL : O.length ≤ n := by rw [hO, ← HL.out]; exact (stA_sub qs none l).length_le
  have HQS := Lib.hid hqs
  clear hl hkl hr hrk hE hO hqs hp
  go_enter Try.func37, Try.ntmps37
  go_wp2_with fail
  go_loopw [7, 8] (fun s7 s8 wr => ∃ (A7 : Option Addr) (c7 : Nat) (out : List Ent) (i : Nat), s7 = .slice A7 out.length c7 ∧ s8 = .int .i64 (i : Int) ∧ i ≤ n ∧ out.length ≤ i ∧ Hid (wr.ownsRow p 43 4 (.slice A7 out.length c7) out.length (env out)) ∧ Hid (O = out ++ stA qs (prev l i) (l.drop i)) ∧ Hid (Below p w wr)) (fun _ s8 _ => n - (intOf s8).toNat)
  case atStart => exact ⟨none, 0, [], 0, rfl, rfl, Nat.zero_le _, Nat.zero_le _, Lib.hid (World.ownsRow_nil _ _ _ _), HO0, Lib.hid (Below.refl _ _)⟩
  case round =>
    clear HO0
    obtain ⟨A7, c7, out, i, rfl, rfl, hi, hoi, OW, HO, B2⟩ := hrel
    obtain ⟨w2, rfl⟩ : ∃ x, x = wr := ⟨_, rfl⟩
    have hz2 : p ≤ w2.heap.size := by have := B2.out.size; omega
    by_cases hlt : i < n
    · obtain ⟨x, hx⟩ : ∃ x, l[i]? = some x := ⟨_, List.getElem?_eq_getElem (by rw [HL.out]; exact hlt)⟩
      have HX := Lib.hid hx
      have HA := Lib.hid (fun q W h k => HASK.out i x hx q W h k)
      have HAP := Lib.hid (fun q => HAE.out i x hx q)
      have HST := Lib.hid (stA_at qs hx)
      have i1 : (i : Int) < (n : Int) := by omega
      have i0 : (0 : Int) ≤ (i : Int) := by omega
      clear hx
      go_wp2_with fail
      refine (HA.out 1073741824 w2 (HR.out.below B2.out) hz2).mono ?_
      rintro e w3 ⟨rfl, hb⟩
      rw [HAP.out]
      have B3 := Lib.hid (B2.out.trans (hb.mono hz2))
      have O3 := Lib.hid (own_keep OW.out hb (Nat.le_refl _))
      have hz3 : p ≤ w3.heap.size := Nat.le_trans hz2 hb.size
      clear hb B2 OW hz2
      obtain ⟨b0, hb0⟩ : ∃ b, b = askP l i x 1073741824 := ⟨_, rfl⟩
      rw [← hb0]
      have HB0 : Hid (b0 = (qs.take (0 + 1)).any (askP l i x)) := Lib.hid (by rw [hb0, HQS.out]; simp)
      clear hb0
      go_wp2_with fail
      go_loopw [9, 10] (fun s9 s10 wr => ∃ (b : Bool) (k : Nat), s9 = .bool b ∧ s10 = .int .i64 (k : Int) ∧ k ≤ nk ∧ Hid (b = (qs.take (k + 1)).any (askP l i x)) ∧ Hid (wr.ownsRow p 43 4 (.slice A7 out.length c7) out.length (env out)) ∧ Hid (Below p w wr)) (fun _ s10 _ => nk - (intOf s10).toNat)
      case atStart => exact ⟨b0, 0, rfl, rfl, Nat.zero_le _, HB0, O3, B3⟩
      case round =>
        clear HB0 O3 B3 hz3
        obtain ⟨b, k, rfl, rfl, hk, HB, O4, B4⟩ := hrel
        obtain ⟨w4, rfl⟩ : ∃ x, x = wr := ⟨_, rfl⟩
        have hz4 : p ≤ w4.heap.size := by have := B4.out.size; omega
        by_cases hkn : k < nk
        · obtain ⟨q, hq⟩ : ∃ q, ks[k]? = some q := ⟨_, List.getElem?_eq_getElem (by rw [KL.out]; exact hkn)⟩
          have HTK : Hid (qs.take (k + 1 + 1) = qs.take (k + 1) ++ [q]) := Lib.hid (by
            rw [List.take_add_one (l := qs), HQS.out, List.getElem?_cons_succ, hq]
            rfl)
          obtain ⟨bq, oq, rfl, hbq, hcq⟩ := (HK.out.below B4.out).at_ (nv_get hq)
          have k1 : (k : Int) < (nk : Int) := by omega
          have k0 : (0 : Int) ≤ (k : Int) := by omega
          have zbq : bq < w4.heap.size := by omega
          clear hq
          cases b
          · have HB9 : Hid (askP l i x q = (qs.take (k + 1 + 1)).any (askP l i x)) := Lib.hid (by rw [HTK.out, List.any_append, ← HB.out]; simp)
            clear HB HTK
            go_wp2_with fail
            refine (HA.out q w4 (HR.out.below B4.out) hz4).mono ?_
            rintro e w5 ⟨rfl, hb⟩
            rw [HAP.out]
            have B5 := Lib.hid (B4.out.trans (hb.mono hz4))
            have O5 := Lib.hid (own_keep O4.out hb (Nat.le_refl _))
            clear hb B4 O4 hcq
            generalize askP l i x q = bq' at *
            go_wp2_with fail
            go_roundw
            case rel => exact ⟨bq', k + 1, (by first | rfl | simp), by go_num, by omega, HB9, O5, B5⟩
            case measure => (first | (simp [intOf]; done) | (simp [intOf]; omega))
          · have HB9 : Hid (true = (qs.take (k + 1 + 1)).any (askP l i x)) := Lib.hid (by rw [HTK.out, List.any_append, ← HB.out]; rfl)
            clear HB HTK
            go_wp2_with fail
            go_roundw
            case rel => exact ⟨true, k + 1, rfl, by go_num, by omega, HB9, O4, B4⟩
            case measure => (first | (simp [intOf]; done) | (simp [intOf]; omega))
        · have k1 : ¬ (k : Int) < (nk : Int) := by omega
          have HBA : Hid (b = askB qs (prO (prev l i) x.key) x.seq) := Lib.hid (by
            rw [HB.out, List.take_of_length_le (by rw [HQS.out, List.length_cons, KL.out]; omega)]
            rfl)
          clear HB
          cases b
          · have HO9 : Hid (O = out ++ stA qs (prev l (i + 1)) (l.drop (i + 1))) := Lib.hid (by rw [HO.out, HST.out, ← HBA.out]; rfl)
            clear HO HST HBA
            go_wp2_with fail
            go_roundw
            case rel => exact ⟨A7, c7, out, i + 1, rfl, by go_num, by omega, by omega, O4, HO9, B4⟩
            case measure => (first | (simp [intOf]; done) | (simp [intOf]; omega))
          · have HO9 : Hid (O = (out ++ [x]) ++ stA qs (prev l (i + 1)) (l.drop (i + 1))) := Lib.hid (by rw [HO.out, HST.out, ← HBA.out]; simp)
            obtain ⟨bx, ox, rfl, hbx, hce⟩ := en_at (HR.out.below B4.out) HX.out
            obtain ⟨x0, x1, x2, x3⟩ := hce
            have zbx : bx < w4.heap.size := by omega
            clear HO HST HBA
            go_wp2_with (at_builtin; refine wpList_app styE (.tmp 42) (.tmp 47) rfl rfl p (O4.out.alloc _) rfl 1 1 (rd_frC _ _ _ _) rfl rfl (by simp [Value.oneCell']) (by unfold maxLen; omega) (by omega) (by rw [World.size_alloc]; omega) ?_; intro v5 w5 own5 gr5 nil5 at5; obtain ⟨A6, c6, rfl, -, -⟩ := own_sl own5)
            have B10 := Lib.hid ((B4.out.alloc hz4 _).grown gr5 (by rw [World.size_alloc]; omega) (fun g e => (O4.out.lt g e).1))
            have O10 : Hid (w5.ownsRow p 43 4 (.slice A6 (out ++ [x]).length c6) (out ++ [x]).length (env (out ++ [x]))) := Lib.hid (by
              have h := own_eq own5 (m := (out ++ [x]).length) (ys := env (out ++ [x])) (by simp) (by rw [env_app]; rfl)
              rw [List.length_append] at h ⊢
              exact h)
            clear own5 gr5 nil5 at5
            go_roundw
            case rel => exact ⟨A6, c6, out ++ [x], i + 1, by rw [List.length_append]; rfl, by go_num, by omega, out_len hoi x, O10, HO9, B10⟩
            case measure => (first | (simp [intOf]; done) | (simp [intOf]; omega))
    · have i1 : ¬ (i : Int) < (n : Int) := by omega
      have HOE : Hid (out = O) := Lib.hid (by rw [HO.out, List.drop_eq_nil_of_le (by rw [HL.out]; omega)]; simp [stA])
      clear HO hlt hoi
      rw [HOE.out] at OW ⊢
      cases last
      · have HEO : Hid (E = O) := Lib.hid HFE.out
        clear HFE
        go_wp2_with fail
        go_ret
        exact ⟨_, rfl, by rw [HEO.out]; exact OW.out, B2.out⟩
      · have HEO : Hid (E = trA O) := Lib.hid HFE.out
        have hw1 : IntKind.i64.wrap ((O.length : Int) - 1) = (O.length : Int) - 1 := IntWalk.i64_in _ (by omega)
        obtain ⟨w4, rfl⟩ : ∃ x, x = w2 := ⟨_, rfl⟩
        clear HFE
        go_wp2_with fail
        go_loopw [11, 12] (fun s11 s12 wr => ∃ (A11 : Option Addr) (c11 : Nat) (R : List Ent) (m : Nat), s11 = .slice A11 R.length c11 ∧ s12 = .int .i64 ((m : Int) - 1) ∧ m ≤ O.length ∧ R.length ≤ O.length - m ∧ Hid (wr.ownsRow w4.heap.size 43 4 (.slice A11 R.length c11) R.length (env R)) ∧ Hid (R = (trA (O.drop m)).reverse) ∧ Hid (Below w4.heap.size w4 wr)) (fun _ s12 _ => (intOf s12 + 1).toNat)
        case atStart => exact ⟨none, 0, [], O.length, rfl, rfl, Nat.le_refl _, by simp, Lib.hid (World.ownsRow_nil _ _ _ _), Lib.hid (by rw [List.drop_length]; rfl), Lib.hid (Below.refl _ _)⟩
        case round =>
          clear hw1
          obtain ⟨A11, c11, R, m, rfl, rfl, hm, hRm, OS, HRR, B8⟩ := hrel
          obtain ⟨w8, rfl⟩ : ∃ x, x = wr := ⟨_, rfl⟩
          have hz8 := B8.out.size
          cases m with
          | zero =>
            have m1 : ¬ (0 : Int) ≤ ((0 : Nat) : Int) - 1 := by omega
            have HRE : Hid (R = (trA O).reverse) := Lib.hid HRR.out
            have hw1 : IntKind.i64.wrap ((R.length : Int) - 1) = (R.length : Int) - 1 := IntWalk.i64_in _ (by omega)
            have B9 := Lib.hid (B2.out.trans (B8.out.mono hz2))
            clear HRR B8
            go_wp2_with fail
            go_loopw [14, 15] (fun s14 s15 wr => ∃ (A14 : Option Addr) (c14 : Nat) (t m : Nat), s14 = .slice A14 t c14 ∧ s15 = .int .i64 ((m : Int) - 1) ∧ m ≤ R.length ∧ t + m = R.length ∧ Hid (wr.ownsRow w8.heap.size 43 4 (.slice A14 t c14) t (env (R.drop m).reverse)) ∧ Hid (Below w8.heap.size w8 wr)) (fun _ s15 _ => (intOf s15 + 1).toNat)
            case atStart => exact ⟨none, 0, 0, R.length, rfl, rfl, Nat.le_refl _, by omega, Lib.hid (by rw [List.drop_length]; exact World.ownsRow_nil _ _ _ _), Lib.hid (Below.refl _ _)⟩
            case round =>
              clear hw1
              obtain ⟨A14, c14, t, m, rfl, rfl, hm2, htm, OT, B10⟩ := hrel
              obtain ⟨w9, rfl⟩ : ∃ x, x = wr := ⟨_, rfl⟩
              have hz10 := B10.out.size
              cases m with
              | zero =>
                have m2 : ¬ (0 : Int) ≤ ((0 : Nat) : Int) - 1 := by omega
                have HER : Hid (env (R.drop 0).reverse = env E) := Lib.hid (by rw [HEO.out, List.drop_zero, HRE.out, List.reverse_reverse])
                have HTL : Hid (t = E.length) := Lib.hid (by rw [HEO.out, ← List.length_reverse, ← HRE.out]; omega)
                go_wp2_with fail
                go_ret
                exact ⟨_, rfl, by rw [← HER.out, ← HTL.out]; exact own_base OT.out (by omega), B9.out.trans (B10.out.mono (by omega))⟩
              | succ m =>
                rw [show (((m + 1 : Nat) : Int) - 1) = (m : Int) by omega]
                obtain ⟨y, hy⟩ : ∃ y, R[m]? = some y := ⟨_, List.getElem?_eq_getElem (by omega)⟩
                obtain ⟨b, off, rfl, hb, hce⟩ := en_at ((own_rdq OS.out).below B10.out) hy
                obtain ⟨y0, y1, y2, y3⟩ := hce
                have HDR : Hid (env (R.drop m).reverse = env (R.drop (m + 1)).reverse ++ y.c) := Lib.hid (by rw [drop_at hy, List.reverse_cons, env_app]; simp [env])
                have m1 : (0 : Int) ≤ (m : Int) := by omega
                have m2 : (m : Int) < (R.length : Int) := by omega
                have m3 : IntKind.i64.wrap ((m : Int) - 1) = (m : Int) - 1 := IntWalk.i64_in _ (by omega)
                have zb : b < w9.heap.size := by omega
                clear hy
                go_wp2_with (at_builtin; refine wpList_app styE (.tmp 99) (.tmp 104) rfl rfl w8.heap.size (OT.out.alloc _) rfl 1 1 (rd_frC _ _ _ _) rfl rfl (by simp [Value.oneCell']) (by unfold maxLen; omega) (by omega) (by rw [World.size_alloc]; omega) ?_; intro v5 w5 own5 gr5 nil5 at5; obtain ⟨A6, c6, rfl, -, -⟩ := own_sl own5)
                have B11 := Lib.hid ((B10.out.alloc hz10 _).grown gr5 (by rw [World.size_alloc]; omega) (fun g e => (OT.out.lt g e).1))
                have O11 : Hid (w5.ownsRow w8.heap.size 43 4 (.slice A6 (t + 1) c6) (t + 1) (env (R.drop m).reverse)) := Lib.hid (own_eq own5 rfl (by rw [HDR.out]; rfl))
                clear own5 gr5 nil5 at5
                go_roundw
                case rel => exact ⟨A6, c6, t + 1, m, rfl, rfl, by omega, by omega, O11, B11⟩
                case measure => (first | (simp [intOf]; done) | (simp [intOf]; omega))
          | succ m =>
            rw [show (((m + 1 : Nat) : Int) - 1) = (m : Int) by omega]
            obtain ⟨y, hy⟩ : ∃ y, O[m]? = some y := ⟨_, List.getElem?_eq_getElem (by omega)⟩
            obtain ⟨by_, oy, rfl, hby, hce⟩ := en_at ((own_rdq OW.out).below B8.out) hy
            obtain ⟨y0, y1, y2, y3⟩ := hce
            have HY := Lib.hid hy
            have m1 : (0 : Int) ≤ (m : Int) := by omega
            have m2 : (m : Int) < (O.length : Int) := by omega
            have m3 : IntKind.i64.wrap ((m : Int) - 1) = (m : Int) - 1 := IntWalk.i64_in _ (by omega)
            have zy : by_ < w8.heap.size := by omega
            have HYC : Hid (y.c = [.string y.key, .string y.val, .int .i64 y.seq, .bool y.del]) := Lib.hid rfl
            clear hy
            cases hyd : y.del
            · rw [hyd] at y3
              have HYD := Lib.hid hyd
              have HYE : Hid (env [y] = [.string y.key, .string y.val, .int .i64 y.seq, .bool false]) := Lib.hid (by simp [env, Ent.c, hyd])
              clear hyd
              have HR9 : Hid (R ++ [y] = (trA (O.drop m)).reverse) := Lib.hid (by rw [trA_at HY.out, if_neg (by rintro ⟨h, _⟩; rw [HYD.out] at h; cases h), List.reverse_cons, ← HRR.out])
              go_wp2_with fail
              refine wp_qall (by kernel_rfl) (by kernel_rfl) ?_
              intro hcg
              repeat (first | go_big_quiet_step (fail) | quiet_step (fail))
              refine wpQuiet_nil ?_
              intro wq hbwq hcwq hfwq
              clear hcg
              have B9 := Lib.hid (B8.out.trans (hbwq.mono (by omega)))
              have OS9 := Lib.hid (own_keep OS.out hbwq (Nat.le_refl _))
              have hz9 : w4.heap.size ≤ wq.heap.size := B9.out.size
              have v0 := (hcwq _ _ zy).trans y0
              have v1 := (hcwq _ _ zy).trans y1
              have v2 := (hcwq _ _ zy).trans y2
              have v3 := (hcwq _ _ zy).trans y3
              clear hbwq hcwq hfwq y0 y1 y2 y3
              go_wp2_with (at_builtin; refine wpList_app styE (.tmp 85) (.tmp 90) rfl rfl w4.heap.size (OS9.out.alloc _) rfl 1 1 (rd_frC _ _ _ _) rfl rfl (by simp [Value.oneCell']) (by unfold maxLen; omega) (by omega) (by rw [World.size_alloc]; omega) ?_; intro v5 w5 own5 gr5 nil5 at5; obtain ⟨A6, c6, rfl, -, -⟩ := own_sl own5)
              have B10 := Lib.hid ((B9.out.alloc hz9 _).grown gr5 (by rw [World.size_alloc]; omega) (fun g e => (OS9.out.lt g e).1))
              have O10 : Hid (w5.ownsRow w4.heap.size 43 4 (.slice A6 (R ++ [y]).length c6) (R ++ [y]).length (env (R ++ [y]))) := Lib.hid (by
                have h := own_eq own5 (m := (R ++ [y]).length) (ys := env (R ++ [y])) (by simp) (by rw [env_app]; rw [HYE.out])
                rw [List.length_append] at h ⊢
                exact h)
              clear own5 gr5 nil5 at5
              go_roundw
              case rel => exact ⟨A6, c6, R ++ [y], m, by rw [List.length_append]; rfl, rfl, by omega, by rw [List.length_append]; simp only [List.length_cons, List.length_nil]; omega, O10, HR9, B10⟩
              case measure => (first | (simp [intOf]; done) | (simp [intOf]; omega))
            · rw [hyd] at y3
              have HYD := Lib.hid hyd
              have HYE : Hid (env [y] = [.string y.key, .string y.val, .int .i64 y.seq, .bool true]) := Lib.hid (by simp [env, Ent.c, hyd])
              clear hyd
              rcases nil_or_snoc R with ho | ⟨o', z, ho⟩
              · have HH := Lib.hid (head_rev0 (HRR.out.symm.trans ho))
                have e0 : ¬ (0 : Int) < (R.length : Int) := by rw [ho]; simp
                have e1 : decide ((0 : Int) < (R.length : Int)) = false := decide_eq_false e0
                have e2 : decide (0 < R.length) = false := by rw [ho]; rfl
                clear ho
                have HR9 : Hid (R = (trA (O.drop m)).reverse) := Lib.hid (by rw [trA_at HY.out, if_pos (⟨HYD.out, by rw [HH.out]; simp⟩)]; exact HRR.out)
                go_wp2_with fail
                refine wp_qall (by kernel_rfl) (by kernel_rfl) ?_
                intro hcg
                repeat (first | go_big_quiet_step (fail) | quiet_step (fail))
                refine wpQuiet_nil ?_
                intro wq hbwq hcwq hfwq
                clear hcg
                have B9 := Lib.hid (B8.out.trans (hbwq.mono (by omega)))
                have OS9 := Lib.hid (own_keep OS.out hbwq (Nat.le_refl _))
                clear hbwq hcwq hfwq
                go_wp2_with fail
                go_roundw
                case rel => exact ⟨A11, c11, R, m, rfl, rfl, by omega, by omega, OS9, HR9, B9⟩
                case measure => (first | (simp [intOf]; done) | (simp [intOf]; omega))
              · have HH := Lib.hid (head_rev (HRR.out.symm.trans ho))
                have hoz : R[o'.length]? = some z := by rw [ho]; simp
                have hol : R.length = o'.length + 1 := by rw [ho]; simp
                obtain ⟨gz, oz, ez, hgz, hzo⟩ := en_at (own_rdq OS.out) hoz
                have z0 := hzo.c0
                have k2 : (R.length : Int) - 1 = (o'.length : Int) := by omega
                have k3 : (o'.length : Int) < (R.length : Int) := by omega
                have k4 : IntKind.i64.wrap (o'.length : Int) = (o'.length : Int) := IntWalk.i64_in _ (by omega)
                have k6 : (0 : Int) ≤ (o'.length : Int) := by omega
                have e0 : (0 : Int) < (R.length : Int) := by omega
                have e1 : decide ((0 : Int) < (R.length : Int)) = true := decide_eq_true e0
                have e2 : decide (0 < R.length) = true := by rw [hol]; simp
                clear hzo hoz ho hol
                subst ez
                by_cases hzk : z.key = y.key
                · have HZK := Lib.hid hzk
                  have e3 : (z.key.toList == y.key.toList) = true := by rw [str_eqB]; exact decide_eq_true hzk
                  clear hzk
                  have HR9 : Hid (R ++ [y] = (trA (O.drop m)).reverse) := Lib.hid (by rw [trA_at HY.out, if_neg (by rintro ⟨_, h⟩; rw [HH.out] at h; exact h (by rw [HZK.out])), List.reverse_cons, ← HRR.out])
                  go_wp2_with fail
                  refine wp_qall (by kernel_rfl) (by kernel_rfl) ?_
                  intro hcg
                  repeat (first | go_big_quiet_step (fail) | quiet_step (fail))
                  refine wpQuiet_nil ?_
                  intro wq hbwq hcwq hfwq
                  clear hcg
                  have B9 := Lib.hid (B8.out.trans (hbwq.mono (by omega)))
                  have OS9 := Lib.hid (own_keep OS.out hbwq (Nat.le_refl _))
                  have hz9 : w4.heap.size ≤ wq.heap.size := B9.out.size
                  have v0 := (hcwq _ _ zy).trans y0
                  have v1 := (hcwq _ _ zy).trans y1
                  have v2 := (hcwq _ _ zy).trans y2
                  have v3 := (hcwq _ _ zy).trans y3
                  clear hbwq hcwq hfwq y0 y1 y2 y3
                  go_wp2_with (at_builtin; refine wpList_app styE (.tmp 85) (.tmp 90) rfl rfl w4.heap.size (OS9.out.alloc _) rfl 1 1 (rd_frC _ _ _ _) rfl rfl (by simp [Value.oneCell']) (by unfold maxLen; omega) (by omega) (by rw [World.size_alloc]; omega) ?_; intro v5 w5 own5 gr5 nil5 at5; obtain ⟨A6, c6, rfl, -, -⟩ := own_sl own5)
                  have B10 := Lib.hid ((B9.out.alloc hz9 _).grown gr5 (by rw [World.size_alloc]; omega) (fun g e => (OS9.out.lt g e).1))
                  have O10 : Hid (w5.ownsRow w4.heap.size 43 4 (.slice A6 (R ++ [y]).length c6) (R ++ [y]).length (env (R ++ [y]))) := Lib.hid (by
                    have h := own_eq own5 (m := (R ++ [y]).length) (ys := env (R ++ [y])) (by simp) (by rw [env_app]; rw [HYE.out])
                    rw [List.length_append] at h ⊢
                    exact h)
                  clear own5 gr5 nil5 at5
                  go_roundw
                  case rel => exact ⟨A6, c6, R ++ [y], m, by rw [List.length_append]; rfl, rfl, by omega, by rw [List.length_append]; simp only [List.length_cons, List.length_nil]; omega, O10, HR9, B10⟩
                  case measure => (first | (simp [intOf]; done) | (simp [intOf]; omega))
                · have HZK := Lib.hid hzk
                  have e3 : (z.key.toList == y.key.toList) = false := by rw [str_eqB]; exact decide_eq_false hzk
                  clear hzk
                  obtain ⟨A11, hA11⟩ : ∃ A, A = some (⟨gz, oz, none⟩ : Addr) := ⟨_, rfl⟩
                  have HR9 : Hid (R = (trA (O.drop m)).reverse) := Lib.hid (by rw [trA_at HY.out, if_pos ⟨HYD.out, by rw [HH.out]; intro h; injection h with h; exact HZK.out h⟩]; exact HRR.out)
                  go_wp2_with fail
                  refine wp_qall (by kernel_rfl) (by kernel_rfl) ?_
                  intro hcg
                  repeat (first | go_big_quiet_step (fail) | quiet_step (fail))
                  refine wpQuiet_nil ?_
                  intro wq hbwq hcwq hfwq
                  clear hcg
                  have B9 := Lib.hid (B8.out.trans (hbwq.mono (by omega)))
                  have OS9 := Lib.hid (own_keep OS.out hbwq (Nat.le_refl _))
                  clear hbwq hcwq hfwq
                  go_wp2_with fail
                  go_roundw
                  case rel => exact ⟨_, c11, R, m, rfl, rfl, by omega, by omega, OS9, HR9, B9⟩
                  case measure => (first | (simp [intOf]; done) | (simp [intOf]; omega))
end Go.Proofs.Ytmcpjpkidcbgiaa
