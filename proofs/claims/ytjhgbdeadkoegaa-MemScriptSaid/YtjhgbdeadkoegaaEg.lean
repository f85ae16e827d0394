/- Walks: small lists; spans; what is visible in a span. -/
import Derived.Test.YtjhgbdeadkoegaaEf
namespace Go.Proofs.Ytjhgbdeadkoegaa
open Go.RowKit Go.St Go.Maps
set_option linter.unusedVariables false
set_option linter.unusedSimpArgs false
set_option maxRecDepth 100000

set_option maxHeartbeats 1600000 in
theorem in_any (k fr to_ : ByteArray) (w : World) : Calls Try.prog 41 #[.string k, .agg #[.string fr, .string to_]] w fun e w' => e = .returned (.bool (inS fr to_ k)) ∧ Below w.heap.size w w' := by
  unfold inS klt
  cases h1 : Op.bytesLess k.toList fr.toList
  · cases h2 : to_.toList.isEmpty
    · cases h3 : Op.bytesLess k.toList to_.toList
      all_goals
        go_enter Try.func41, Try.ntmps41
        go_wp2_with fail
        go_ret
        exact ⟨by simp [*], (Below.refl _ _).alloc (Nat.le_refl _) _⟩
    · go_enter Try.func41, Try.ntmps41
      go_wp2_with fail
      go_ret
      exact ⟨by simp [*], (Below.refl _ _).alloc (Nat.le_refl _) _⟩
  · go_enter Try.func41, Try.ntmps41
    go_wp2_with fail
    go_ret
    exact ⟨by simp [*], (Below.refl _ _).alloc (Nat.le_refl _) _⟩
set_option maxHeartbeats 1600000 in
theorem rin_any (k fr to_ : ByteArray) (w : World) : Calls Try.prog 57 #[.string k, .agg #[.string fr, .string to_]] w fun e w' => e = .returned (.bool (inS fr to_ k)) ∧ Below w.heap.size w w' := by
  unfold inS klt
  cases h1 : Op.bytesLess k.toList fr.toList
  · cases h2 : to_.toList.isEmpty
    · cases h3 : Op.bytesLess k.toList to_.toList
      all_goals
        go_enter Try.func57, Try.ntmps57
        go_wp2_with fail
        go_ret
        exact ⟨by simp [*], (Below.refl _ _).alloc (Nat.le_refl _) _⟩
    · go_enter Try.func57, Try.ntmps57
      go_wp2_with fail
      go_ret
      exact ⟨by simp [*], (Below.refl _ _).alloc (Nat.le_refl _) _⟩
  · go_enter Try.func57, Try.ntmps57
    go_wp2_with fail
    go_ret
    exact ⟨by simp [*], (Below.refl _ _).alloc (Nat.le_refl _) _⟩

theorem visA_fin {fr to_ : ByteArray} {seq : Int} {last : Option ByteArray} {l : List Ent} {i : Nat} (h : l.length ≤ i) : visA fr to_ seq last (l.drop i) = [] := by rw [List.drop_eq_nil_of_le h]; simp [visA]
theorem nil_or_snoc (l : List Ent) : l = [] ∨ ∃ o y, l = o ++ [y] := by
  rcases List.eq_nil_or_concat l with h | ⟨o, y, h⟩
  · exact .inl h
  · exact .inr ⟨o, y, by rw [h, List.concat_eq_append]⟩
theorem lastK_nil : lastK [] = none := rfl
theorem out_len {out : List Ent} {i : Nat} (h : out.length ≤ i) (x : Ent) : (out ++ [x]).length ≤ i + 1 := by rw [List.length_append]; simp only [List.length_cons, List.length_nil]; omega
set_option maxHeartbeats 6400000 in
theorem rinspan_any (A : Option Addr) (n c : Nat) (l : List Ent) (hl : l.length = n) (hn : n ≤ 1000000) (fr to_ : ByteArray) (seq : Int) (B : Nat) (w : World) (hr : Rd w B A (env l)) (hB : B ≤ w.heap.size) :
    Calls Try.prog 56 #[.slice A n c, .agg #[.string fr, .string to_], .int .i64 seq] w fun e w' => ∃ v, e = .returned v ∧ w'.ownsRow w.heap.size 32 4 v (visE fr to_ seq l).length (env (visE fr to_ seq l)) ∧ Below w.heap.size w w' := by
  have HL := Lib.hid hl
  have HR := Lib.hid hr
  clear hl hr
  obtain ⟨E, hE⟩ : ∃ E, E = visE fr to_ seq l := ⟨_, rfl⟩
  rw [← hE]
  have HE : Hid (E = [] ++ visA fr to_ seq (lastK []) (l.drop 0)) := Lib.hid (by rw [hE]; rfl)
  clear hE
  go_enter Try.func56, Try.ntmps56
  go_wp2_with fail
  have X1 : Hid (BxV (w.alloc (.cells #[.string fr, .string to_] 39)) w.heap.size [.string fr, .string to_]) := Lib.hid (BxV.new w _ _)
  have B1 : Hid (Below w.heap.size w (w.alloc (.cells #[.string fr, .string to_] 39))) := Lib.hid ((Below.refl _ _).alloc (Nat.le_refl _) _)
  have hz1 : w.heap.size < (w.alloc (.cells #[.string fr, .string to_] 39)).heap.size := by simp
  generalize w.alloc (.cells #[.string fr, .string to_] 39) = w1 at *
  have R1 := Lib.hid (HR.out.below (B1.out.mono hB))
  have hB1 : B ≤ w1.heap.size := by omega
  clear HR
  go_loopw [7, 8] (fun s7 s8 wr => ∃ (A5 : Option Addr) (c5 : Nat) (out : List Ent) (i : Nat), s7 = .slice A5 out.length c5 ∧ s8 = .int .i64 (i : Int) ∧ i ≤ n ∧ Hid (out.length ≤ i) ∧ Hid (wr.ownsRow w1.heap.size 32 4 (.slice A5 out.length c5) out.length (env out)) ∧ Hid (E = out ++ visA fr to_ seq (lastK out) (l.drop i)) ∧ Hid (Below w1.heap.size w1 wr)) (fun s7 s8 _ => n - (intOf s8).toNat)
  case atStart => exact ⟨none, 0, [], 0, rfl, rfl, Nat.zero_le _, Lib.hid (Nat.le_refl _), Lib.hid (World.ownsRow_nil _ _ _ _), HE, Lib.hid (Below.refl _ _)⟩
  case round =>
    clear HE
    obtain ⟨A5, c5, out, i, rfl, rfl, hi, HOL, HO, HQ, hB2⟩ := hrel
    obtain ⟨w2, rfl⟩ : ∃ x, x = wr := ⟨_, rfl⟩
    by_cases hlt : i < n
    · obtain ⟨x, hx⟩ : ∃ x, l[i]? = some x := ⟨_, List.getElem?_eq_getElem (by rw [HL.out]; exact hlt)⟩
      obtain ⟨b, off, rfl, hb, hce⟩ := en_at R1.out hx
      obtain ⟨d0, d1, d2, d3⟩ := hce.below (Nat.lt_of_lt_of_le hb hB1) hB2.out
      have HX := Lib.hid hx
      have HIN := Lib.hid (fun W => rin_any x.key fr to_ W)
      have zb : b < w2.heap.size := by have := hB2.out.size; omega
      have i1 : (i : Int) < (n : Int) := by omega
      have i0 : (0 : Int) ≤ (i : Int) := by omega
      have j5 : out.length ≤ 1000000 := by have := HOL.out; omega
      clear hce hx
      go_wp2_with fail
      have B3 := hB2
      have B23 := hB2
      have O3 := HO
      have x0 := d0
      have x1 := d1
      have x2 := d2
      have x3 := d3
      have zx := zb
      clear d0 d1 d2 d3 zb hB2 HO
      have XS := Lib.hid (X1.out.below B23.out (by omega))
      have s0 := XS.out.c 0 _ rfl
      have s1 := XS.out.c 1 _ rfl
      have sl := XS.out.lt
      clear XS B23
      by_cases q1 : x.seq ≤ seq
      case neg =>
        have q1' : decide (x.seq ≤ seq) = false := decide_eq_false q1
        cases q2 : inS fr to_ x.key
        · rw [q2] at HIN
          clear q2
          have HQ9 : Hid (E = out ++ visA fr to_ seq (lastK out) (l.drop (i + 1))) := Lib.hid (by rw [HQ.out, drop_at HX.out, visA_no (by rintro ⟨_, h, _⟩; exact q1 h)])
          have L9 : Hid (out.length ≤ i + 1) := Lib.hid (by have := HOL.out; omega)
          clear HQ
          go_wp2_with fail
          refine wp_qall (by kernel_rfl) (by kernel_rfl) ?_
          intro hcg
          repeat (first | go_big_quiet_step ((with_reducible (exact Calls.reg (HIN.out _)))) | quiet_step ((with_reducible (exact Calls.reg (HIN.out _)))))
          refine wpQuiet_nil ?_
          intro wq hbwq hcwq hfwq
          clear hcg
          have B9 := Lib.hid (B3.out.trans (hbwq.mono B3.out.size))
          have O9 := Lib.hid (own_keep O3.out hbwq (Nat.le_refl _))
          clear hbwq hcwq hfwq
          go_wp2_with fail
          go_roundw
          case rel => exact ⟨_, c5, out, i + 1, rfl, by go_num, by omega, L9, O9, HQ9, B9⟩
          case measure => simp [intOf]; omega
        · rw [q2] at HIN
          clear q2
          have HQ9 : Hid (E = out ++ visA fr to_ seq (lastK out) (l.drop (i + 1))) := Lib.hid (by rw [HQ.out, drop_at HX.out, visA_no (by rintro ⟨_, h, _⟩; exact q1 h)])
          have L9 : Hid (out.length ≤ i + 1) := Lib.hid (by have := HOL.out; omega)
          clear HQ
          go_wp2_with fail
          refine wp_qall (by kernel_rfl) (by kernel_rfl) ?_
          intro hcg
          repeat (first | go_big_quiet_step ((with_reducible (exact Calls.reg (HIN.out _)))) | quiet_step ((with_reducible (exact Calls.reg (HIN.out _)))))
          refine wpQuiet_nil ?_
          intro wq hbwq hcwq hfwq
          clear hcg
          have B9 := Lib.hid (B3.out.trans (hbwq.mono B3.out.size))
          have O9 := Lib.hid (own_keep O3.out hbwq (Nat.le_refl _))
          clear hbwq hcwq hfwq
          go_wp2_with fail
          go_roundw
          case rel => exact ⟨_, c5, out, i + 1, rfl, by go_num, by omega, L9, O9, HQ9, B9⟩
          case measure => simp [intOf]; omega
      have q1' : decide (x.seq ≤ seq) = true := decide_eq_true q1
      cases q2 : inS fr to_ x.key
      · rw [q2] at HIN
        have q2' := Lib.hid q2
        clear q2
        have HQ9 : Hid (E = out ++ visA fr to_ seq (lastK out) (l.drop (i + 1))) := Lib.hid (by rw [HQ.out, drop_at HX.out, visA_no (by rintro ⟨h, _⟩; rw [q2'.out] at h; cases h)])
        have L9 : Hid (out.length ≤ i + 1) := Lib.hid (by have := HOL.out; omega)
        clear HQ
        go_wp2_with fail
        refine wp_qall (by kernel_rfl) (by kernel_rfl) ?_
        intro hcg
        repeat (first | go_big_quiet_step ((with_reducible (exact Calls.reg (HIN.out _)))) | quiet_step ((with_reducible (exact Calls.reg (HIN.out _)))))
        refine wpQuiet_nil ?_
        intro wq hbwq hcwq hfwq
        clear hcg
        have B9 := Lib.hid (B3.out.trans (hbwq.mono B3.out.size))
        have O9 := Lib.hid (own_keep O3.out hbwq (Nat.le_refl _))
        clear hbwq hcwq hfwq
        go_wp2_with fail
        go_roundw
        case rel => exact ⟨_, c5, out, i + 1, rfl, by go_num, by omega, L9, O9, HQ9, B9⟩
        case measure => simp [intOf]; omega
      rw [q2] at HIN
      have HQ2 := Lib.hid q2
      have HQ1 := Lib.hid q1
      clear q2
      rcases nil_or_snoc out with ho | ⟨o', y, ho⟩
      · have e0 : ((out.length : Int) == 0) = true := by rw [ho]; rfl
        have HO0 := Lib.hid ho
        clear ho
        have HQ9 : Hid (E = (out ++ [x]) ++ visA fr to_ seq (lastK (out ++ [x])) (l.drop (i + 1))) := Lib.hid (by rw [HQ.out, drop_at HX.out, visA_yes (by exact ⟨HQ2.out, HQ1.out, by rw [HO0.out]; simp [lastK]⟩), lastK_app]; simp)
        have L9 : Hid ((out ++ [x]).length ≤ i + 1) := Lib.hid (out_len HOL.out x)
        have hol : out.length ≤ i := HOL.out
        clear HQ
        go_wp2_with fail
        refine wp_qall (by kernel_rfl) (by kernel_rfl) ?_
        intro hcg
        repeat (first | go_big_quiet_step ((with_reducible (exact Calls.reg (HIN.out _)))) | quiet_step ((with_reducible (exact Calls.reg (HIN.out _)))))
        refine wpQuiet_nil ?_
        intro wq hbwq hcwq hfwq
        clear hcg
        have B9 := Lib.hid (B3.out.trans (hbwq.mono B3.out.size))
        have O9 := Lib.hid (own_keep O3.out hbwq (Nat.le_refl _))
        have hs9 := B9.out.size
        have y0 := (hcwq _ _ zx).trans x0
        have y1 := (hcwq _ _ zx).trans x1
        have y2 := (hcwq _ _ zx).trans x2
        have y3 := (hcwq _ _ zx).trans x3
        clear hbwq hcwq hfwq B3 O3 x0 x1 x2 x3
        go_wp2_with (at_builtin; refine wpList_app styE (.tmp 52) (.tmp 57) rfl rfl w1.heap.size (O9.out.alloc _) rfl 1 1 (rd_frC _ _ _ _) rfl rfl (by simp [Value.oneCell']) (by unfold maxLen; omega) (by omega) (by rw [World.size_alloc]; omega) ?_; intro v5 w5 own5 gr5 nil5 at5; obtain ⟨A6, c6, rfl, -, -⟩ := own_sl own5)
        have B10 := Lib.hid ((B9.out.alloc hs9 _).grown gr5 (by rw [World.size_alloc]; omega) (fun g e => (O9.out.lt g e).1))
        have O10 : Hid (w5.ownsRow w1.heap.size 32 4 (.slice A6 (out ++ [x]).length c6) (out ++ [x]).length (env (out ++ [x]))) := Lib.hid (by
          have h := own_eq own5 (m := (out ++ [x]).length) (ys := env (out ++ [x])) (by simp) (by rw [env_app]; rfl)
          rw [List.length_append] at h ⊢
          exact h)
        clear own5 gr5 nil5 at5
        go_roundw
        case rel => exact ⟨A6, c6, out ++ [x], i + 1, by rw [List.length_append]; rfl, by go_num, by omega, L9, O10, HQ9, B10⟩
        case measure => simp [intOf]; omega
      · have hoy : out[o'.length]? = some y := by rw [ho]; simp
        have hlk : lastK out = some y.key := by rw [ho, lastK_app]
        have hol : out.length = o'.length + 1 := by rw [ho]; simp
        have HLK := Lib.hid hlk
        obtain ⟨A', c', eA, -, rdo⟩ := own_sl O3.out
        injection eA with eA1 _ eA2
        rw [← eA1] at rdo
        clear eA1 eA2
        obtain ⟨g, og, rfl, hg, hyo⟩ := en_at rdo hoy
        have z0 := hyo.c0
        have j2 : (out.length : Int) - 1 = (o'.length : Int) := by omega
        have j3 : (o'.length : Int) < (out.length : Int) := by omega
        have j4 : IntKind.i64.wrap (o'.length : Int) = (o'.length : Int) := IntWalk.i64_in _ (by omega)
        have j6 : (0 : Int) ≤ (o'.length : Int) := by omega
        have e0 : ((out.length : Int) == 0) = false := by rw [beq_eq_false_iff_ne]; omega
        clear hyo rdo hoy hlk ho hol
        by_cases q3 : y.key = x.key
        · have e1 : (y.key.toList == x.key.toList) = true := by rw [str_eqB]; exact decide_eq_true q3
          have e2 : (y.key.toList != x.key.toList) = false := by unfold bne; rw [e1]; rfl
          have HQ3 := Lib.hid q3
          clear q3
          have HQ9 : Hid (E = out ++ visA fr to_ seq (lastK out) (l.drop (i + 1))) := Lib.hid (by rw [HQ.out, drop_at HX.out, visA_no (by rintro ⟨_, _, h⟩; rw [HLK.out, HQ3.out] at h; exact h rfl)])
          have L9 : Hid (out.length ≤ i + 1) := Lib.hid (by have := HOL.out; omega)
          clear HQ
          go_wp2_with fail
          refine wp_qall (by kernel_rfl) (by kernel_rfl) ?_
          intro hcg
          repeat (first | go_big_quiet_step ((with_reducible (exact Calls.reg (HIN.out _)))) | quiet_step ((with_reducible (exact Calls.reg (HIN.out _)))))
          refine wpQuiet_nil ?_
          intro wq hbwq hcwq hfwq
          clear hcg
          have B9 := Lib.hid (B3.out.trans (hbwq.mono B3.out.size))
          have O9 := Lib.hid (own_keep O3.out hbwq (Nat.le_refl _))
          clear hbwq hcwq hfwq
          go_wp2_with fail
          go_roundw
          case rel => exact ⟨_, c5, out, i + 1, rfl, by go_num, by omega, L9, O9, HQ9, B9⟩
          case measure => simp [intOf]; omega
        · have e1 : (y.key.toList == x.key.toList) = false := by rw [str_eqB]; exact decide_eq_false q3
          have e2 : (y.key.toList != x.key.toList) = true := by unfold bne; rw [e1]; rfl
          have HQ3 := Lib.hid q3
          clear q3
          have HQ9 : Hid (E = (out ++ [x]) ++ visA fr to_ seq (lastK (out ++ [x])) (l.drop (i + 1))) := Lib.hid (by rw [HQ.out, drop_at HX.out, visA_yes (by exact ⟨HQ2.out, HQ1.out, by rw [HLK.out]; intro h; injection h with h; exact HQ3.out h⟩), lastK_app]; simp)
          have L9 : Hid ((out ++ [x]).length ≤ i + 1) := Lib.hid (out_len HOL.out x)
          have hol : out.length ≤ i := HOL.out
          clear HQ
          go_wp2_with fail
          refine wp_qall (by kernel_rfl) (by kernel_rfl) ?_
          intro hcg
          repeat (first | go_big_quiet_step ((with_reducible (exact Calls.reg (HIN.out _)))) | quiet_step ((with_reducible (exact Calls.reg (HIN.out _)))))
          refine wpQuiet_nil ?_
          intro wq hbwq hcwq hfwq
          clear hcg
          have B9 := Lib.hid (B3.out.trans (hbwq.mono B3.out.size))
          have O9 := Lib.hid (own_keep O3.out hbwq (Nat.le_refl _))
          have hs9 := B9.out.size
          have y0 := (hcwq _ _ zx).trans x0
          have y1 := (hcwq _ _ zx).trans x1
          have y2 := (hcwq _ _ zx).trans x2
          have y3 := (hcwq _ _ zx).trans x3
          clear hbwq hcwq hfwq B3 O3 x0 x1 x2 x3
          go_wp2_with (at_builtin; refine wpList_app styE (.tmp 52) (.tmp 57) rfl rfl w1.heap.size (O9.out.alloc _) rfl 1 1 (rd_frC _ _ _ _) rfl rfl (by simp [Value.oneCell']) (by unfold maxLen; omega) (by omega) (by rw [World.size_alloc]; omega) ?_; intro v5 w5 own5 gr5 nil5 at5; obtain ⟨A6, c6, rfl, -, -⟩ := own_sl own5)
          have B10 := Lib.hid ((B9.out.alloc hs9 _).grown gr5 (by rw [World.size_alloc]; omega) (fun g e => (O9.out.lt g e).1))
          have O10 : Hid (w5.ownsRow w1.heap.size 32 4 (.slice A6 (out ++ [x]).length c6) (out ++ [x]).length (env (out ++ [x]))) := Lib.hid (by
            have h := own_eq own5 (m := (out ++ [x]).length) (ys := env (out ++ [x])) (by simp) (by rw [env_app]; rfl)
            rw [List.length_append] at h ⊢
            exact h)
          clear own5 gr5 nil5 at5
          go_roundw
          case rel => exact ⟨A6, c6, out ++ [x], i + 1, by rw [List.length_append]; rfl, by go_num, by omega, L9, O10, HQ9, B10⟩
          case measure => simp [intOf]; omega
    · have i1 : ¬ (i : Int) < (n : Int) := by omega
      have SEQ : Hid (E = out) := Lib.hid (by rw [HQ.out, visA_fin (by rw [HL.out]; omega), List.append_nil])
      clear hlt HQ
      go_wp2_with fail
      go_ret
      exact ⟨_, rfl, by rw [SEQ.out]; exact own_base HO.out (by omega), B1.out.trans (hB2.out.mono (by omega))⟩

/-- Are entries gone through? -/
def smlE (e : Ent) : Bool := decide (e.key.size ≤ 600) && decide (e.val.size ≤ 600)
def smallE (l : List Ent) : Bool := l.all smlE && decide (l.length ≤ 70)
end Go.Proofs.Ytjhgbdeadkoegaa
