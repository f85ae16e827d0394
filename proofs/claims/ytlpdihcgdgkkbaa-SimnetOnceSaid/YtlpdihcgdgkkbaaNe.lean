/- Walks: a net's All; gone over, up to some, and again. -/
import Derived.Test.YtlpdihcgdgkkbaaSy
import Derived.Test.YtlpdihcgdgkkbaaPick
namespace Go.Proofs.Ytlpdihcgdgkkbaa
open Go.RowKit Go.St Go.Shelf
set_option linter.unusedVariables false
set_option linter.unusedSimpArgs false
set_option maxRecDepth 100000
attribute [local go_sem] Oper.semAt_some

theorem sall_net {W : World} {base b : Nat} {v : Value} {F : Nat → Prop} {s : Nt} (h : NetP W base b v F s) (hw : s.WF) :
    Calls Try.prog 56 #[.pointer (some ⟨b, 0, none⟩)] W fun e w' => ∃ Bx A' c' l', e = .returned (.func (.func 87) #[] #[.pointer (some ⟨Bx, 0, none⟩)]) ∧ l'.map Ltr.k = s.ks ∧ w'.cell? ⟨Bx, 0, none⟩ = some (.slice A' s.ks.length c') ∧ Rd w' w'.heap.size A' (lv l') ∧ Bx < w'.heap.size ∧ Below W.heap.size W w' := by
  have H := Lib.hid (sflight_any h hw); clear h
  go_enter Try.func56, Try.ntmps56
  go_wp2_with fail
  refine H.out.mono ?_
  rintro e w1 ⟨v1, l1, rfl, hk, ho, hf, hb⟩
  obtain ⟨A1, c1, rfl, -, -⟩ := own_sl ho
  have hlen : l1.length = s.ks.length := by rw [← hk, List.length_map]
  have HR := Lib.hid (hf.rdL ho)
  have HK := Lib.hid hk
  have HB := Lib.hid hb
  rw [hlen]
  clear H ho hf hk hb hlen
  go_wp2
  go_ret
  refine ⟨w1.heap.size, A1, c1, l1, rfl, HK.out, by simp, ?_, by simp, HB.out.alloc HB.out.size _⟩
  exact (HR.out.row.alloc (Nat.le_refl _) _).more (by simp)
theorem range_empty {ps : Array Tmp} {assign body : Code} {Q : Exit → Act → World → Prop} {a : Act} {w : World} (g : Operand) (Bx : Nat) (A : Option Addr) (c : Nat)
    (hg : a.eval g = .func (.func 87) #[] #[.pointer (some ⟨Bx, 0, none⟩)]) (hps : ps.size ≤ 1)
    (hBx : w.cell? ⟨Bx, 0, none⟩ = some (.slice A 0 c)) (hlt : Bx < w.heap.size)
    (h : ∀ W, Below w.heap.size w W → W.heap[w.heap.size]? = some (.deferred (some [])) → Q .normal { a with defers := { target := .collected w.heap.size, args := #[] } :: a.defers } W) :
    (Code.rangeFunc g ps assign body).wp Try.prog Q a w := by
  refine (wpIn_wide (n := 3)).1 ?_
  refine range_all 3 (Nat.le_refl _) g 0 Bx w.heap.size A 0 c [] hg (by omega) rfl (by omega) hBx hlt Rd.nil (Nat.le_refl _) (fun _ W => Below w.heap.size w W) (fun _ => False) (fun k W W' h1 h2 => h1.trans h2) (fun W W' h _ => h.elim) (Below.refl _ _) (fun l k x hk => by simp at hk) h (fun W h => h.elim)
/-- What gone has at hand ahead of its rounds. -/
structure G9 (W : World) (q Bx mb n cw c' : Nat) (M : Int) (Aw A' : Option Addr) (lw l' : List Ltr) : Prop where
  q0 : W.cell? ⟨q, 0, none⟩ = some (.slice Aw n cw)
  q1 : W.cell? ⟨q + 1, 0, none⟩ = some (.bool false)
  qf : W.frozen? ⟨q + 1, 0, none⟩ = false
  lq : q + 1 < W.heap.size
  m0 : W.cell? ⟨mb, 0, none⟩ = some (.int .i64 M)
  lm : mb < W.heap.size
  bx : W.cell? ⟨Bx, 0, none⟩ = some (.slice A' n c')
  lb : Bx < W.heap.size
  rw_ : Rd W W.heap.size Aw (lv lw)
  ra : Rd W W.heap.size A' (lv l')
theorem G9.next {W W' : World} {q Bx mb n cw c' : Nat} {M : Int} {Aw A' : Option Addr} {lw l' : List Ltr} (h : G9 W q Bx mb n cw c' M Aw A' lw l') (hb : Below W.heap.size W W') : G9 W' q Bx mb n cw c' M Aw A' lw l' := by
  have hc := fun k (hk : k < W.heap.size) o => hb.cell (p := ⟨k, o, none⟩) hk
  have h1 := h.lq
  exact ⟨(hc q (by omega) 0).trans h.q0, (hc _ h.lq 0).trans h.q1, (hb.frozen (p := ⟨q + 1, 0, none⟩) h.lq).trans h.qf, Nat.lt_of_lt_of_le h.lq hb.size, (hc _ h.lm 0).trans h.m0, Nat.lt_of_lt_of_le h.lm hb.size, (hc _ h.lb 0).trans h.bx, Nat.lt_of_lt_of_le h.lb hb.size, (h.rw_.below hb).more hb.size, (h.ra.below hb).more hb.size⟩
theorem leave55 {n : Nat} {W : World} {tmps : Array Value} {R : Ending → World → Prop} {r0 : Nat} (h4 : tmps.getD 6 undef = .pointer (some ⟨r0, 0, none⟩)) (hc : W.cell? ⟨r0, 0, none⟩ = some (.bool true)) (hR : R (.returned (.bool true)) W) :
    LeavesInM Fence.wide n Try.prog Try.f55 tmps R [] .returning W := by
  refine ⟨.bool true, ?_, hR⟩
  unfold results
  rw [show Try.f55.results = #[.cell 6 4] from rfl]
  have h5 : tmps[6]?.getD undef = .pointer (some ⟨r0, 0, none⟩) := by simpa using h4
  simp [go_sem, h5, hc]
set_option maxHeartbeats 3200000 in
theorem gone0_any {W : World} {base b : Nat} {v : Value} {F : Nat → Prop} {s : Nt} (h : NetP W base b v F s) (hw : s.WF) (Aw : Option Addr) (cw n : Nat) (lw : List Ltr) (hn : s.ks.length = n) (hlw : lw.map Ltr.k = s.ks) (hrd : Rd W W.heap.size Aw (lv lw)) (stop : Int) (hst : -9223372036854775808 ≤ stop ∧ stop ≤ 9223372036854775807) (h0 : n = 0) :
    Calls Try.prog 55 #[.pointer (some ⟨b, 0, none⟩), .slice Aw n cw, .int .i64 stop] W fun e w' => e = .returned (.bool true) ∧ Below W.heap.size W w' := by
  subst h0
  have hn8 : (0 : Nat) ≤ 2048 := by omega
  have HA := Lib.hid (fun W' (k : Below W.heap.size W W') => sall_net (h.next k) hw)
  rw [hn] at HA
  have HLW := Lib.hid hlw
  have HRD := Lib.hid hrd
  have HN := Lib.hid hn
  clear h hw hlw hrd hn
  refine (callsIn_wide (n := 8)).1 ?_
  refine callsIn_of_wp_marks Try.func55 rfl trivial ?_ rfl
  simp only [Try.ntmps55, List.size_toArray, List.length_cons, List.length_nil, Nat.reduceAdd, Nat.reduceSub, Array.replicate_succ, Array.replicate_zero, List.push_toArray, List.append_toArray, List.nil_append, List.cons_append]
  refine wpIn_wide.2 ?_
  go_wp2_with fail
  have BA : Hid (Below W.heap.size W ((W.alloc (.cells #[.slice Aw 0 cw] 58)).alloc (.cells #[.bool false] 4))) := Lib.hid (((Below.refl _ _).alloc (Nat.le_refl _) _).alloc (by simp) _)
  have cA := (((Below.refl _ _).alloc (Nat.le_refl _) (.cells #[.bool false] 4) : Below (W.alloc (.cells #[.slice Aw 0 cw] 58)).heap.size (W.alloc (.cells #[.slice Aw 0 cw] 58)) ((W.alloc (.cells #[.slice Aw 0 cw] 58)).alloc (.cells #[.bool false] 4))).cell (p := ⟨W.heap.size, 0, none⟩) (by simp)).trans (World.cell?_alloc_mark W #[.slice Aw 0 cw] 58 (0, 0) 0)
  have cB := World.cell?_alloc_mark (W.alloc (.cells #[.slice Aw 0 cw] 58)) #[.bool false] 4 (0, 0) 0
  have fB := World.frozen?_alloc_at (w := (W.alloc (.cells #[.slice Aw 0 cw] 58))) #[.bool false] 4 (W.heap.size + 1) 0 (by simp)
  rw [show (W.alloc (.cells #[.slice Aw 0 cw] 58)).heap.size = W.heap.size + 1 by simp] at cB
  have lA : W.heap.size + 1 < ((W.alloc (.cells #[.slice Aw 0 cw] 58)).alloc (.cells #[.bool false] 4)).heap.size := by simp
  simp only [List.getElem?_toArray, List.getElem?_cons_zero] at cA cB
  have CA := Lib.hid (And.intro cA (And.intro cB fB))
  clear cA cB fB
  generalize ((W.alloc (.cells #[.slice Aw 0 cw] 58)).alloc (.cells #[.bool false] 4)) = wa at *
  refine (HA.out _ BA.out).mono ?_
  rintro e w1 ⟨Bx, A', c', l', rfl, hkl, hBx, hra, hBl, hb1⟩
  have q0 := (hb1.cell (p := ⟨W.heap.size, 0, none⟩) (by simp; omega)).trans CA.out.1
  have q1 := (hb1.cell (p := ⟨W.heap.size + 1, 0, none⟩) lA).trans CA.out.2.1
  have qf := (hb1.frozen (p := ⟨W.heap.size + 1, 0, none⟩) lA).trans CA.out.2.2
  have lq : W.heap.size + 1 < w1.heap.size := Nat.lt_of_lt_of_le lA hb1.size
  have HBW : Hid (Below W.heap.size W w1) := Lib.hid (BA.out.trans (hb1.mono BA.out.size))
  have HQ := Lib.hid (And.intro q1 qf)
  have HKL : Hid (l'.map Ltr.k = lw.map Ltr.k) := Lib.hid (by rw [hkl, HLW.out])
  have HLN : Hid (l'.length = 0) := Lib.hid (by rw [← HN.out, ← hkl, List.length_map])
  have HRA := Lib.hid hra
  have HBX := Lib.hid hBx
  have lq0 : W.heap.size < w1.heap.size := by omega
  have hfn := func_nil
  clear hkl hra hb1 BA HA q1 qf CA hBx HLW HN

  go_wp2_with fail
  have b3 : Below w1.heap.size w1 (w1.alloc (.cells #[.int .i64 0] 3)) := (Below.refl _ _).alloc (Nat.le_refl _) _
  have G : Hid (G9 (w1.alloc (.cells #[.int .i64 0] 3)) W.heap.size Bx w1.heap.size 0 cw c' (0) Aw A' lw l') := by
    refine Lib.hid ⟨(b3.cell (p := ⟨W.heap.size, 0, none⟩) lq0).trans q0, (b3.cell (p := ⟨W.heap.size + 1, 0, none⟩) lq).trans HQ.out.1, (b3.frozen (p := ⟨W.heap.size + 1, 0, none⟩) lq).trans HQ.out.2, Nat.lt_of_lt_of_le lq b3.size, ?_, by simp, (b3.cell (p := ⟨Bx, 0, none⟩) hBl).trans HBX.out, Nat.lt_of_lt_of_le hBl b3.size, (HRD.out.below (HBW.out.trans (b3.mono HBW.out.size))).more (by have := HBW.out.size; have := b3.size; omega), (HRA.out.below b3).more b3.size⟩
    rw [World.cell?_alloc_mark]; rfl
  have BW : Hid (Below W.heap.size W (w1.alloc (.cells #[.int .i64 0] 3))) := Lib.hid (HBW.out.trans (b3.mono HBW.out.size))
  clear b3 q0 HQ lq HBX HBW HRD HRA hBl lq0 hfn
  generalize w1.alloc (.cells #[.int .i64 0] 3) = w2 at *
  generalize w1.heap.size = mb at *
  generalize hq : W.heap.size = q at *
  have hq2 := G.out.lq
  refine wp_loop_rounds 3 ?_
  rw [rounds_succ]
  have lb := G.out.lb
  have bk : Below w2.heap.size w2 (w2.alloc (.cells #[.int .i64 0] 3)) := (Below.refl _ _).alloc (Nat.le_refl _) _
  have HG := Lib.hid (G.out.next bk)
  have kc := World.cell?_alloc_mark w2 #[.int .i64 0] 3 (0, 0) 0
  have kl : w2.heap.size < (w2.alloc (.cells #[.int .i64 0] 3)).heap.size := by simp
  simp only [List.getElem?_toArray, List.getElem?_cons_zero] at kc
  have HK := Lib.hid (And.intro kc kl)
  have HB0 := Lib.hid bk
  clear kc kl bk
  go_wp2_with fail
  refine range_empty (.tmp 28) Bx A' c' rfl (by simp) HG.out.bx HG.out.lb ?_
  intro w3 hb hd
  have G3 := Lib.hid (HG.out.next hb)
  have k0 := (hb.cell (p := ⟨w2.heap.size, 0, none⟩) HK.out.2).trans HK.out.1
  have kl : w2.heap.size < w3.heap.size := Nat.lt_of_lt_of_le HK.out.2 hb.size
  have m0 := G3.out.m0
  have lm := G3.out.lm
  have BN1 : Hid (Below w2.heap.size w2 w3) := Lib.hid (HB0.out.trans (hb.mono HB0.out.size))
  have HD1 : Hid (w3.heap[(w2.alloc (.cells #[.int .i64 0] 3)).heap.size]? = some (.deferred (some []))) := Lib.hid hd
  have hD1 : w2.heap.size ≤ (w2.alloc (.cells #[.int .i64 0] 3)).heap.size := by simp
  clear hb hd HG HK HB0 G
  generalize (w2.alloc (.cells #[.int .i64 0] 3)).heap.size = f1 at *
  go_wp2_with fail
  clear k0 kl m0 lm lb
  rw [rounds_succ]
  have lb := G3.out.lb
  have bk : Below w3.heap.size w3 (w3.alloc (.cells #[.int .i64 0] 3)) := (Below.refl _ _).alloc (Nat.le_refl _) _
  have HG := Lib.hid (G3.out.next bk)
  have kc := World.cell?_alloc_mark w3 #[.int .i64 0] 3 (0, 0) 0
  have kl : w3.heap.size < (w3.alloc (.cells #[.int .i64 0] 3)).heap.size := by simp
  simp only [List.getElem?_toArray, List.getElem?_cons_zero] at kc
  have HK := Lib.hid (And.intro kc kl)
  have HB0 := Lib.hid bk
  clear kc kl bk
  go_wp2_with fail
  refine range_empty (.tmp 28) Bx A' c' rfl (by simp) HG.out.bx HG.out.lb ?_
  intro w5 hb hd
  have G5 := Lib.hid (HG.out.next hb)
  have k0 := (hb.cell (p := ⟨w3.heap.size, 0, none⟩) HK.out.2).trans HK.out.1
  have kl : w3.heap.size < w5.heap.size := Nat.lt_of_lt_of_le HK.out.2 hb.size
  have m0 := G5.out.m0
  have lm := G5.out.lm
  have BN2 : Hid (Below w3.heap.size w3 w5) := Lib.hid (HB0.out.trans (hb.mono HB0.out.size))
  have HD2 : Hid (w5.heap[(w3.alloc (.cells #[.int .i64 0] 3)).heap.size]? = some (.deferred (some []))) := Lib.hid hd
  have hD2 : w3.heap.size ≤ (w3.alloc (.cells #[.int .i64 0] 3)).heap.size := by simp
  clear hb hd HG HK HB0 G3
  generalize (w3.alloc (.cells #[.int .i64 0] 3)).heap.size = f2 at *
  go_wp2_with fail
  clear k0 kl m0 lm lb
  rw [rounds_succ]
  have k2 := G5.out.q1
  have k3 := G5.out.qf
  have k1 := G5.out.lq
  have l1 : f1 < w3.heap.size := (Array.getElem?_eq_some_iff.1 HD1.out).1
  have HE2 := HD2
  have HE1 : Hid (w5.heap[f1]? = some (.deferred (some []))) := Lib.hid ((BN2.out.block f1 l1).trans HD1.out)
  have hs23 := BN1.out.size
  have d1 : f1 ≠ q + 1 := by omega
  have d2 : f2 ≠ q + 1 := by omega
  have BK : Hid (Below q W w5) := Lib.hid ((BW.out.trans (BN1.out.mono (by omega))).trans (BN2.out.mono (by omega)))
  go_wp2_with fail
  have m2 : (w5.setCell ⟨q + 1, 0, none⟩ (.bool true)).heap[f2]? = some (.deferred (some [])) := (Below.heap_setCell _ _ _ _ (by simpa using d2)).trans HE2.out
  have m1 : (w5.setCell ⟨q + 1, 0, none⟩ (.bool true)).heap[f1]? = some (.deferred (some [])) := (Below.heap_setCell _ _ _ _ (by simpa using d1)).trans HE1.out
  have d12 : f1 ≠ f2 := by omega
  refine ⟨by simp, .inl ⟨_, _, rfl, run_takeDeferred m2, ?_⟩⟩
  refine ⟨by simp, .inl ⟨_, _, rfl, run_takeDeferred ((World.putObj_heap_other d12).trans m1), ?_⟩⟩
  refine leave55 rfl ?_ ⟨rfl, ?_⟩
  · exact (World.cell?_of_block (a := ⟨q + 1, 0, none⟩) ((World.putObj_heap_other (by show q + 1 ≠ _; omega)).trans (World.putObj_heap_other (by show q + 1 ≠ _; omega)))).trans (World.cell?_setCell_same _ _ _ k2)
  · rw [hq]
    exact ((BK.out.setCell (p := ⟨q + 1, 0, none⟩) (by simp) _).trans (putObj_belowB (l := f2) _ (by omega))).trans (putObj_belowB (l := f1) _ (by omega))

set_option maxHeartbeats 3200000 in
theorem gone1_any {W : World} {base b : Nat} {v : Value} {F : Nat → Prop} {s : Nt} (h : NetP W base b v F s) (hw : s.WF) (Aw : Option Addr) (cw n : Nat) (lw : List Ltr) (hn : s.ks.length = n) (hlw : lw.map Ltr.k = s.ks) (hrd : Rd W W.heap.size Aw (lv lw)) (stop : Int) (hst : -9223372036854775808 ≤ stop ∧ stop ≤ 9223372036854775807) (h0 : 0 < n) :
    Calls Try.prog 55 #[.pointer (some ⟨b, 0, none⟩), .slice Aw n cw, .int .i64 stop] W fun e w' => e = .returned (.bool true) ∧ Below W.heap.size W w' := by
  have hn8 : n ≤ 2048 := by rw [← hn]; exact hw.len
  have HA := Lib.hid (fun W' (k : Below W.heap.size W W') => sall_net (h.next k) hw)
  rw [hn] at HA
  have HLW := Lib.hid hlw
  have HRD := Lib.hid hrd
  have HN := Lib.hid hn
  clear h hw hlw hrd hn
  refine (callsIn_wide (n := 8)).1 ?_
  refine callsIn_of_wp_marks Try.func55 rfl trivial ?_ rfl
  simp only [Try.ntmps55, List.size_toArray, List.length_cons, List.length_nil, Nat.reduceAdd, Nat.reduceSub, Array.replicate_succ, Array.replicate_zero, List.push_toArray, List.append_toArray, List.nil_append, List.cons_append]
  refine wpIn_wide.2 ?_
  go_wp2_with fail
  have BA : Hid (Below W.heap.size W ((W.alloc (.cells #[.slice Aw n cw] 58)).alloc (.cells #[.bool false] 4))) := Lib.hid (((Below.refl _ _).alloc (Nat.le_refl _) _).alloc (by simp) _)
  have cA := (((Below.refl _ _).alloc (Nat.le_refl _) (.cells #[.bool false] 4) : Below (W.alloc (.cells #[.slice Aw n cw] 58)).heap.size (W.alloc (.cells #[.slice Aw n cw] 58)) ((W.alloc (.cells #[.slice Aw n cw] 58)).alloc (.cells #[.bool false] 4))).cell (p := ⟨W.heap.size, 0, none⟩) (by simp)).trans (World.cell?_alloc_mark W #[.slice Aw n cw] 58 (0, 0) 0)
  have cB := World.cell?_alloc_mark (W.alloc (.cells #[.slice Aw n cw] 58)) #[.bool false] 4 (0, 0) 0
  have fB := World.frozen?_alloc_at (w := (W.alloc (.cells #[.slice Aw n cw] 58))) #[.bool false] 4 (W.heap.size + 1) 0 (by simp)
  rw [show (W.alloc (.cells #[.slice Aw n cw] 58)).heap.size = W.heap.size + 1 by simp] at cB
  have lA : W.heap.size + 1 < ((W.alloc (.cells #[.slice Aw n cw] 58)).alloc (.cells #[.bool false] 4)).heap.size := by simp
  simp only [List.getElem?_toArray, List.getElem?_cons_zero] at cA cB
  have CA := Lib.hid (And.intro cA (And.intro cB fB))
  clear cA cB fB
  generalize ((W.alloc (.cells #[.slice Aw n cw] 58)).alloc (.cells #[.bool false] 4)) = wa at *
  refine (HA.out _ BA.out).mono ?_
  rintro e w1 ⟨Bx, A', c', l', rfl, hkl, hBx, hra, hBl, hb1⟩
  have q0 := (hb1.cell (p := ⟨W.heap.size, 0, none⟩) (by simp; omega)).trans CA.out.1
  have q1 := (hb1.cell (p := ⟨W.heap.size + 1, 0, none⟩) lA).trans CA.out.2.1
  have qf := (hb1.frozen (p := ⟨W.heap.size + 1, 0, none⟩) lA).trans CA.out.2.2
  have lq : W.heap.size + 1 < w1.heap.size := Nat.lt_of_lt_of_le lA hb1.size
  have HBW : Hid (Below W.heap.size W w1) := Lib.hid (BA.out.trans (hb1.mono BA.out.size))
  have HQ := Lib.hid (And.intro q1 qf)
  have HKL : Hid (l'.map Ltr.k = lw.map Ltr.k) := Lib.hid (by rw [hkl, HLW.out])
  have HLN : Hid (l'.length = n) := Lib.hid (by rw [← HN.out, ← hkl, List.length_map])
  have HRA := Lib.hid hra
  have HBX := Lib.hid hBx
  have lq0 : W.heap.size < w1.heap.size := by omega
  have hfn := func_nil
  clear hkl hra hb1 BA HA q1 qf CA hBx HLW HN

  have i0 : (0 : Int) < (n : Int) := by omega
  go_wp2_with fail
  refine (pick_any stop n (by omega) (by omega) hst _).mono ?_
  rintro e w' ⟨rfl, rfl⟩
  have p1 : 0 ≤ stop % (n : Int) := Int.emod_nonneg _ (by omega)
  have p2 : stop % (n : Int) < n := Int.emod_lt_of_pos _ (by omega)
  obtain ⟨r, hr⟩ : ∃ r : Nat, stop % (n : Int) = r := ⟨(stop % (n : Int)).toNat, by omega⟩
  rw [hr] at p1 p2 ⊢
  clear hr
  go_wp2_with fail
  obtain ⟨M, hM⟩ : ∃ M : Nat, M = 1 + r := ⟨_, rfl⟩
  rw [show (1 : Int) + (r : Int) = (M : Nat) by omega]
  have hM1 : 0 < M := by omega
  have hM2 : M ≤ n := by omega
  clear hM p1 p2 i0
  have b3 : Below w1.heap.size w1 (w1.alloc (.cells #[.int .i64 (M : Nat)] 3)) := (Below.refl _ _).alloc (Nat.le_refl _) _
  have G : Hid (G9 (w1.alloc (.cells #[.int .i64 (M : Nat)] 3)) W.heap.size Bx w1.heap.size n cw c' (M) Aw A' lw l') := by
    refine Lib.hid ⟨(b3.cell (p := ⟨W.heap.size, 0, none⟩) lq0).trans q0, (b3.cell (p := ⟨W.heap.size + 1, 0, none⟩) lq).trans HQ.out.1, (b3.frozen (p := ⟨W.heap.size + 1, 0, none⟩) lq).trans HQ.out.2, Nat.lt_of_lt_of_le lq b3.size, ?_, by simp, (b3.cell (p := ⟨Bx, 0, none⟩) hBl).trans HBX.out, Nat.lt_of_lt_of_le hBl b3.size, (HRD.out.below (HBW.out.trans (b3.mono HBW.out.size))).more (by have := HBW.out.size; have := b3.size; omega), (HRA.out.below b3).more b3.size⟩
    rw [World.cell?_alloc_mark]; rfl
  have BW : Hid (Below W.heap.size W (w1.alloc (.cells #[.int .i64 (M : Nat)] 3))) := Lib.hid (HBW.out.trans (b3.mono HBW.out.size))
  clear b3 q0 HQ lq HBX HBW HRD HRA hBl lq0 hfn
  generalize w1.alloc (.cells #[.int .i64 (M : Nat)] 3) = w2 at *
  generalize w1.heap.size = mb at *
  generalize hq : W.heap.size = q at *
  have hq2 := G.out.lq
  refine wp_loop_rounds 3 ?_
  rw [rounds_succ]
  have lb := G.out.lb
  have lmw := G.out.lm
  have HR0 : Hid (∀ (k : Nat) (W W' : World), (Below w2.heap.size w2 W ∧ W.cell? ⟨w2.heap.size, 0, none⟩ = some (.int .i64 (k : Nat)) ∧ W.frozen? ⟨w2.heap.size, 0, none⟩ = false ∧ w2.heap.size < W.heap.size ∧ k < M) → Below (w2.heap.size + 1) W W' →
      (Below w2.heap.size w2 W' ∧ W'.cell? ⟨w2.heap.size, 0, none⟩ = some (.int .i64 (k : Nat)) ∧ W'.frozen? ⟨w2.heap.size, 0, none⟩ = false ∧ w2.heap.size < W'.heap.size ∧ k < M)) := Lib.hid (fun k W W' ⟨h1, h2, h3, h4, h5⟩ hb =>
    ⟨h1.trans (hb.mono (by omega)), (hb.cell (p := ⟨w2.heap.size, 0, none⟩) (by show w2.heap.size < _; omega)).trans h2, (hb.frozen (p := ⟨w2.heap.size, 0, none⟩) (by show w2.heap.size < _; omega)).trans h3, Nat.lt_of_lt_of_le h4 hb.size, h5⟩)
  have HX0 : Hid (∀ (W W' : World), (Below w2.heap.size w2 W ∧ W.cell? ⟨w2.heap.size, 0, none⟩ = some (.int .i64 (M : Nat)) ∧ w2.heap.size < W.heap.size) → Below (w2.heap.size + 1) W W' →
      (Below w2.heap.size w2 W' ∧ W'.cell? ⟨w2.heap.size, 0, none⟩ = some (.int .i64 (M : Nat)) ∧ w2.heap.size < W'.heap.size)) := Lib.hid (fun W W' ⟨h1, h2, h4⟩ hb =>
    ⟨h1.trans (hb.mono (by omega)), (hb.cell (p := ⟨w2.heap.size, 0, none⟩) (by show w2.heap.size < _; omega)).trans h2, Nat.lt_of_lt_of_le h4 hb.size⟩)
  go_wp2_with fail
  have kx : Below w2.heap.size w2 (w2.alloc (.cells #[.int .i64 0] 3)) := (Below.refl _ _).alloc (Nat.le_refl _) _
  have sx : (w2.alloc (.cells #[.int .i64 0] 3)).heap.size = w2.heap.size + 1 := by simp
  refine (wpIn_wide (n := 8)).1 ?_
  refine range_all 8 (by omega) (.tmp 28) 2 Bx w2.heap.size A' n c' l' rfl (.inl rfl) HLN.out (by omega) ((kx.cell (p := ⟨Bx, 0, none⟩) lb).trans G.out.bx) lb (G.out.ra.below kx) kx.size
    (fun k W => Below w2.heap.size w2 W ∧ W.cell? ⟨w2.heap.size, 0, none⟩ = some (.int .i64 (k : Nat)) ∧ W.frozen? ⟨w2.heap.size, 0, none⟩ = false ∧ w2.heap.size < W.heap.size ∧ k < M)
    (fun W => Below w2.heap.size w2 W ∧ W.cell? ⟨w2.heap.size, 0, none⟩ = some (.int .i64 (M : Nat)) ∧ w2.heap.size < W.heap.size)
    (fun k W W' h hb => HR0.out k W W' h (by rw [sx] at hb; exact hb)) (fun W W' h hb => HX0.out W W' h (by rw [sx] at hb; exact hb))
    ⟨kx, by rw [World.cell?_alloc_mark]; rfl, by simp, by simp, hM1⟩ ?_ ?_ ?_
  · intro l k x hk W9 W2 Kc hR2 hsz hKc
    obtain ⟨h1, h2, h3, h4, h5⟩ := hR2
    have hG := G.out.next h1
    have hkn : k < n := by have := (List.getElem?_eq_some_iff.1 hk).1; have := HLN.out; omega
    obtain ⟨y, hy, hxy⟩ : ∃ y, lw[k]? = some y ∧ y.k = x.k := by
      have e := congrArg (fun z => z[k]?) HKL.out
      simp only [List.getElem?_map, hk] at e
      cases hy : lw[k]? with
      | none => rw [hy] at e; simp at e
      | some y => rw [hy] at e; simp at e; exact ⟨y, rfl, e.symm⟩
    obtain ⟨b8, o8, rfl, hb8, c0, -, -, -⟩ := rdl_at hG.rw_ hy
    rw [hxy] at c0
    have g0 := hG.q0
    have gm := hG.m0
    have i0 : (0 : Int) ≤ (k : Int) := by omega
    have i1 : (k : Int) < (n : Int) := by omega
    have i2 : ¬ ((n : Int) ≤ (k : Int)) := by omega
    have kb : (k : Int) < 20000 := by omega
    have HH1 := Lib.hid h1
    have G2 := Lib.hid h2
    clear hG hy hxy hsz
    by_cases hend : k + 1 = M
    · have ee : ((k : Int) + 1 == (M : Int)) = true := by rw [beq_iff_eq]; omega
      have HEND := Lib.hid hend
      clear hend
      gi_wp2
      all_goals
        exact ⟨rfl, ⟨HH1.out.setCell (p := ⟨w2.heap.size, 0, none⟩) (Nat.le_refl _) _,
          (World.cell?_setCell_same _ _ _ G2.out).trans (by rw [show ((M : Nat) : Int) = (k : Int) + 1 by have := HEND.out; omega]),
          by simpa [World.setCell] using h4⟩, by simp [World.setCell],
          fun b hb hlt => Below.heap_setCell _ _ _ _ (by show b ≠ w2.heap.size; (try rw [sx] at hb); omega)⟩
    · have ee : ((k : Int) + 1 == (M : Int)) = false := by rw [beq_eq_false_iff_ne]; omega
      have HEND := Lib.hid hend
      clear hend
      gi_wp2
      all_goals
        exact ⟨⟨HH1.out.setCell (p := ⟨w2.heap.size, 0, none⟩) (Nat.le_refl _) _,
          (World.cell?_setCell_same _ _ _ G2.out).trans (by rw [show (((k + 1 : Nat)) : Int) = (k : Int) + 1 by omega]),
          by simpa using h3, by simpa [World.setCell] using h4, by have := HEND.out; omega⟩,
          (Below.refl _ _).setCell (p := ⟨w2.heap.size, 0, none⟩) (Nat.le_refl _) _, by simp [World.setCell],
          fun b hb hlt => Below.heap_setCell _ _ _ _ (by show b ≠ w2.heap.size; (try rw [sx] at hb); omega)⟩
  · intro W9 hR9 _
    exfalso
    have := hR9.2.2.2.2
    omega
  intro w3 hX9 hd
  refine wpIn_wide.2 ?_
  obtain ⟨h1, h2, h4⟩ := hX9
  have G3 := Lib.hid (G.out.next h1)
  have m0 := G3.out.m0
  have lm := G3.out.lm
  have BN1 : Hid (Below w2.heap.size w2 w3) := Lib.hid h1
  have HD1 : Hid (w3.heap[(w2.alloc (.cells #[.int .i64 0] 3)).heap.size]? = some (.deferred (some []))) := Lib.hid hd
  have hD1 : w2.heap.size ≤ (w2.alloc (.cells #[.int .i64 0] 3)).heap.size := by simp
  clear h1 hd HR0 HX0 G kx sx
  generalize (w2.alloc (.cells #[.int .i64 0] 3)).heap.size = f1 at *
  go_wp2_with fail
  clear h2 h4 m0 lm lb lmw
  rw [rounds_succ]
  have lb := G3.out.lb
  have lmw := G3.out.lm
  have HR0 : Hid (∀ (k : Nat) (W W' : World), (Below w3.heap.size w3 W ∧ W.cell? ⟨w3.heap.size, 0, none⟩ = some (.int .i64 (k : Nat)) ∧ W.frozen? ⟨w3.heap.size, 0, none⟩ = false ∧ w3.heap.size < W.heap.size ∧ k < M) → Below (w3.heap.size + 1) W W' →
      (Below w3.heap.size w3 W' ∧ W'.cell? ⟨w3.heap.size, 0, none⟩ = some (.int .i64 (k : Nat)) ∧ W'.frozen? ⟨w3.heap.size, 0, none⟩ = false ∧ w3.heap.size < W'.heap.size ∧ k < M)) := Lib.hid (fun k W W' ⟨h1, h2, h3, h4, h5⟩ hb =>
    ⟨h1.trans (hb.mono (by omega)), (hb.cell (p := ⟨w3.heap.size, 0, none⟩) (by show w3.heap.size < _; omega)).trans h2, (hb.frozen (p := ⟨w3.heap.size, 0, none⟩) (by show w3.heap.size < _; omega)).trans h3, Nat.lt_of_lt_of_le h4 hb.size, h5⟩)
  have HX0 : Hid (∀ (W W' : World), (Below w3.heap.size w3 W ∧ W.cell? ⟨w3.heap.size, 0, none⟩ = some (.int .i64 (M : Nat)) ∧ w3.heap.size < W.heap.size) → Below (w3.heap.size + 1) W W' →
      (Below w3.heap.size w3 W' ∧ W'.cell? ⟨w3.heap.size, 0, none⟩ = some (.int .i64 (M : Nat)) ∧ w3.heap.size < W'.heap.size)) := Lib.hid (fun W W' ⟨h1, h2, h4⟩ hb =>
    ⟨h1.trans (hb.mono (by omega)), (hb.cell (p := ⟨w3.heap.size, 0, none⟩) (by show w3.heap.size < _; omega)).trans h2, Nat.lt_of_lt_of_le h4 hb.size⟩)
  go_wp2_with fail
  have kx : Below w3.heap.size w3 (w3.alloc (.cells #[.int .i64 0] 3)) := (Below.refl _ _).alloc (Nat.le_refl _) _
  have sx : (w3.alloc (.cells #[.int .i64 0] 3)).heap.size = w3.heap.size + 1 := by simp
  refine (wpIn_wide (n := 8)).1 ?_
  refine range_all 8 (by omega) (.tmp 28) 2 Bx w3.heap.size A' n c' l' rfl (.inl rfl) HLN.out (by omega) ((kx.cell (p := ⟨Bx, 0, none⟩) lb).trans G3.out.bx) lb (G3.out.ra.below kx) kx.size
    (fun k W => Below w3.heap.size w3 W ∧ W.cell? ⟨w3.heap.size, 0, none⟩ = some (.int .i64 (k : Nat)) ∧ W.frozen? ⟨w3.heap.size, 0, none⟩ = false ∧ w3.heap.size < W.heap.size ∧ k < M)
    (fun W => Below w3.heap.size w3 W ∧ W.cell? ⟨w3.heap.size, 0, none⟩ = some (.int .i64 (M : Nat)) ∧ w3.heap.size < W.heap.size)
    (fun k W W' h hb => HR0.out k W W' h (by rw [sx] at hb; exact hb)) (fun W W' h hb => HX0.out W W' h (by rw [sx] at hb; exact hb))
    ⟨kx, by rw [World.cell?_alloc_mark]; rfl, by simp, by simp, hM1⟩ ?_ ?_ ?_
  · intro l k x hk W9 W2 Kc hR2 hsz hKc
    obtain ⟨h1, h2, h3, h4, h5⟩ := hR2
    have hG := G3.out.next h1
    have hkn : k < n := by have := (List.getElem?_eq_some_iff.1 hk).1; have := HLN.out; omega
    obtain ⟨y, hy, hxy⟩ : ∃ y, lw[k]? = some y ∧ y.k = x.k := by
      have e := congrArg (fun z => z[k]?) HKL.out
      simp only [List.getElem?_map, hk] at e
      cases hy : lw[k]? with
      | none => rw [hy] at e; simp at e
      | some y => rw [hy] at e; simp at e; exact ⟨y, rfl, e.symm⟩
    obtain ⟨b8, o8, rfl, hb8, c0, -, -, -⟩ := rdl_at hG.rw_ hy
    rw [hxy] at c0
    have g0 := hG.q0
    have gm := hG.m0
    have i0 : (0 : Int) ≤ (k : Int) := by omega
    have i1 : (k : Int) < (n : Int) := by omega
    have i2 : ¬ ((n : Int) ≤ (k : Int)) := by omega
    have kb : (k : Int) < 20000 := by omega
    have HH1 := Lib.hid h1
    have G2 := Lib.hid h2
    clear hG hy hxy hsz
    by_cases hend : k + 1 = M
    · have ee : ((k : Int) + 1 == (M : Int)) = true := by rw [beq_iff_eq]; omega
      have HEND := Lib.hid hend
      clear hend
      gi_wp2
      all_goals
        exact ⟨rfl, ⟨HH1.out.setCell (p := ⟨w3.heap.size, 0, none⟩) (Nat.le_refl _) _,
          (World.cell?_setCell_same _ _ _ G2.out).trans (by rw [show ((M : Nat) : Int) = (k : Int) + 1 by have := HEND.out; omega]),
          by simpa [World.setCell] using h4⟩, by simp [World.setCell],
          fun b hb hlt => Below.heap_setCell _ _ _ _ (by show b ≠ w3.heap.size; (try rw [sx] at hb); omega)⟩
    · have ee : ((k : Int) + 1 == (M : Int)) = false := by rw [beq_eq_false_iff_ne]; omega
      have HEND := Lib.hid hend
      clear hend
      gi_wp2
      all_goals
        exact ⟨⟨HH1.out.setCell (p := ⟨w3.heap.size, 0, none⟩) (Nat.le_refl _) _,
          (World.cell?_setCell_same _ _ _ G2.out).trans (by rw [show (((k + 1 : Nat)) : Int) = (k : Int) + 1 by omega]),
          by simpa using h3, by simpa [World.setCell] using h4, by have := HEND.out; omega⟩,
          (Below.refl _ _).setCell (p := ⟨w3.heap.size, 0, none⟩) (Nat.le_refl _) _, by simp [World.setCell],
          fun b hb hlt => Below.heap_setCell _ _ _ _ (by show b ≠ w3.heap.size; (try rw [sx] at hb); omega)⟩
  · intro W9 hR9 _
    exfalso
    have := hR9.2.2.2.2
    omega
  intro w5 hX9 hd
  refine wpIn_wide.2 ?_
  obtain ⟨h1, h2, h4⟩ := hX9
  have G5 := Lib.hid (G3.out.next h1)
  have m0 := G5.out.m0
  have lm := G5.out.lm
  have BN2 : Hid (Below w3.heap.size w3 w5) := Lib.hid h1
  have HD2 : Hid (w5.heap[(w3.alloc (.cells #[.int .i64 0] 3)).heap.size]? = some (.deferred (some []))) := Lib.hid hd
  have hD2 : w3.heap.size ≤ (w3.alloc (.cells #[.int .i64 0] 3)).heap.size := by simp
  clear h1 hd HR0 HX0 G3 kx sx
  generalize (w3.alloc (.cells #[.int .i64 0] 3)).heap.size = f2 at *
  go_wp2_with fail
  clear h2 h4 m0 lm lb lmw
  rw [rounds_succ]
  have k2 := G5.out.q1
  have k3 := G5.out.qf
  have k1 := G5.out.lq
  have l1 : f1 < w3.heap.size := (Array.getElem?_eq_some_iff.1 HD1.out).1
  have HE2 := HD2
  have HE1 : Hid (w5.heap[f1]? = some (.deferred (some []))) := Lib.hid ((BN2.out.block f1 l1).trans HD1.out)
  have hs23 := BN1.out.size
  have d1 : f1 ≠ q + 1 := by omega
  have d2 : f2 ≠ q + 1 := by omega
  have BK : Hid (Below q W w5) := Lib.hid ((BW.out.trans (BN1.out.mono (by omega))).trans (BN2.out.mono (by omega)))
  go_wp2_with fail
  have m2 : (w5.setCell ⟨q + 1, 0, none⟩ (.bool true)).heap[f2]? = some (.deferred (some [])) := (Below.heap_setCell _ _ _ _ (by simpa using d2)).trans HE2.out
  have m1 : (w5.setCell ⟨q + 1, 0, none⟩ (.bool true)).heap[f1]? = some (.deferred (some [])) := (Below.heap_setCell _ _ _ _ (by simpa using d1)).trans HE1.out
  have d12 : f1 ≠ f2 := by omega
  refine ⟨by simp, .inl ⟨_, _, rfl, run_takeDeferred m2, ?_⟩⟩
  refine ⟨by simp, .inl ⟨_, _, rfl, run_takeDeferred ((World.putObj_heap_other d12).trans m1), ?_⟩⟩
  refine leave55 rfl ?_ ⟨rfl, ?_⟩
  · exact (World.cell?_of_block (a := ⟨q + 1, 0, none⟩) ((World.putObj_heap_other (by show q + 1 ≠ _; omega)).trans (World.putObj_heap_other (by show q + 1 ≠ _; omega)))).trans (World.cell?_setCell_same _ _ _ k2)
  · rw [hq]
    exact ((BK.out.setCell (p := ⟨q + 1, 0, none⟩) (by simp) _).trans (putObj_belowB (l := f2) _ (by omega))).trans (putObj_belowB (l := f1) _ (by omega))

theorem gone_any {W : World} {base b : Nat} {v : Value} {F : Nat → Prop} {s : Nt} (h : NetP W base b v F s) (hw : s.WF) (Aw : Option Addr) (cw n : Nat) (lw : List Ltr) (hn : s.ks.length = n) (hlw : lw.map Ltr.k = s.ks) (hrd : Rd W W.heap.size Aw (lv lw)) (stop : Int) (hst : -9223372036854775808 ≤ stop ∧ stop ≤ 9223372036854775807) :
    Calls Try.prog 55 #[.pointer (some ⟨b, 0, none⟩), .slice Aw n cw, .int .i64 stop] W fun e w' => e = .returned (.bool true) ∧ Below W.heap.size W w' := by
  rcases Nat.eq_zero_or_pos n with h0 | h0
  · exact gone0_any h hw Aw cw n lw hn hlw hrd stop hst h0
  · exact gone1_any h hw Aw cw n lw hn hlw hrd stop hst h0
end Go.Proofs.Ytlpdihcgdgkkbaa
