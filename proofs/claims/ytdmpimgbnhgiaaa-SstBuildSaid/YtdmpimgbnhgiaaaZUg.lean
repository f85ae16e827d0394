/- Walk: a table is built of what may be. -/
import Derived.Test.YtdmpimgbnhgiaaaZC
import Derived.Test.YtdmpimgbnhgiaaaZEa
import Derived.Test.YtdmpimgbnhgiaaaZEd
import Derived.Test.YtdmpimgbnhgiaaaZEj0
import Derived.Test.YtdmpimgbnhgiaaaZUf

namespace Go.Proofs.Ytdmpimgbnhgiaaa
open Go.RowKit Go.St Go.Shelf Go.Maps
set_option linter.unusedVariables false
set_option linter.unusedSimpArgs false
set_option maxRecDepth 100000
attribute [local go_sem] Oper.semAt_some

theorem env_drop (l : List Ent) (k : Nat) : env (l.drop k) = (env l).drop (k * 4) := by
  have h := congrArg env (List.take_append_drop k l)
  rw [env_app, env_take] at h
  rcases Nat.lt_or_ge l.length k with hk | hk
  · rw [List.drop_eq_nil_of_le (by omega), List.drop_eq_nil_of_le (by rw [env_len]; omega)]
    rfl
  · rw [← h, List.drop_left' (by rw [List.length_take, env_len]; omega)]
theorem okE_key {x : Ent} (h : okE x = true) : x.key.size ≤ maxLen := by have := (okE_b h).2.2.2.1; unfold maxLen; omega
theorem putObj_belowB {B : Nat} {W : World} {l : Nat} (o : Obj) (h : B ≤ l) : Below B W (W.putObj l o) :=
  ⟨rfl, rfl, rfl, by simp [World.putObj], fun k hk => World.putObj_heap_other (by omega)⟩
/-- The record of the loop lies as it lay. -/
structure Kp2 (z : Nat) (W W' : World) : Prop where
  size : W.heap.size ≤ W'.heap.size
  h0 : W'.heap[z]? = W.heap[z]?
  h1 : W'.heap[z + 1]? = W.heap[z + 1]?
theorem Kp2.refl (z : Nat) (W : World) : Kp2 z W W := ⟨Nat.le_refl _, rfl, rfl⟩
theorem Kp2.next {z : Nat} {W W' W'' : World} (h : Kp2 z W W') (hz : z + 2 ≤ W.heap.size) (hb : Below W'.heap.size W' W'') : Kp2 z W W'' := by
  have := h.size
  exact ⟨Nat.le_trans h.size hb.size, (hb.block _ (by omega)).trans h.h0, (hb.block _ (by omega)).trans h.h1⟩
theorem Kp2.set {z : Nat} {W W' : World} (h : Kp2 z W W') {g : Nat} (hg : g < z) (o : Nat) (v : Value) : Kp2 z W (W'.setCell ⟨g, o, none⟩ v) :=
  ⟨by simpa using h.size, (Below.heap_setCell _ _ _ _ (by show z ≠ g; omega)).trans h.h0, (Below.heap_setCell _ _ _ _ (by show z + 1 ≠ g; omega)).trans h.h1⟩
theorem rd_piece {W : World} {B : Nat} {A : Option Addr} {l : List Ent} (h : Rd W B A (env l)) {j p : Nat} (hj : j * p < l.length) : Rd W B (A.map (·.add (j * p * 4))) (env (chk p l j)) := fun hn => by
  have hne : env l ≠ [] := fun e => by
    have := congrArg List.length e
    rw [env_len] at this
    have h0 : l.length * 4 = 0 := this
    omega
  obtain ⟨b, o, e, hb, hv⟩ := h hne
  refine ⟨b, o + j * p * 4, ?_, hb, fun i v hi => ?_⟩
  · rw [e, Option.map_some]
    unfold Addr.add
    split
    · rename_i h0
      rw [h0]
      rfl
    · rfl
  · have e1 : env (chk p l j) = ((env l).drop (j * p * 4)).take (p * 4) := by
      unfold chk
      rw [env_take, env_drop]
    rw [e1, List.getElem?_take] at hi
    split at hi
    · rw [List.getElem?_drop] at hi
      rw [Nat.add_assoc]
      exact hv _ _ hi
    · cases hi
def onlyN (K : Act → World → Prop) : Exit → Act → World → Prop
  | .normal, a, w => K a w
  | _, _, _ => False
theorem wp_onlyN {c : Code} {K : Act → World → Prop} {Q : Exit → Act → World → Prop} {a : Act} {w : World} (h : c.wp Try.prog (onlyN K) a w) : c.wp Try.prog (Exit.then K Q) a w :=
  wp_mono h (fun e a w hq => by cases e <;> first | exact hq | exact hq.elim)
/-- Blocks below z lie as they lay, but for one. -/
structure OthB (z g : Nat) (w w' : World) : Prop where
  os : w'.os = w.os
  tape : w'.tape = w.tape
  output : w'.output = w.output
  size : w.heap.size ≤ w'.heap.size
  block : ∀ b, b < z → b ≠ g → w'.heap[b]? = w.heap[b]?
theorem OthB.refl (z g : Nat) (w : World) : OthB z g w w := ⟨rfl, rfl, rfl, Nat.le_refl _, fun _ _ _ => rfl⟩
theorem OthB.next {z g : Nat} {w w' w'' : World} (h : OthB z g w w') (hb : Below z w' w'') : OthB z g w w'' := ⟨hb.os.trans h.os, hb.tape.trans h.tape, hb.output.trans h.output, Nat.le_trans h.size hb.size, fun b hz hn => (hb.block b hz).trans (h.block b hz hn)⟩
theorem OthB.set {z g : Nat} {w w' : World} (h : OthB z g w w') (o : Nat) (v : Value) : OthB z g w (w'.setCell ⟨g, o, none⟩ v) := ⟨h.os, h.tape, h.output, by simpa using h.size, fun b hz hn => (Below.heap_setCell _ _ _ _ hn).trans (h.block b hz hn)⟩
theorem OthB.bxv {z g b : Nat} {w w' : World} {xs : List Value} (h : OthB z g w w') (hx : BxV w b xs) (hz : b < z) (hn : b ≠ g) : BxV w' b xs :=
  ⟨Nat.lt_of_lt_of_le hx.lt h.size, fun o => (World.frozen?_of_block (a := ⟨b, o, none⟩) (h.block b hz hn)).trans (hx.fz o), fun i v hv => (World.cell?_of_block (a := ⟨b, i, none⟩) (h.block b hz hn)).trans (hx.c i v hv)⟩
theorem OthB.rdn {z g z0 : Nat} {w w' : World} {A : Option Addr} {xs : List Value} (h : OthB z g w w') (hr : RdN z0 w A xs) (hz : w.heap.size ≤ z) (hg : g ≤ z0) : RdN z0 w' A xs := hr.keep h.size (fun b h1 h2 => h.block b (by omega) (by omega))
theorem OthB.below {z g B : Nat} {w w' : World} (h : OthB z g w w') (hz : B ≤ z) (hg : B ≤ g) : Below B w w' := ⟨h.os, h.tape, h.output, h.size, fun b hb => h.block b (by omega) (by omega)⟩
theorem styS : STy Try.prog 69 9 1 16 (.string { data := #[] }) := ⟨Try.underlying69, ⟨_, rfl, by kernel_rfl, by kernel_rfl, by kernel_rfl⟩, rfl, by decide⟩
theorem keys_succ {l : List Ent} {k : Nat} {x : Ent} (h : l[k]? = some x) : (keysE l).take (k + 1) = (keysE l).take k ++ [x.key] := by
  unfold keysE
  rw [List.take_add_one, List.getElem?_map, h]
  rfl
set_option maxHeartbeats 6400000 in
theorem build_yes (A : Option Addr) (n c p b : Nat) (hp : 1 ≤ p ∧ p ≤ 64) (hbt : 1 ≤ b ∧ b ≤ 16) (l : List Ent) (hl : l.length = n) (hn : 1 ≤ n ∧ n ≤ 150) (hnc : n ≤ c) (hks : ∀ x ∈ l, x.key.size ≤ maxLen) (w : World) (hr : Rd w w.heap.size A (env l)) :
    Calls Try.prog 11 #[.slice A n c, .int .i64 (p : Int), .int .i64 (b : Int)] w fun e w' => ∃ A' c', e = .returned (.tuple #[.slice A' (bldL p b l).length c', .int .i64 (bldE p b l)]) ∧ w'.ownsRow w.heap.size 5 1 (.slice A' (bldL p b l).length c') (bldL p b l).length (bv (bldL p b l)) ∧ Below w.heap.size w w' := by
  have HL := Lib.hid hl
  have HR := Lib.hid hr
  have HKS := Lib.hid hks
  obtain ⟨E, hE⟩ : ∃ E, E = bldE p b l := ⟨_, rfl⟩
  obtain ⟨S, hS⟩ : ∃ S, S = bldL p b l := ⟨_, rfl⟩
  rw [← hE, ← hS]
  have HE : Hid (E = if l.all okE then (if risE l then 0 else 10) else 2) := Lib.hid (by rw [hE]; unfold bldE; rw [if_neg (by omega)])
  have HS : Hid (S = if E = 0 then bldB p b l else []) := Lib.hid (by rw [hS, hE]; unfold bldL; rw [Int.toNat_natCast, Int.toNat_natCast])
  clear hl hr hks hE hS
  have e1 : decide ((p : Int) < 1) = false := decide_eq_false (by omega)
  have e2 : decide ((64 : Int) < (p : Int)) = false := decide_eq_false (by omega)
  have e3 : decide ((b : Int) < 1) = false := decide_eq_false (by omega)
  have e4 : decide ((16 : Int) < (b : Int)) = false := decide_eq_false (by omega)
  have e5 : ((n : Int) == 0) = false := by rw [beq_eq_false_iff_ne]; omega
  have e6 : ¬ (65536 : Int) < (n : Int) := by omega
  refine (callsIn_wide (n := 8)).1 ?_
  refine callsIn_of_wp_marks Try.func11 rfl trivial ?_ rfl
  simp only [Try.ntmps11, List.size_toArray, List.length_cons, List.length_nil, Nat.reduceAdd, Nat.reduceSub, Array.replicate_succ, Array.replicate_zero, List.push_toArray, List.append_toArray, List.nil_append, List.cons_append]
  refine wpIn_wide.2 ?_
  go_wp2_with fail
  have X1 := (BxV.new w #[.slice none 0 0] 26).alloc (.cells #[.int .i64 0] 27)
  have X2 := BxV.new (w.alloc (.cells #[.slice none 0 0] 26)) #[.int .i64 0] 27
  rw [World.size_alloc] at X2
  have B0 : Below w.heap.size w ((w.alloc (.cells #[.slice none 0 0] 26)).alloc (.cells #[.int .i64 0] 27)) := ((Below.refl _ _).alloc (Nat.le_refl _) _).alloc (by simp) _
  have HX := Lib.hid (And.intro B0 (And.intro X1 X2))
  clear B0 X1 X2
  generalize (w.alloc (.cells #[.slice none 0 0] 26)).alloc (.cells #[.int .i64 0] 27) = wa at *
  obtain ⟨q, hq⟩ : ∃ q, q = w.heap.size := ⟨_, rfl⟩
  rw [← hq] at HX HR ⊢
  have hqw : q ≤ w.heap.size := by omega
  have HQ := Lib.hid hq
  clear hq e1 e2 e3 e4 e5 e6
  go_loopw [52] (fun s52 wr => ∃ i : Nat, s52 = .int .i64 (i : Int) ∧ i ≤ n ∧ Hid (∀ j x, j < i → l[j]? = some x → okE x = true) ∧ Hid (Below q w wr ∧ BxV wr q [.slice none 0 0] ∧ BxV wr (q + 1) [.int .i64 0])) (fun s52 _ => n - (intOf s52).toNat)
  case atStart => exact ⟨0, rfl, Nat.zero_le _, Lib.hid (fun j x hj => by omega), HX⟩
  case round =>
    clear HX
    obtain ⟨i, rfl, hi, HU, HX⟩ := hrel
    obtain ⟨w2, rfl⟩ : ∃ x, x = wr := ⟨_, rfl⟩
    by_cases hlt : i < n
    · obtain ⟨x, hx⟩ : ∃ x, l[i]? = some x := ⟨_, List.getElem?_eq_getElem (by rw [HL.out]; exact hlt)⟩
      obtain ⟨bb, off, rfl, hb, hce⟩ := en_at HR.out hx
      obtain ⟨d0, d1, d2, d3⟩ := hce.below hb HX.out.1
      have zb : bb < w2.heap.size := by have := HX.out.1.size; omega
      have i1 : (i : Int) < (n : Int) := by omega
      have i0 : (0 : Int) ≤ (i : Int) := by omega
      have HC := Lib.hid (fun W => check6_any x (HKS.out x (List.mem_of_getElem? hx)) W)
      have HXX := Lib.hid hx
      clear hce hx
      go_upto_region 8 with (fail)
      have hal : Below w2.heap.size w2 (w2.alloc (.cells #[.string x.key, .string x.val, .int .i64 x.seq, .bool x.del] 40)) := (Below.refl _ _).alloc (Nat.le_refl _) _
      have XE := BxV.new w2 #[.string x.key, .string x.val, .int .i64 x.seq, .bool x.del] 40
      have HX3 := Lib.hid (And.intro (HX.out.1.trans (hal.mono (by have := HX.out.2.1.lt; omega))) (And.intro (HX.out.2.1.next hal) (HX.out.2.2.next hal)))
      generalize w2.alloc (.cells #[.string x.key, .string x.val, .int .i64 x.seq, .bool x.del] 40) = w3 at *
      generalize w2.heap.size = be at *
      have x0 := XE.c 0 _ rfl
      have x1 := XE.c 1 _ rfl
      have x2 := XE.c 2 _ rfl
      have x3 := XE.c 3 _ rfl
      have xl := XE.lt
      clear hal HX XE d0 d1 d2 d3 zb
      go_wp2_with fail
      refine (HC.out w3).mono ?_
      rintro r w4 ⟨rfl, hb4⟩
      have HX4 := Lib.hid (And.intro (HX3.out.1.trans (hb4.mono (by have := HX3.out.2.1.lt; omega))) (And.intro (HX3.out.2.1.next hb4) (HX3.out.2.2.next hb4)))
      clear hb4 HX3 x0 x1 x2 x3 xl HC
      by_cases hok : okE x = true
      · have HU9 : Hid (∀ j x, j < i + 1 → l[j]? = some x → okE x = true) := Lib.hid (fun j y hj hy => by
          rcases Nat.lt_or_ge j i with h | h
          · exact HU.out j y h hy
          · have e : j = i := by omega
            subst e
            have h2 := HXX.out
            rw [hy] at h2
            injection h2 with h2
            rw [h2]
            exact hok)
        rw [show chkE x = 0 by unfold chkE; rw [hok]; rfl]
        clear hok HU
        go_wp2_with fail
        go_roundw
        case rel => exact ⟨i + 1, by go_num, by omega, HU9, HX4⟩
        case measure => (first | (simp [intOf]; done) | (simp [intOf]; omega))
      · have SEQ : Hid (E = 2 ∧ S = []) := Lib.hid (by
          have h1 : l.all okE = false := by
            rw [List.all_eq_false]
            exact ⟨x, List.mem_of_getElem? HXX.out, hok⟩
          have h2 := HE.out
          rw [h1] at h2
          have h3 : E = 2 := h2
          exact ⟨h3, by rw [HS.out, h3]; rfl⟩)
        rw [show chkE x = 2 by unfold chkE; rw [if_neg hok]]
        clear hok HU HE HS
        have c6 := HX4.out.2.1.c 0 _ rfl
        have c7 := HX4.out.2.2.c 0 _ rfl
        have f6 := HX4.out.2.1.fz
        have f7 := HX4.out.2.2.fz
        have l6 := HX4.out.2.1.lt
        have l7 := HX4.out.2.2.lt
        go_wp2_with fail
        have Y6 := bxv_far (bxv_put HX4.out.2.1 0 (by simp) (.slice none 0 0)) (show q + 1 ≠ q by omega) 0 (.int .i64 2)
        have Y7 := bxv_put (bxv_far HX4.out.2.2 (show q ≠ q + 1 by omega) 0 (.slice none 0 0)) 0 (by simp) (.int .i64 2)
        have YB := (HX4.out.1.setCell (p := ⟨q, 0, none⟩) (Nat.le_refl _) (.slice none 0 0)).setCell (p := ⟨q + 1, 0, none⟩) (by show q ≤ q + 1; omega) (.int .i64 2)
        refine leave_build rfl rfl (Y6.c 0 _ rfl) (Y7.c 0 _ rfl) ?_
        rw [SEQ.out.1, SEQ.out.2, ← HQ.out]
        exact ⟨none, 0, rfl, World.ownsRow_nil _ _ _ _, YB⟩
    obtain rfl : i = n := by omega
    have i1 : ¬ (i : Int) < (i : Int) := by omega
    have HOK : Hid (∀ x ∈ l, okE x = true) := Lib.hid (fun x hx => by
      obtain ⟨j, hj⟩ := List.mem_iff_getElem?.1 hx
      exact HU.out j x (by have := (List.getElem?_eq_some_iff.1 hj).1; have := HL.out; omega) hj)
    have HE2 : Hid (E = if risE l then 0 else 10) := Lib.hid (by rw [HE.out, if_pos (List.all_eq_true.2 HOK.out)])
    clear HU HE hlt hi
    go_upto_region 15 with (fail)
    have Y1 := BxV.new w2 #[.slice none 0 0] 26
    have Y2 := BxV.new (w2.alloc (.cells #[.slice none 0 0] 26)) #[.slice none 0 0] 26
    have Y3 := BxV.new ((w2.alloc (.cells #[.slice none 0 0] 26)).alloc (.cells #[.slice none 0 0] 26)) #[.int .i64 0] 3
    have hb : Below w2.heap.size w2 (((w2.alloc (.cells #[.slice none 0 0] 26)).alloc (.cells #[.slice none 0 0] 26)).alloc (.cells #[.int .i64 0] 3)) := (((Below.refl _ _).alloc (Nat.le_refl _) _).alloc (by simp) _).alloc (by simp; omega) _
    have Y1' := (Y1.alloc (.cells #[.slice none 0 0] 26)).alloc (.cells #[.int .i64 0] 3)
    have Y2' := Y2.alloc (.cells #[.int .i64 0] 3)
    rw [World.size_alloc] at Y2' Y3
    rw [World.size_alloc] at Y3
    have Z6 := HX.out.2.1.next hb
    have Z7 := HX.out.2.2.next hb
    have ZB := HX.out.1.trans (hb.mono (by have := HX.out.2.1.lt; omega))
    have hz2 : q + 2 ≤ w2.heap.size := by have := HX.out.2.2.lt; omega
    have hz3 : (((w2.alloc (.cells #[.slice none 0 0] 26)).alloc (.cells #[.slice none 0 0] 26)).alloc (.cells #[.int .i64 0] 3)).heap.size = w2.heap.size + 3 := by simp
    generalize ((w2.alloc (.cells #[.slice none 0 0] 26)).alloc (.cells #[.slice none 0 0] 26)).alloc (.cells #[.int .i64 0] 3) = w3 at *
    generalize w2.heap.size = q2 at *
    have HY := Lib.hid (And.intro Y1' (And.intro Y2' Y3))
    have HZ := Lib.hid (And.intro ZB (And.intro Z6 Z7))
    clear Y1 Y2 Y3 hb Y1' Y2' Z6 Z7 ZB HX
    go_wp2_with fail
    refine (chunk_any A i c p hp.1 w3).mono ?_
    rintro r w4 ⟨rfl, xs, xn, hb⟩
    have ST4 : Hid (StB w4 w4.heap.size q q2 w3.heap.size (w3.heap.size + 1) A i c p [] [] 0 w4) := Lib.hid ⟨Below.refl _ _, HZ.out.2.1.next hb, HZ.out.2.2.next hb, ⟨none, 0, HY.out.1.next hb, RdN.nil⟩, ⟨none, 0, HY.out.2.1.next hb, RdN.nil⟩, HY.out.2.2.next hb, xs, xn⟩
    have BW4 := Lib.hid (HZ.out.1.trans (hb.mono (by omega)))
    have hzz : q + 2 ≤ q2 ∧ q2 + 3 ≤ w3.heap.size ∧ w3.heap.size + 1 ≤ w3.heap.size + 1 ∧ w3.heap.size + 1 < w4.heap.size := by have := xn.lt; omega
    generalize w3.heap.size = Bs at *
    clear hb xs xn HY HZ hz3
    go_wp2
    refine (wpIn_wide (n := 8)).1 ?_
    refine range_chunk 8 (by omega) (.tmp 64) Bs (Bs + 1) A i c p (by omega) (by omega) ⟨hp.1, by omega⟩ rfl rfl
      (fun j W => (∀ k, k < j → risE (chk p l k) = true) ∧ StB w4 w4.heap.size q q2 Bs (Bs + 1) A i c p (outP p l j) (idxP p l j) j W)
      (fun W => risE l = false ∧ Below q w4 W ∧ BxV W q [.slice none 0 0] ∧ BxV W (q + 1) [.int .i64 10])
      (fun j W h => ⟨h.2.s.c 0 _ rfl, h.2.t.c 0 _ rfl⟩) (fun j W W' h hb => ⟨h.1, h.2.next hb⟩)
      (fun j W W' h hn hl => ⟨h.1, h.2.nc hzz hn⟩) (fun W W' h hn hl => ⟨h.1, h.2.1.trans (hn.below (by omega)), bxv_nc h.2.2.1 hn (by omega), bxv_nc h.2.2.2 hn (by omega)⟩)
      (fun W hb => ⟨fun k hk => by omega, ST4.out.next hb⟩) ?_ ?_ ?_
    · intro lr j hj W K hR hd hl hK
      obtain ⟨hRis, hC⟩ := hR
      have HRI := Lib.hid hRis
      have HK2 := Lib.hid hK
      have HC := Lib.hid hC
      have HD := Lib.hid hd
      have HLL := Lib.hid hl
      have HJ := Lib.hid hj
      clear hK hC hd hl hRis
      gi_wp2
      refine HK2.out _ _ (Nat.le_refl _) rfl rfl (fun W2 hn hd2 hl2 => ?_)
      have zB : w4.heap.size + 1 < W.heap.size := by obtain ⟨L, hL⟩ := HLL.out; exact (Array.getElem?_eq_some_iff.1 hL).1
      have HC2 := Lib.hid (HC.out.nc hzz hn)
      have hz2s : w4.heap.size + 2 ≤ W2.heap.size := by rw [hn.size]; omega
      have HD2 := Lib.hid hd2
      have HL2 := Lib.hid hl2
      clear HK2 HC HD HLL hn hd2 hl2
      have hcl := chk_len p l j
      rw [HL.out] at hcl
      obtain ⟨ek, hek⟩ : ∃ ek, ek = min p (i - j * p) := ⟨_, rfl⟩
      rw [← hek] at hcl ⊢
      have he1 : 1 ≤ ek ∧ ek ≤ 64 := by omega
      have BQ2 := Lib.hid (BW4.out.trans HC2.out.bel)
      have RP := Lib.hid (rd_piece (HR.out.below BQ2.out) (by rw [HL.out]; exact hj) (p := p))
      have HKC : Hid (∀ x ∈ chk p l j, x.key.size ≤ maxLen) := Lib.hid (fun x hx => okE_key (chk_ok j HOK.out x hx))
      have hcc := chk_chkL (p := p) (l := l) (j := j) hp (by rw [HL.out]; exact hj) HOK.out
      have HCL := Lib.hid hcl
      have hq2 : q ≤ W2.heap.size := by omega
      have hj150 : j < 150 := by
        have : j ≤ j * p := Nat.le_mul_of_pos_right _ (by omega)
        omega
      obtain ⟨m1, rfl⟩ : ∃ m1, ek = m1 + 1 := ⟨ek - 1, by omega⟩
      obtain ⟨x, hx⟩ : ∃ x, (chk p l j)[m1]? = some x := ⟨_, List.getElem?_eq_getElem (by omega)⟩
      have hlx : lstE (chk p l j) = x := lstE_get (by rw [hcl]; exact hx)
      have hox := chk_ok j HOK.out x (List.mem_of_getElem? hx)
      have HQX := Lib.hid (okE_b hox)
      obtain ⟨pb, po, hpa, hpb, hpe⟩ := en_at RP.out hx
      rw [hpa] at RP ⊢
      have HPE := Lib.hid hpe
      have HOL := Lib.hid (outP_len p l j)
      have HIL := Lib.hid (idxP_len (p := p) (l := l) hp.1 HOK.out j (by
        have := (nch_lt (p := p) (by omega) l j).2 (by rw [HL.out]; exact hj)
        omega))
      have HO1 : Hid (outP p l (j + 1) = outP p l j ++ frameL (encL (chk p l j))) := Lib.hid rfl
      have HI1 : Hid (idxP p l (j + 1) = idxP p l j ++ (uv (frameL (encL (chk p l j))).length ++ uv x.key.size ++ x.key.data.toList ++ uv x.seq.toNat)) := Lib.hid (by rw [idxP, ixE, hlx]; rfl)
      clear hek hcl hj hx hlx hox hpa hpe
      by_cases hris : risE (chk p l j) = true
      case neg =>
        rw [if_neg hris] at hcc
        have HRN : Hid (risE l = false) := Lib.hid (by
          cases h : risE l
          · rfl
          · exact absurd (chk_ris j h) hris)
        gi_wp2_with fail
        refine ⟨trivial, ?_⟩
        gi_at_call 34
        refine (CallsIn.inRound lr (callsIn_wide.2 (encode_no _ (m1 + 1) (m1 + 1) (chk p l j) HCL.out (by omega) HKC.out (by rw [hcc]; decide) q W2 RP.out hq2))).mono ?_
        rintro e W3 ⟨rfl, hb⟩
        have HC3 := Lib.hid (HC2.out.next hb)
        have HB3 := Lib.hid hb
        have c6 := HC3.out.x6.c 0 _ rfl
        have c7 := HC3.out.x7.c 0 _ rfl
        have f6 := HC3.out.x6.fz
        have f7 := HC3.out.x7.fz
        have l6 := HC3.out.x6.lt
        have l7 := HC3.out.x7.lt
        have hqn : ∀ W, (binOp .eql 26 (.slice none 0 0) (.slice none 0 0)).run Try.prog W = .ok (.bool true) W := fun W => (Lib.run_eql_slice_nil (P := Try.prog) W 26 5 none 0 0 0 0 Try.underlying26).trans rfl
        clear hb HC2 RP hcc hris
        gi_wp2
        have Y6 := bxv_far (bxv_put HC3.out.x6 0 (by simp) (.slice none 0 0)) (show q + 1 ≠ q by omega) 0 (.int .i64 10)
        have Y7 := bxv_put (bxv_far HC3.out.x7 (show q ≠ q + 1 by omega) 0 (.slice none 0 0)) 0 (by simp) (.int .i64 10)
        have YB := (HC3.out.bel.setCell (p := ⟨q, 0, none⟩) (Nat.le_refl _) (.slice none 0 0)).setCell (p := ⟨q + 1, 0, none⟩) (by show q ≤ q + 1; omega) (.int .i64 10)
        refine ⟨⟨HRN.out, YB, Y6, Y7⟩, by simp only [World.size_setCell]; exact HB3.out.size, ?_, ?_⟩
        · rw [Below.heap_setCell _ _ _ _ (by show _ ≠ q + 1; omega), Below.heap_setCell _ _ _ _ (by show _ ≠ q; omega)]
          exact HB3.out.block _ (by omega)
        · rw [Below.heap_setCell _ _ _ _ (by show _ ≠ q + 1; omega), Below.heap_setCell _ _ _ _ (by show _ ≠ q; omega)]
          exact HB3.out.block _ (by omega)
      rw [if_pos hris] at hcc
      gi_wp2_with fail
      refine ⟨trivial, ?_⟩
      gi_at_call 34
      have HEN := Lib.hid (encode_any _ (m1 + 1) (m1 + 1) (chk p l j) HCL.out (by omega) HKC.out q W2 RP.out hq2)
      rw [hcc] at HEN
      refine (CallsIn.inRound lr (callsIn_wide.2 HEN.out)).mono ?_
      rintro e W3 ⟨v3, rfl, own3, hb⟩
      have hel := encL_len (chk p l j)
      have hep := encL_pos hcc
      obtain ⟨A3, c3, rfl, q3, r3⟩ := own_sl own3
      obtain ⟨g3, rfl⟩ := own_blkC own3 (by omega)
      have R3 := Lib.hid r3
      have HC3 := Lib.hid (HC2.out.next hb)
      have HB3 := Lib.hid ((Kp2.refl w4.heap.size W2).next hz2s hb)
      have E3 : Hid (EnI W3 pb (po + m1 * 4) x) := Lib.hid (HPE.out.below hpb (hb.mono hq2))
      have hz3s : w4.heap.size + 2 ≤ W3.heap.size := by have := hb.size; omega
      have hqn := fun W => Lib.run_eql_slice_nil (P := Try.prog) W 26 5 (some ⟨g3, 0, none⟩) (encL (chk p l j)).length c3 0 0 Try.underlying26
      clear hb HC2 RP HEN own3 r3 HPE
      have hol := HOL.out
      have hil := HIL.out
      clear HOL HIL
      obtain ⟨EN, hEN⟩ : ∃ EN, EN = encL (chk p l j) := ⟨_, rfl⟩
      obtain ⟨O0, hO0⟩ : ∃ O0, O0 = outP p l j := ⟨_, rfl⟩
      obtain ⟨I0, hI0⟩ : ∃ I0, I0 = idxP p l j := ⟨_, rfl⟩
      rw [← hEN] at hel hep R3 hqn HO1 HI1 q3
      rw [← hO0] at HC3 hol HO1
      rw [← hI0] at HC3 hil HI1
      simp only [← hEN]
      clear hEN hO0 hI0
      obtain ⟨Ao, co, o1, o2⟩ := HC3.out.o
      have OO := Lib.hid o2
      have c11 := o1.c 0 _ rfl
      have l11 := o1.lt
      clear o1 o2
      gi_wp2_with fail
      refine ⟨trivial, ?_⟩
      gi_at_call 35
      refine (CallsIn.inRound lr (callsIn_wide.2 (framed_any Ao (some ⟨g3, 0, none⟩) O0.length co W3.heap.size EN.length c3 W3.heap.size O0 EN rfl rfl (by omega) (by omega) W3 OO.out.rd (Nat.le_refl _) R3.out (Nat.le_refl _)))).mono ?_
      rintro e W4 ⟨v4, rfl, own4, hb⟩
      obtain ⟨O1, A4, c4', hO1, rfl, o4, r4⟩ := nxB (base' := W3.heap.size) (b := O0) (ys := frameL EN) own4 rfl (Nat.le_refl _)
      have HFL := Lib.hid (frameL_length EN)
      have HO1L : Hid (O1.length = O0.length + (frameL EN).length) := Lib.hid (by rw [hO1, List.length_append])
      have HO1' : Hid (outP p l (j + 1) = O1) := Lib.hid (by rw [HO1.out, hO1])
      have RN4 := Lib.hid (rdn_own (z := w4.heap.size) o4 (by omega))
      have HC4 := Lib.hid (HC3.out.next hb)
      have HB4 := Lib.hid (HB3.out.next hz2s hb)
      have E4 : Hid (EnI W4 pb (po + m1 * 4) x) := Lib.hid (E3.out.below (by omega) (hb.mono (Nat.le_refl _)))
      obtain ⟨Ao4, co4, o1, -⟩ := HC4.out.o
      have c11 := o1.c 0 _ rfl
      have l11 := o1.lt
      have f11 := o1.fz
      clear hb own4 o4 r4 HC3 HB3 E3 OO R3 hqn HO1 hO1 o1
      have hs0 : ∀ v, (W4.setCell ⟨q2, 0, none⟩ v).cell? ⟨pb, po + m1 * 4, none⟩ = some (.string x.key) := fun v => (World.cell?_setCell_other W4 ⟨q2, 0, none⟩ ⟨pb, _, none⟩ v (fun e => by injection e with e; omega)).trans E4.out.c0
      have hs1 : ∀ v, (W4.setCell ⟨q2, 0, none⟩ v).cell? ⟨pb, po + m1 * 4 + 1, none⟩ = some (.string x.val) := fun v => (World.cell?_setCell_other W4 ⟨q2, 0, none⟩ ⟨pb, _, none⟩ v (fun e => by injection e with e; omega)).trans E4.out.c1
      have hs2 : ∀ v, (W4.setCell ⟨q2, 0, none⟩ v).cell? ⟨pb, po + m1 * 4 + 2, none⟩ = some (.int .i64 x.seq) := fun v => (World.cell?_setCell_other W4 ⟨q2, 0, none⟩ ⟨pb, _, none⟩ v (fun e => by injection e with e; omega)).trans E4.out.c2
      have hs3 : ∀ v, (W4.setCell ⟨q2, 0, none⟩ v).cell? ⟨pb, po + m1 * 4 + 3, none⟩ = some (.bool x.del) := fun v => (World.cell?_setCell_other W4 ⟨q2, 0, none⟩ ⟨pb, _, none⟩ v (fun e => by injection e with e; omega)).trans E4.out.c3
      have zb4 : pb < W4.heap.size := by have := E4.out; exact World.block_lt_of_cell? W4 _ this.c0
      obtain ⟨Ai4, ci4, i1, i2⟩ := HC4.out.i
      have II4 := Lib.hid i2
      have c12 := i1.c 0 _ rfl
      have l12 := i1.lt
      clear i1 i2
      gi_wp2_with fail
      refine ⟨trivial, ?_⟩
      have hfl := HFL.out
      have ho1l := HO1L.out
      have hcv : IntKind.u64.wrap (wrap64 ((O1.length : Int) - (O0.length : Int))) = ((frameL EN).length : Int) := by
        rw [IntWalk.wrap64_in _ ⟨by omega, by omega⟩, IntWalk.u64_in _ (by omega)]
        omega
      rw [hcv]
      have hal : Below (W4.setCell ⟨q2, 0, none⟩ (.slice A4 O1.length c4')).heap.size (W4.setCell ⟨q2, 0, none⟩ (.slice A4 O1.length c4')) ((W4.setCell ⟨q2, 0, none⟩ (.slice A4 O1.length c4')).alloc (.cells #[.string x.key, .string x.val, .int .i64 x.seq, .bool x.del] 40)) := (Below.refl _ _).alloc (Nat.le_refl _) _
      have HC5 := Lib.hid ((HC4.out.setO hzz (co := c4') RN4.out).next hal)
      have HB5 := Lib.hid ((HB4.out.set (g := q2) (by omega) 0 (.slice A4 O1.length c4')).next hz2s hal)
      have II5 := Lib.hid ((II4.out.set (p := q2) (by omega) 0 (.slice A4 O1.length c4')).next hal)
      have XE5 : Hid (BxV ((W4.setCell ⟨q2, 0, none⟩ (.slice A4 O1.length c4')).alloc (.cells #[.string x.key, .string x.val, .int .i64 x.seq, .bool x.del] 40)) W4.heap.size [.string x.key, .string x.val, .int .i64 x.seq, .bool x.del]) := Lib.hid (by
        have h := BxV.new (W4.setCell ⟨q2, 0, none⟩ (.slice A4 O1.length c4')) #[.string x.key, .string x.val, .int .i64 x.seq, .bool x.del] 40
        rwa [World.size_setCell] at h)
      have hbx : w4.heap.size + 2 ≤ W4.heap.size := by have := HB4.out.size; omega
      generalize (W4.setCell ⟨q2, 0, none⟩ (.slice A4 O1.length c4')).alloc (.cells #[.string x.key, .string x.val, .int .i64 x.seq, .bool x.del] 40) = W5 at *
      generalize W4.heap.size = bx at *
      have hz5s : w4.heap.size + 2 ≤ W5.heap.size := by have := HB5.out.size; omega
      clear hal hcv HC4 HB4 II4 E4 RN4 hs0 hs1 hs2 hs3 zb4 c11 l11 f11 c12 l12 hfl ho1l
      gi_at_call 36
      refine (CallsIn.inRound lr (callsIn_wide.2 (appU_any Ai4 I0.length ci4 W5.heap.size I0 rfl (by omega) (frameL EN).length (by have := HFL.out; omega) W5 II5.out.rd (Nat.le_refl _)))).mono ?_
      rintro e W6 ⟨v6, rfl, own6, hb⟩
      obtain ⟨I1, A6, c6', hI1, rfl, o6, r6⟩ := nxB (base' := W5.heap.size) (b := I0) (ys := uv (frameL EN).length) own6 rfl (Nat.le_refl _)
      have HI1a := Lib.hid hI1
      have hl1 : I1.length ≤ I0.length + 10 := by
        have := uv_len10 (x := (frameL EN).length) (by have := HFL.out; omega)
        rw [hI1, List.length_append]
        omega
      have RN6 := Lib.hid (rdn_own (z := w4.heap.size) o6 (by omega))
      have HC6 := Lib.hid (HC5.out.next hb)
      have HB6 := Lib.hid (HB5.out.next hz2s hb)
      have XE6 := Lib.hid (XE5.out.next hb)
      obtain ⟨Ai6, ci6, i1, -⟩ := HC6.out.i
      have c12 := i1.c 0 _ rfl
      have l12 := i1.lt
      have f12 := i1.fz
      clear hb own6 o6 r6 hI1 HC5 HB5 II5 XE5 i1
      gi_wp2_with fail
      have HC7 := Lib.hid (HC6.out.setI hzz (ci := c6') RN6.out)
      have HB7 := Lib.hid (HB6.out.set (g := q2 + 1) (by omega) 0 (.slice A6 I1.length c6'))
      have RN7 := Lib.hid (RN6.out.set (p := q2 + 1) (by omega) 0 (.slice A6 I1.length c6'))
      have XE7 := Lib.hid (bxv_far XE6.out (show q2 + 1 ≠ bx by omega) 0 (.slice A6 I1.length c6'))
      have XI7 : Hid (BxV (W6.setCell ⟨q2 + 1, 0, none⟩ (.slice A6 I1.length c6')) (q2 + 1) [.slice A6 I1.length c6']) := Lib.hid (by
        obtain ⟨_, _, i1, -⟩ := HC6.out.i
        exact bxv_put i1 0 (by simp) _)
      generalize W6.setCell ⟨q2 + 1, 0, none⟩ (.slice A6 I1.length c6') = W7 at *
      clear HC6 HB6 XE6 RN6 c12 l12 f12
      have hdr : Below W7.heap.size W7 W7.drew := Below.drew (Below.refl _ _)
      refine wpIn_rheldcut (S := fun W => BxV W (q2 + 1) [.slice A6 I1.length c6'] ∧ BxV W bx [.string x.key, .string x.val, .int .i64 x.seq, .bool x.del]) 8 (by kernel_rfl) (by kernel_rfl) (fun a w h => h) (by kernel_rfl) ⟨XI7.out.next hdr, XE7.out.next hdr⟩ (fun hHeld => ?_)
      simp only [List.take_succ_cons, List.take_zero]
      have hx512 : x.key.size ≤ 512 := HQX.out.2.2.2.1
      have hku : IntKind.u64.wrap (x.key.size : Int) = (x.key.size : Int) := IntWalk.u64_in _ (by omega)
      refine takeL (i := 0) (v := ?_) rfl (by kernel_rfl) (by kernel_rfl) (by kernel_rfl) (fun _ _ _ h => h) ⟨by rfl, ?_⟩ (by first | assumption | trivial) ?_
      rotate_left
      · intro W9 hSw
        (try dsimp only at hSw)
        (have y := hSw.1.c 0 _ rfl; have yl := hSw.1.lt)
        go_simp
        try with_reducible rfl
      (try simp only [Act.put, List.setIfInBounds_toArray, List.set_cons_zero, List.set_cons_succ])
      refine takeL (i := 1) (v := ?_) rfl (by kernel_rfl) (by kernel_rfl) (by kernel_rfl) (fun _ _ _ h => h) ⟨by rfl, ?_⟩ (by first | assumption | trivial) ?_
      rotate_left
      · intro W9 hSw
        (try dsimp only at hSw)
        go_simp
        try with_reducible rfl
      (try simp only [Act.put, List.setIfInBounds_toArray, List.set_cons_zero, List.set_cons_succ])
      refine takeL (i := 2) (v := ?_) rfl (by kernel_rfl) (by kernel_rfl) (by kernel_rfl) (fun _ _ _ h => h) ⟨by rfl, ?_⟩ (by first | assumption | trivial) ?_
      rotate_left
      · intro W9 hSw
        (try dsimp only at hSw)
        (have y := hSw.2.c 0 _ rfl; have yl := hSw.2.lt)
        go_simp
        try with_reducible rfl
      (try simp only [Act.put, List.setIfInBounds_toArray, List.set_cons_zero, List.set_cons_succ])
      refine takeL (i := 3) (v := ?_) rfl (by kernel_rfl) (by kernel_rfl) (by kernel_rfl) (fun _ _ _ h => h) ⟨by rfl, ?_⟩ (by first | assumption | trivial) ?_
      rotate_left
      · intro W9 hSw
        (try dsimp only at hSw)
        go_simp
        try with_reducible rfl
      (try simp only [Act.put, List.setIfInBounds_toArray, List.set_cons_zero, List.set_cons_succ])
      refine takeL (i := 4) (v := ?_) rfl (by kernel_rfl) (by kernel_rfl) (by kernel_rfl) (fun _ _ _ h => h) ⟨by rfl, ?_⟩ (by first | assumption | trivial) ?_
      rotate_left
      · intro W9 hSw
        (try dsimp only at hSw)
        go_simp
        try with_reducible rfl
      (try simp only [Act.put, List.setIfInBounds_toArray, List.set_cons_zero, List.set_cons_succ])
      refine takeL (i := 6) (v := ?_) rfl (by kernel_rfl) (by kernel_rfl) (by kernel_rfl) (fun _ _ _ h => h) ⟨by rfl, ?_⟩ (by first | assumption | trivial) ?_
      rotate_left
      · intro W9 hSw
        (try dsimp only at hSw)
        go_simp
        try with_reducible rfl
      (try simp only [Act.put, List.setIfInBounds_toArray, List.set_cons_zero, List.set_cons_succ])
      refine takeL (i := 7) (v := ?_) rfl (by kernel_rfl) (by kernel_rfl) (by kernel_rfl) (fun _ _ _ h => h) ⟨by rfl, ?_⟩ (by first | assumption | trivial) ?_
      rotate_left
      · intro W9 hSw
        (try dsimp only at hSw)
        (have y := hSw.2.c 0 _ rfl; have yl := hSw.2.lt)
        go_simp
        try with_reducible rfl
      (try simp only [Act.put, List.setIfInBounds_toArray, List.set_cons_zero, List.set_cons_succ])
      clear hHeld
      have HC8 := Lib.hid (HC7.out.next hdr)
      have HB8 := Lib.hid (HB7.out.next hz2s hdr)
      have RN8 := Lib.hid (RN7.out.next hdr)
      have XE8 := Lib.hid (XE7.out.next hdr)
      have XI8 := Lib.hid (XI7.out.next hdr)
      clear hdr HC7 HB7 RN7 XE7 XI7
      generalize W7.drew = W8 at *
      have hz8s : w4.heap.size + 2 ≤ W8.heap.size := by have := HB8.out.size; omega
      refine wpAnyH_ready (rs := [5]) (by kernel_rfl) (by simp) ?_
      refine consL rfl (by rfl) (fun K hK => ?_) ?_
      · go_simp
        go_at_call 36
        refine (appU_any A6 I1.length c6' W8.heap.size I1 rfl (by omega) x.key.size (by omega) W8 RN8.out.rd (Nat.le_refl _)).mono ?_
        rintro e W9 ⟨v9, rfl, own9, hb⟩
        obtain ⟨J1, A9, c9, hJ1, rfl, o9, -⟩ := nxB (base' := W8.heap.size) (b := I1) (ys := uv x.key.size) own9 rfl (Nat.le_refl _)
        have hl2 : J1.length ≤ I1.length + 10 := by
          have := uv_len10 (x := x.key.size) (by omega)
          rw [hJ1, List.length_append]
          omega
        have HJ1 := Lib.hid hJ1
        have O9 := Lib.hid o9
        have HBB := Lib.hid hb
        have XE9 := Lib.hid (XE8.out.next hb)
        have XI9 := Lib.hid (XI8.out.next hb)
        have hz89 := hb.size
        refine hK.out _ _ ⟨XI9.out, XE9.out⟩ (fun _ => ?_)
        clear hK K hb own9 o9 hJ1 RN8 XI8
        (try simp only [Act.put, List.setIfInBounds_toArray, List.set_cons_zero, List.set_cons_succ])
        refine wpAnyH_done (by kernel_rfl) ?_ _
        simp only [tailPost, List.drop_succ_cons, List.drop_zero]
        go_wp2_with (at_builtin; refine wpList_appS styB Try.underlying9 (.tmp 99) (.tmp 101) rfl rfl W8.heap.size O9.out rfl x.key rfl (by unfold maxLen; omega) (by omega) hz89 ?_; intro v10 W10 own10 gr10; have b10 : Below W8.heap.size W9 W10 := (Below.refl _ _).grown gr10 hz89 (fun g e => (O9.out.lt g e).1); have XI10 := XI9.out.below b10 (by have := hz8s; omega); have y := XI10.c 0 _ rfl; have yl := XI10.lt; have yf := XI10.fz; obtain ⟨I2, A10, c10, hI2, rfl, o10, r10⟩ := nxB (base' := W8.heap.size) (b := J1) (ys := x.key.data.toList) own10 (by rw [bv_append]) (Nat.le_refl _); have HI2a := Lib.hid hI2; clear hI2)
        have hl3 : I2.length ≤ J1.length + 512 := by
          have h3 : x.key.data.toList.length = x.key.size := Array.length_toList
          rw [HI2a.out, List.length_append]
          omega
        have hb10 := HBB.out.trans b10
        have RN10 := Lib.hid (rdn_own (z := w4.heap.size) o10 (by omega))
        have HC10 := Lib.hid (HC8.out.next hb10)
        have HB10 := Lib.hid (HB8.out.next hz2s hb10)
        have XE10 := Lib.hid (XE8.out.next hb10)
        have HC11 := Lib.hid (HC10.out.setI hzz (ci := c10) RN10.out)
        have HB11 := Lib.hid (HB10.out.set (g := q2 + 1) (by omega) 0 (.slice A10 I2.length c10))
        have RN11 := Lib.hid (RN10.out.set (p := q2 + 1) (by omega) 0 (.slice A10 I2.length c10))
        have XE11 := Lib.hid (bxv_far XE10.out (show q2 + 1 ≠ bx by omega) 0 (.slice A10 I2.length c10))
        have XI11 := bxv_put XI10 0 (by simp) (.slice A10 I2.length c10)
        clear b10 hb10 own10 gr10 o10 r10 XI10 y yl yf HC8 HB8 XE8 HC10 HB10 XE10 RN10 HBB O9 XE9 XI9
        generalize W10.setCell ⟨q2 + 1, 0, none⟩ (.slice A10 I2.length c10) = W11 at *
        have hz11 : w4.heap.size + 2 ≤ W11.heap.size := by have := HB11.out.size; omega
        have y0 := XI11.c 0 _ rfl
        have yl := XI11.lt
        have s2 := XE11.out.c 2 _ rfl
        have sl := XE11.out.lt
        have hq1 := HQX.out.1
        have hq2' := HQX.out.2.1
        obtain ⟨sN, hsN⟩ : ∃ n : Nat, n = x.seq.toNat := ⟨_, rfl⟩
        have hsu : IntKind.u64.wrap x.seq = (sN : Int) := by rw [IntWalk.u64_in _ (by omega)]; omega
        have hs64 : sN ≤ 1073741824 := by have := HQX.out.2.1; omega
        have HSN := Lib.hid hsN
        clear hsN hq1 hq2'
        gi_wp2_with fail
        refine ⟨trivial, ?_⟩
        gi_at_call 36
        refine (CallsIn.inRound lr (callsIn_wide.2 (appU_any A10 I2.length c10 W11.heap.size I2 rfl (by omega) sN (by omega) W11 RN11.out.rd (Nat.le_refl _)))).mono ?_
        rintro e W12 ⟨v12, rfl, own12, hb⟩
        obtain ⟨I3, A12, c12', hI3, rfl, o12, r12⟩ := nxB (base' := W11.heap.size) (b := I2) (ys := uv sN) own12 rfl (Nat.le_refl _)
        have HI3 : Hid (idxP p l (j + 1) = I3) := Lib.hid (by rw [HI1.out, hI3, HSN.out, HI2a.out, HJ1.out, HI1a.out]; simp only [List.append_assoc])
        have RN12 := Lib.hid (rdn_own (z := w4.heap.size) o12 (by omega))
        have HC12 := Lib.hid (HC11.out.next hb)
        have HB12 := Lib.hid (HB11.out.next hz2s hb)
        obtain ⟨_, _, i1, -⟩ := HC12.out.i
        have y0 := i1.c 0 _ rfl
        have yl := i1.lt
        have yf := i1.fz
        have m0 := HC12.out.m.c 0 _ rfl
        have ml := HC12.out.m.lt
        have mf := HC12.out.m.fz
        clear hb own12 o12 r12 hI3 HC11 HB11 RN11 XE11 XI11 i1 s2 sl
        have hj64 : IntKind.i64.wrap ((j : Int) + 1) = (j : Int) + 1 := IntWalk.i64_in _ (by omega)
        gi_wp2
        have HC13 := (HC12.out.setI hzz (ci := c12') RN12.out).setM hzz (j + 1)
        have HB13 := (HB12.out.set (g := q2 + 1) (by omega) 0 (.slice A12 I3.length c12')).set (g := q2 + 1 + 1) (by omega) 0 (.int .i64 ((j : Int) + 1))
        refine ⟨⟨fun k hk => ?_, by rw [HO1'.out, HI3.out]; exact HC13⟩, HB13.size, HB13.h0, HB13.h1⟩
        rcases Nat.lt_or_ge k j with h | h
        · exact HRI.out k h
        · have e : k = j := by omega
          rw [e]
          exact hris
      · exact AllReadyH.nil
    · intro W hR hd
      obtain ⟨hRis, hC⟩ := hR
      rw [show (i + p - 1) / p = nch p l by unfold nch; rw [HL.out]] at hRis hC
      have HC5 := Lib.hid hC
      have HD5 := Lib.hid hd
      obtain ⟨w5, rfl⟩ : ∃ x, x = W := ⟨_, rfl⟩
      have hz5 : w4.heap.size < w5.heap.size := (Array.getElem?_eq_some_iff.1 hd).1
      have hq5 : q ≤ w5.heap.size := by omega
      have BQ5 := Lib.hid (BW4.out.trans hC.bel)
      clear hRis hC hd
      go_wp2_with fail
      go_loopw [13, 112] (fun s13 s112 wr => ∃ (Ak : Option Addr) (k ck : Nat), s13 = .slice Ak k ck ∧ s112 = .int .i64 (k : Int) ∧ k ≤ i ∧ Hid (wr.ownsRow w5.heap.size 9 1 (.slice Ak k ck) k (sv ((keysE l).take k))) ∧ Hid (risTo l k) ∧ Hid (Below w5.heap.size w5 wr)) (fun _ s112 _ => i - (intOf s112).toNat)
      case atStart => exact ⟨none, 0, 0, rfl, rfl, Nat.zero_le _, Lib.hid (World.ownsRow_nil _ _ _ _), Lib.hid (fun j a b hj => by omega), Lib.hid (Below.refl _ _)⟩
      case round =>
        obtain ⟨Ak, k, ck, rfl, rfl, hki, OK, HRT, B6⟩ := hrel
        obtain ⟨w6, rfl⟩ : ∃ x, x = wr := ⟨_, rfl⟩
        have hz56 := B6.out.size
        by_cases hlt : k < i
        · obtain ⟨x, hx⟩ : ∃ x, l[k]? = some x := ⟨_, List.getElem?_eq_getElem (by rw [HL.out]; exact hlt)⟩
          obtain ⟨bb, off, rfl, hb, hce⟩ := en_at HR.out hx
          obtain ⟨d0, d1, d2, d3⟩ := hce.below hb (BQ5.out.trans (B6.out.mono hq5))
          have zb : bb < w6.heap.size := by omega
          have i1 : (k : Int) < (i : Int) := by omega
          have i0 : (0 : Int) ≤ (k : Int) := by omega
          have HXX := Lib.hid hx
          have hox := HOK.out x (List.mem_of_getElem? hx)
          have hx512 := (okE_b hox).2.2.2.1
          clear hce hx hox
          go_upto_region 30 with (fail)
          have hal : Below w6.heap.size w6 (w6.alloc (.cells #[.string x.key, .string x.val, .int .i64 x.seq, .bool x.del] 40)) := (Below.refl _ _).alloc (Nat.le_refl _) _
          have XE7 := Lib.hid (BxV.new w6 #[.string x.key, .string x.val, .int .i64 x.seq, .bool x.del] 40)
          have B7 := Lib.hid (B6.out.trans (hal.mono hz56))
          have OK7 := Lib.hid (own_keep OK.out hal (Nat.le_refl _))
          generalize w6.alloc (.cells #[.string x.key, .string x.val, .int .i64 x.seq, .bool x.del] 40) = w7 at *
          generalize w6.heap.size = bx at *
          have hz57 := B7.out.size
          clear hal B6 OK d0 d1 d2 d3 zb
          have x0 := XE7.out.c 0 _ rfl
          have x1 := XE7.out.c 1 _ rfl
          have x2 := XE7.out.c 2 _ rfl
          have x3 := XE7.out.c 3 _ rfl
          have xl := XE7.out.lt
          by_cases hk0 : k = 0
          · have p1 : decide ((0 : Int) < (k : Int)) = false := decide_eq_false (by omega)
            have p1n : decide (0 < k) = false := decide_eq_false (by omega)
            have HRT9 : Hid (risTo l (k + 1)) := Lib.hid (fun j a b hj => by omega)
            clear hk0 HRT
            refine wp_qall (by kernel_rfl) (by kernel_rfl) ?_
            intro hcg
            repeat (first | go_big_quiet_step (fail) | quiet_step (fail))
            refine wpQuiet_nil ?_
            intro wq hbwq hcwq hfwq
            clear hcg
            have B9 := Lib.hid (B7.out.trans (hbwq.mono hz57))
            have OK9 := Lib.hid (own_keep OK7.out hbwq (Nat.le_refl _))
            have y0 := (hcwq _ _ xl).trans x0
            have yl : bx < wq.heap.size := Nat.lt_of_lt_of_le xl hbwq.size
            have hz5q := B9.out.size
            have HKY := Lib.hid (keys_succ HXX.out)
            have hkl : ((keysE l).take k).length = k := by rw [List.length_take]; unfold keysE; rw [List.length_map, HL.out]; omega
            clear hbwq hcwq hfwq x0 x1 x2 x3 xl
            go_wp2_with (at_builtin; refine wpList_app styS (.tmp 129) (.tmp 132) rfl rfl w5.heap.size (OK9.out.alloc _) rfl 1 1 (rd_frC _ _ _ _) rfl rfl (by simp [Value.oneCell']) (by unfold maxLen; omega) (by omega) (by rw [World.size_alloc]; omega) ?_; intro v9 w9 own9 gr9 nil9 at9; obtain ⟨A9, c9, rfl, -, -⟩ := own_sl own9; have BB := Lib.hid ((B9.out.alloc hz5q (.cells #[.string x.key] 9)).grown gr9 (by rw [World.size_alloc]; omega) (fun g e => (OK9.out.lt g e).1)))
            have O9 : Hid (w9.ownsRow w5.heap.size 9 1 (.slice A9 (k + 1) c9) (k + 1) (sv ((keysE l).take (k + 1)))) := Lib.hid (own_eq own9 rfl (by rw [HKY.out]; simp [sv]))
            clear own9 gr9 nil9 at9
            go_roundw
            case rel => exact ⟨A9, k + 1, c9, rfl, by go_num, by omega, O9, HRT9, BB⟩
            case measure => (first | (simp [intOf]; done) | (simp [intOf]; omega))
          · obtain ⟨j, hj⟩ : ∃ j, k = j + 1 := ⟨k - 1, by omega⟩
            obtain ⟨y, hy⟩ : ∃ y, l[j]? = some y := ⟨_, List.getElem?_eq_getElem (by rw [HL.out]; omega)⟩
            obtain ⟨b', off', e', hb', hce'⟩ := en_at HR.out hy
            injection e' with e'
            injection e' with e1 e2
            subst e1
            subst e2
            obtain ⟨f0, f1, f2, f3⟩ := hce'.below hb' (BQ5.out.trans (B7.out.mono hq5))
            have p1 : decide ((0 : Int) < (k : Int)) = true := decide_eq_true (by omega)
            have p1n : decide (0 < k) = true := decide_eq_true (by omega)
            have p2 : IntKind.i64.wrap ((k : Int) - 1) = (j : Int) := by rw [IntWalk.i64_in _ (by omega)]; omega
            have p3 : (0 : Int) ≤ (j : Int) := by omega
            have p4 : (j : Int) < (i : Int) := by omega
            have zb7 : bb < w7.heap.size := by omega
            have HA1 := Lib.hid (fun W => ahead_any y x W)
            have HY := Lib.hid hy
            have HJ := Lib.hid hj
            clear hce' hy hj hk0 hb'
            cases hyx : ltE y x
            · have HRN : Hid (E = 10 ∧ S = []) := Lib.hid (by
                have h1 := HE2.out
                rw [risTo_no HY.out (by rw [← HJ.out]; exact HXX.out) hyx] at h1
                have h3 : E = 10 := h1
                exact ⟨h3, by rw [HS.out, h3]; rfl⟩)
              rw [hyx] at HA1
              clear hyx HRT
              refine wp_qall (by kernel_rfl) (by kernel_rfl) ?_
              intro hcg
              repeat (first | go_big_quiet_step ((with_reducible (exact Calls.reg (HA1.out _)))) | quiet_step ((with_reducible (exact Calls.reg (HA1.out _)))))
              refine wpQuiet_nil ?_
              intro wq hbwq hcwq hfwq
              clear hcg
              have B9 := B7.out.trans (hbwq.mono hz57)
              have HC9 := Lib.hid (HC5.out.next B9)
              have HD9 : Hid (wq.heap[w4.heap.size]? = some (.deferred (some []))) := Lib.hid ((B9.block _ hz5).trans HD5.out)
              clear hbwq hcwq hfwq x0 x1 x2 x3 xl f0 f1 f2 f3 zb7
              have c6 := HC9.out.x6.c 0 _ rfl
              have c7 := HC9.out.x7.c 0 _ rfl
              have g6 := HC9.out.x6.fz
              have g7 := HC9.out.x7.fz
              have l6 := HC9.out.x6.lt
              have l7 := HC9.out.x7.lt
              go_wp2_with fail
              refine ⟨by simp, .inl ⟨_, _, rfl, run_takeDeferred (by
                rw [Below.heap_setCell _ _ _ _ (by show _ ≠ q + 1; omega), Below.heap_setCell _ _ _ _ (by show _ ≠ q; omega)]
                exact HD9.out), ?_⟩⟩
              have Y6 := bxv_far (bxv_put HC9.out.x6 0 (by simp) (.slice none 0 0)) (show q + 1 ≠ q by omega) 0 (.int .i64 10)
              have Y7 := bxv_put (bxv_far HC9.out.x7 (show q ≠ q + 1 by omega) 0 (.slice none 0 0)) 0 (by simp) (.int .i64 10)
              have YB := (HC9.out.bel.setCell (p := ⟨q, 0, none⟩) (Nat.le_refl _) (.slice none 0 0)).setCell (p := ⟨q + 1, 0, none⟩) (by show q ≤ q + 1; omega) (.int .i64 10)
              generalize (wq.setCell ⟨q, 0, none⟩ (.slice none 0 0)).setCell ⟨q + 1, 0, none⟩ (.int .i64 10) = wf at *
              have hput := putObj_belowB (B := w4.heap.size) (W := wf) (l := w4.heap.size) (.deferred none) (Nat.le_refl _)
              refine leave_build rfl rfl ((hput.cell (p := ⟨q, 0, none⟩) (by show q < _; omega)).trans (Y6.c 0 _ rfl)) ((hput.cell (p := ⟨q + 1, 0, none⟩) (by show q + 1 < _; omega)).trans (Y7.c 0 _ rfl)) ?_
              rw [HRN.out.1, HRN.out.2, ← HQ.out]
              exact ⟨none, 0, rfl, World.ownsRow_nil _ _ _ _, BW4.out.trans (YB.trans (hput.mono (by omega)))⟩
            · have HRT9 : Hid (risTo l (k + 1)) := Lib.hid (fun j' a b hj' ha hb => by
                rcases Nat.lt_or_ge (j' + 1) k with h | h
                · exact HRT.out j' a b h ha hb
                · have e1 : j' = j := by have := HJ.out; omega
                  subst e1
                  have h1 := HY.out
                  rw [ha] at h1
                  injection h1 with h1
                  have h2 := HXX.out
                  rw [HJ.out, hb] at h2
                  injection h2 with h2
                  rw [h1, h2]
                  exact hyx)
              rw [hyx] at HA1
              clear hyx HRT
              refine wp_qall (by kernel_rfl) (by kernel_rfl) ?_
              intro hcg
              repeat (first | go_big_quiet_step ((with_reducible (exact Calls.reg (HA1.out _)))) | quiet_step ((with_reducible (exact Calls.reg (HA1.out _)))))
              refine wpQuiet_nil ?_
              intro wq hbwq hcwq hfwq
              clear hcg
              clear f0 f1 f2 f3 zb7
              have B9 := Lib.hid (B7.out.trans (hbwq.mono hz57))
              have OK9 := Lib.hid (own_keep OK7.out hbwq (Nat.le_refl _))
              have y0 := (hcwq _ _ xl).trans x0
              have yl : bx < wq.heap.size := Nat.lt_of_lt_of_le xl hbwq.size
              have hz5q := B9.out.size
              have HKY := Lib.hid (keys_succ HXX.out)
              have hkl : ((keysE l).take k).length = k := by rw [List.length_take]; unfold keysE; rw [List.length_map, HL.out]; omega
              clear hbwq hcwq hfwq x0 x1 x2 x3 xl
              go_wp2_with (at_builtin; refine wpList_app styS (.tmp 129) (.tmp 132) rfl rfl w5.heap.size (OK9.out.alloc _) rfl 1 1 (rd_frC _ _ _ _) rfl rfl (by simp [Value.oneCell']) (by unfold maxLen; omega) (by omega) (by rw [World.size_alloc]; omega) ?_; intro v9 w9 own9 gr9 nil9 at9; obtain ⟨A9, c9, rfl, -, -⟩ := own_sl own9; have BB := Lib.hid ((B9.out.alloc hz5q (.cells #[.string x.key] 9)).grown gr9 (by rw [World.size_alloc]; omega) (fun g e => (OK9.out.lt g e).1)))
              have O9 : Hid (w9.ownsRow w5.heap.size 9 1 (.slice A9 (k + 1) c9) (k + 1) (sv ((keysE l).take (k + 1)))) := Lib.hid (own_eq own9 rfl (by rw [HKY.out]; simp [sv]))
              clear own9 gr9 nil9 at9
              go_roundw
              case rel => exact ⟨A9, k + 1, c9, rfl, by go_num, by omega, O9, HRT9, BB⟩
              case measure => (first | (simp [intOf]; done) | (simp [intOf]; omega))
        obtain rfl : k = i := by omega
        have HRIS : Hid (risE l = true) := Lib.hid (risTo_end HRT.out (by rw [HL.out]; exact Nat.le_refl _))
        have SE : Hid (E = 0 ∧ S = bldB p b l) := Lib.hid (by
          have h1 := HE2.out
          rw [HRIS.out] at h1
          have h3 : E = 0 := h1
          exact ⟨h3, by rw [HS.out, h3]; rfl⟩)
        have hkl : (keysE l).length = k := by unfold keysE; rw [List.length_map, HL.out]
        have OKY : Hid (w6.ownsRow w5.heap.size 9 1 (.slice Ak k ck) k (sv (keysE l))) := Lib.hid (by
          have h := OK.out
          rwa [List.take_of_length_le (by rw [hkl]; exact Nat.le_refl _)] at h)
        have hksz : ∀ s ∈ keysE l, s.size ≤ 9223372036854775807 := fun s hs => by
          obtain ⟨x, hx, rfl⟩ := List.mem_map.1 hs
          have := (okE_b (HOK.out x hx)).2.2.2.1
          omega
        have HC6 := Lib.hid (HC5.out.next B6.out)
        have HD6 : Hid (w6.heap[w4.heap.size]? = some (.deferred (some []))) := Lib.hid ((B6.out.block _ hz5).trans HD5.out)
        have hnk : nch p l ≤ 150 := by
          have := nch_le hp.1 l
          have := HL.out
          omega
        have hol := outP_len p l (nch p l)
        have hil := idxP_len (p := p) (l := l) hp.1 HOK.out (nch p l) (Nat.le_refl _)
        have HKB : Hid (k * b ≤ 2400) := Lib.hid (Nat.le_trans (Nat.mul_le_mul (show k ≤ 150 by omega) hbt.2) (by decide))
        have HBLD : Hid (bldB p b l = outP p l (nch p l) ++ frameL (fltB b l) ++ frameL (uv (nch p l) ++ idxP p l (nch p l)) ++ frameL (le8 (outP p l (nch p l)).length ++ le8 ((outP p l (nch p l)).length + (frameL (fltB b l)).length) ++ le8 l.length)) := Lib.hid rfl
        obtain ⟨O0, hO0⟩ : ∃ x, x = outP p l (nch p l) := ⟨_, rfl⟩
        obtain ⟨I0, hI0⟩ : ∃ x, x = idxP p l (nch p l) := ⟨_, rfl⟩
        obtain ⟨mm, hmm⟩ : ∃ x, x = nch p l := ⟨_, rfl⟩
        rw [← hO0, ← hI0, ← hmm] at HC6 HBLD
        rw [← hO0, ← hmm] at hol
        rw [← hI0, ← hmm] at hil
        rw [← hmm] at hnk
        have hz6 : w4.heap.size < w6.heap.size := by have := B6.out.size; omega
        have i1 : ¬ (k : Int) < (k : Int) := by omega
        clear hO0 hI0 hmm OK HRT HC5 HD5 HE2 HS hlt hki HRIS
        go_wp2_with fail
        refine (of_any Ak k ck w6.heap.size (keysE l) hkl (by omega) hksz b hbt.1 hbt.2 w6 (own_rdL OKY.out) (Nat.le_refl _)).mono ?_
        rintro r w7 ⟨v7, rfl, own7, hb⟩
        obtain ⟨FL, A7, c7, hFL, rfl, o7, r7⟩ := nxB (base' := w6.heap.size) (b := []) (ys := bof (brounds b) (bsize k b) (bl (keysE l))) own7 (by simp) (Nat.le_refl _)
        have HFL : Hid (fltB b l = FL) := Lib.hid (by rw [hFL]; unfold fltB; rw [HL.out]; rfl)
        have hfll : FL.length ≤ 400 := by
          rw [hFL, List.nil_append, bof_length]
          have := HKB.out
          unfold bsize
          omega
        have HC7 := Lib.hid (HC6.out.next hb)
        have HD7 : Hid (w7.heap[w4.heap.size]? = some (.deferred (some []))) := Lib.hid ((hb.block _ hz6).trans HD6.out)
        have RF7 := Lib.hid r7
        have hz7 : w4.heap.size < w7.heap.size := by have := hb.size; omega
        have BQ7 := Lib.hid (BW4.out.trans HC7.out.bel)
        obtain ⟨Ao, co, o1, o2⟩ := HC7.out.o
        have XO7 := Lib.hid o1
        have RO7 := Lib.hid o2.rd
        have c11 := o1.c 0 _ rfl
        have l11 := o1.lt
        clear own7 o7 r7 hFL hb HC6 HD6 OKY hksz HKB o1 o2 hkl
        go_wp2_with fail
        refine (eight_any w7.heap.size (.slice none 0 0) 0 [] (by omega) O0.length (by omega) w7 (World.ownsRow_nil _ _ _ _) (Nat.le_refl _)).mono ?_
        rintro r w8 ⟨v8, rfl, own8, G8⟩
        have hb8 : Below w7.heap.size w7 w8 := G8.below (Nat.le_refl _) (fun g hg => by simp [Value.ownBlock] at hg)
        obtain ⟨F1, A8, c8, hF1, rfl, o8, -⟩ := nxB (base' := w7.heap.size) (b := []) (ys := le8 O0.length) own8 (by simp) (Nat.le_refl _)
        have HF1 : Hid (F1 = le8 O0.length) := Lib.hid (by rw [hF1]; rfl)
        have hf1l : F1.length = 8 := by rw [hF1]; rfl
        have HF1L := Lib.hid hf1l
        have OF8 := Lib.hid o8
        have HPFq := Lib.hid (fun g (hg : (Value.slice A8 F1.length c8).ownBlock = some g) => (o8.lt g hg).2)
        have TH8 : Hid (OthB w7.heap.size q2 w7 w8) := Lib.hid ((OthB.refl _ _ _).next hb8)
        have XO8 := Lib.hid (XO7.out.next hb8)
        have RO8 := Lib.hid ((RO7.out.below hb8).more hb8.size)
        have RF8 := Lib.hid ((RF7.out.below hb8).more hb8.size)
        have z78 := hb8.size
        have c11 := XO8.out.c 0 _ rfl
        have l11 := XO8.out.lt
        have f11 := XO8.out.fz
        clear own8 G8 hb8 hF1 o8 XO7 RO7 RF7 hf1l
        go_wp2_with fail
        refine (framed_any Ao A7 O0.length co w8.heap.size FL.length c7 w8.heap.size O0 FL rfl rfl (by omega) (by omega) w8 RO8.out (Nat.le_refl _) RF8.out (Nat.le_refl _)).mono ?_
        rintro r w9 ⟨v9, rfl, own9, hb9⟩
        obtain ⟨O1, A9, c9, hO1, rfl, o9, -⟩ := nxB (base' := w8.heap.size) (b := O0) (ys := frameL FL) own9 rfl (Nat.le_refl _)
        have HO1 := Lib.hid hO1
        have hfl := frameL_length FL
        have hO1l : O1.length ≤ O0.length + 412 := by rw [hO1, List.length_append]; omega
        have O9 := Lib.hid o9
        have OF9 := Lib.hid (own_keep OF8.out hb9 (Nat.le_refl _))
        have TH9 := Lib.hid (TH8.out.next (hb9.mono z78))
        have XO9 := Lib.hid (XO8.out.next hb9)
        have z89 := hb9.size
        have c11 := XO9.out.c 0 _ rfl
        have l11 := XO9.out.lt
        have f11 := XO9.out.fz
        clear own9 hb9 hO1 o9 OF8 TH8 XO8 RO8 RF8 hfl
        go_wp2_with fail
        have HPF := Lib.hid (fun g hg => (OF9.out.lt g hg).2)
        have TH10 := Lib.hid (TH9.out.set 0 (.slice A9 O1.length c9))
        have XO10 := Lib.hid (bxv_put XO9.out 0 (by simp) (.slice A9 O1.length c9))
        have O10 : Hid ((w9.setCell ⟨q2, 0, none⟩ (.slice A9 O1.length c9)).ownsRow w8.heap.size 5 1 (.slice A9 O1.length c9) O1.length (bv O1)) := Lib.hid (ownsRow_of O9.out (fun g hg => Below.heap_setCell _ _ _ _ (by have := (O9.out.lt g hg).1; show g ≠ q2; omega)))
        have OF10 : Hid ((w9.setCell ⟨q2, 0, none⟩ (.slice A9 O1.length c9)).ownsRow w7.heap.size 5 1 (.slice A8 F1.length c8) F1.length (bv F1)) := Lib.hid (ownsRow_of OF9.out (fun g hg => Below.heap_setCell _ _ _ _ (by have := (OF9.out.lt g hg).1; show g ≠ q2; omega)))
        have HPO := Lib.hid (fun g hg => (O9.out.lt g hg))
        have HPF8 : Hid (∀ g, (Value.slice A8 F1.length c8).ownBlock = some g → g < w8.heap.size) := HPFq
        have z910 : (w9.setCell ⟨q2, 0, none⟩ (.slice A9 O1.length c9)).heap.size = w9.heap.size := by simp
        generalize w9.setCell ⟨q2, 0, none⟩ (.slice A9 O1.length c9) = w10 at *
        have hf1l := HF1L.out
        clear TH9 XO9 O9 OF9 c11 l11 f11 HPF
        refine (eight_any w7.heap.size (.slice A8 F1.length c8) F1.length F1 (by omega) O1.length (by omega) w10 OF10.out (by omega)).mono ?_
        rintro r w11 ⟨v11, rfl, own11, G11⟩
        have hb11 : Below w7.heap.size w10 w11 := G11.below (by omega) (fun g hg => (OF10.out.lt g hg).1)
        obtain ⟨F2, A11, c11', hF2, rfl, o11, -⟩ := nxB (base' := w7.heap.size) (b := F1) (ys := le8 O1.length) own11 rfl (Nat.le_refl _)
        have HF2 := Lib.hid hF2
        have HF2L : Hid (F2.length = 16) := Lib.hid (by rw [hF2, List.length_append, hf1l]; rfl)
        have OF11 := Lib.hid o11
        have O11 := Lib.hid (ownsRow_of O10.out (W' := w11) (fun g hg => G11.gr.block g (O10.out.lt g hg).2 (fun e => by have h1 := HPF8.out g e.symm; have h2 := (HPO.out g hg).1; omega)))
        have TH11 := Lib.hid (TH10.out.next hb11)
        have XO11 := Lib.hid (XO10.out.below hb11 (by omega))
        have XM11 := Lib.hid (TH11.out.bxv HC7.out.m (by have := HC7.out.m.lt; omega) (by omega))
        obtain ⟨Ai, ci, i1', i2⟩ := HC7.out.i
        have XI7 := Lib.hid i1'
        have XI11 := Lib.hid (TH11.out.bxv i1' (by have := i1'.lt; omega) (by omega))
        have RI11 := Lib.hid ((TH11.out.rdn i2 (Nat.le_refl _) (by omega)).rd)
        have z1011 := hb11.size
        clear own11 G11 hb11 hF2 o11 hf1l TH10 XO10 O10 OF10 i1' i2
        go_wp2_with fail
        have hdr : Below w11.heap.size w11 w11.drew := Below.drew (Below.refl _ _)
        refine wp_onlyN ?_
        refine wp_heldcut2 (S := fun W => BxV W q2 [.slice A9 O1.length c9] ∧ BxV W (q2 + 2) [.int .i64 (mm : Int)] ∧ BxV W (q2 + 1) [.slice Ai I0.length ci]) 7 (by kernel_rfl) (by kernel_rfl) ⟨XO11.out.next hdr, XM11.out.next hdr, XI11.out.next hdr⟩ (fun hHeld => ?_)
        simp only [List.take_succ_cons, List.take_zero]
        have hmu : IntKind.u64.wrap (mm : Int) = (mm : Int) := IntWalk.u64_in _ (by omega)
        refine takeL (i := 0) (v := ?_) rfl (by kernel_rfl) (by kernel_rfl) (by kernel_rfl) (fun _ _ _ h => h) ⟨by rfl, ?_⟩ (by first | assumption | trivial) ?_
        rotate_left
        · intro W9 hSw
          (try dsimp only at hSw)
          (have y := hSw.1.c 0 _ rfl; have yl := hSw.1.lt)
          go_simp
          try with_reducible rfl
        (try simp only [Act.put, List.setIfInBounds_toArray, List.set_cons_zero, List.set_cons_succ])
        refine takeL (i := 1) (v := ?_) rfl (by kernel_rfl) (by kernel_rfl) (by kernel_rfl) (fun _ _ _ h => h) ⟨by rfl, ?_⟩ (by first | assumption | trivial) ?_
        rotate_left
        · intro W9 hSw
          (try dsimp only at hSw)
          (have y := hSw.2.1.c 0 _ rfl; have yl := hSw.2.1.lt)
          go_simp
          try with_reducible rfl
        (try simp only [Act.put, List.setIfInBounds_toArray, List.set_cons_zero, List.set_cons_succ])
        refine takeL (i := 2) (v := ?_) rfl (by kernel_rfl) (by kernel_rfl) (by kernel_rfl) (fun _ _ _ h => h) ⟨by rfl, ?_⟩ (by first | assumption | trivial) ?_
        rotate_left
        · intro W9 hSw
          (try dsimp only at hSw)
          go_simp
          try with_reducible rfl
        (try simp only [Act.put, List.setIfInBounds_toArray, List.set_cons_zero, List.set_cons_succ])
        refine takeL (i := 4) (v := ?_) rfl (by kernel_rfl) (by kernel_rfl) (by kernel_rfl) (fun _ _ _ h => h) ⟨by rfl, ?_⟩ (by first | assumption | trivial) ?_
        rotate_left
        · intro W9 hSw
          (try dsimp only at hSw)
          (have y := hSw.2.2.c 0 _ rfl; have yl := hSw.2.2.lt)
          go_simp
          try with_reducible rfl
        (try simp only [Act.put, List.setIfInBounds_toArray, List.set_cons_zero, List.set_cons_succ])
        clear hHeld
        have TH12 := Lib.hid (TH11.out.next (hdr.mono (by omega)))
        have O12 := Lib.hid (own_keep O11.out hdr (Nat.le_refl _))
        have OF12 := Lib.hid (own_keep OF11.out hdr (Nat.le_refl _))
        have XO12 := Lib.hid (XO11.out.next hdr)
        have XM12 := Lib.hid (XM11.out.next hdr)
        have XI12 := Lib.hid (XI11.out.next hdr)
        have RI12 := Lib.hid ((RI11.out.below hdr).more hdr.size)
        have z1112 := hdr.size
        clear hdr TH11 O11 OF11 XO11 XM11 XI11 RI11
        generalize w11.drew = w12 at *
        refine wpAnyH_ready (rs := [3]) (by kernel_rfl) (by simp) ?_
        refine consL rfl (by rfl) (fun K hK => ?_) ?_
        · go_simp
          go_at_call 36
          refine (appU_any none 0 0 w12.heap.size [] rfl (by omega) mm (by omega) w12 Rd.nil (Nat.le_refl _)).mono ?_
          rintro r w13 ⟨v13, rfl, own13, hb⟩
          obtain ⟨J1, A13, c13, hJ1, rfl, o13, -⟩ := nxB (base' := w12.heap.size) (b := []) (ys := uv mm) own13 (by simp) (Nat.le_refl _)
          have hj1 : J1.length ≤ 10 := by
            have := uv_len10 (x := mm) (by omega)
            rw [hJ1, List.length_append]
            simpa using this
          have HJ1 := Lib.hid hJ1
          have OJ13 := Lib.hid o13
          have HB13 := Lib.hid hb
          have RI13 := Lib.hid ((RI12.out.below hb).more hb.size)
          have z1213 := hb.size
          refine hK.out _ _ ⟨XO12.out.next hb, XM12.out.next hb, XI12.out.next hb⟩ (fun _ => ?_)
          clear hK K hb own13 hJ1 o13 RI12
          (try simp only [Act.put, List.setIfInBounds_toArray, List.set_cons_zero, List.set_cons_succ])
          refine wpAnyH_ready (rs := [5]) (by kernel_rfl) (by simp) ?_
          refine consL rfl (by rfl) (fun K hK => ?_) ?_
          · refine wp_app sty22 (.tmp 160) (.tmp 161) rfl w12.heap.size OJ13.out rfl I0.length ci RI13.out rfl (by rw [bv_length, Nat.mul_one]) (bv_one _) (by unfold maxLen; omega) (by omega) z1213 ?_
            intro v14 w14 own14 gr14 nil14 at14
            have b14 : Below w12.heap.size w12 w14 := HB13.out.grown gr14 z1213 (fun g e => (OJ13.out.lt g e).1)
            obtain ⟨X0, A14, c14, hX0, rfl, o14, r14⟩ := nxB (base' := w12.heap.size) (b := J1) (ys := I0) own14 (by rw [bv_append]) (Nat.le_refl _)
            have hx0 : X0.length ≤ I0.length + 10 := by rw [hX0, List.length_append]; omega
            have HX0 := Lib.hid hX0
            have RX14 := Lib.hid r14
            have O14 := Lib.hid (own_keep O12.out b14 (Nat.le_refl _))
            have OF14 := Lib.hid (own_keep OF12.out b14 (Nat.le_refl _))
            have TH14 := Lib.hid (TH12.out.next (b14.mono (by omega)))
            have XO14 := Lib.hid (XO12.out.next b14)
            have z1214 := b14.size
            refine hK.out _ _ ⟨XO14.out, XM12.out.next b14, XI12.out.next b14⟩ (fun _ => ?_)
            clear hK K own14 gr14 nil14 at14 o14 r14 hX0 b14 O12 OF12 TH12 XO12 XM12 XI12 OJ13 HB13 RI13
            (try simp only [Act.put, List.setIfInBounds_toArray, List.set_cons_zero, List.set_cons_succ])
            refine wpAnyH_ready (rs := [6]) (by kernel_rfl) (by simp) ?_
            refine consL rfl (by rfl) (fun K hK => ?_) ?_
            · go_simp
              go_at_call 35
              refine (framed_any A9 A14 O1.length c9 w14.heap.size X0.length c14 w14.heap.size O1 X0 rfl rfl (by omega) (by omega) w14 (own_rdL O14.out) (Nat.le_refl _) RX14.out (Nat.le_refl _)).mono ?_
              rintro r w15 ⟨v15, rfl, own15, hb⟩
              obtain ⟨O2, A15, c15, hO2, rfl, o15, -⟩ := nxB (base' := w14.heap.size) (b := O1) (ys := frameL X0) own15 rfl (Nat.le_refl _)
              have hfx := frameL_length X0
              have ho2 : O2.length ≤ O1.length + I0.length + 30 := by rw [hO2, List.length_append]; omega
              have HO2 := Lib.hid hO2
              have O15 := Lib.hid o15
              have HP15 := Lib.hid (fun g hg => (o15.lt g hg))
              have HPF15 := Lib.hid (fun g hg => (OF14.out.lt g hg).2)
              have OF15 := Lib.hid (own_keep OF14.out hb (Nat.le_refl _))
              have TH15 := Lib.hid (TH14.out.next (hb.mono (by omega)))
              have XO15 := Lib.hid (XO14.out.next hb)
              have z1415 := hb.size
              refine hK.out _ _ ⟨XO15.out, TH15.out.bxv HC7.out.m (by have := HC7.out.m.lt; omega) (by omega), TH15.out.bxv XI7.out (by have := XI7.out.lt; omega) (by omega)⟩ (fun _ => ?_)
              clear hK K own15 hb o15 hO2 hfx OF14 TH14 XO14 RX14 O14
              (try simp only [Act.put, List.setIfInBounds_toArray, List.set_cons_zero, List.set_cons_succ])
              refine wpAnyH_done (by kernel_rfl) ?_ _
              refine tail_held (fun _ => True) 5 (by rfl) ?_
              refine takeL (i := 7) (v := ?_) rfl (by kernel_rfl) (by kernel_rfl) (by kernel_rfl) (fun _ _ _ h => h) ⟨by rfl, ?_⟩ (by first | assumption | trivial) ?_
              rotate_left
              · intro W9 hSw
                (try dsimp only at hSw)
                go_simp
                try with_reducible rfl
              (try simp only [Act.put, List.setIfInBounds_toArray, List.set_cons_zero, List.set_cons_succ])
              refine takeL (i := 8) (v := ?_) rfl (by kernel_rfl) (by kernel_rfl) (by kernel_rfl) (fun _ _ _ h => h) ⟨by rfl, ?_⟩ (by first | assumption | trivial) ?_
              rotate_left
              · intro W9 hSw
                (try dsimp only at hSw)
                go_simp
                try with_reducible rfl
              (try simp only [Act.put, List.setIfInBounds_toArray, List.set_cons_zero, List.set_cons_succ])
              refine takeL (i := 9) (v := ?_) rfl (by kernel_rfl) (by kernel_rfl) (by kernel_rfl) (fun _ _ _ h => h) ⟨by rfl, ?_⟩ (by first | assumption | trivial) ?_
              rotate_left
              · intro W9 hSw
                (try dsimp only at hSw)
                go_simp
                try with_reducible rfl
              (try simp only [Act.put, List.setIfInBounds_toArray, List.set_cons_zero, List.set_cons_succ])
              have c11 := XO15.out.c 0 _ rfl
              have l11 := XO15.out.lt
              have f11 := XO15.out.fz
              refine wpAnyH_ready (rs := [10]) (by kernel_rfl) (by simp) ?_
              refine consL rfl (by rfl) (fun K hK => ?_) ?_
              · go_simp
                have TH16 := Lib.hid (TH15.out.set 0 (.slice A15 O2.length c15))
                have XO16 := Lib.hid (bxv_put XO15.out 0 (by simp) (.slice A15 O2.length c15))
                have O16 : Hid ((w15.setCell ⟨q2, 0, none⟩ (.slice A15 O2.length c15)).ownsRow w14.heap.size 5 1 (.slice A15 O2.length c15) O2.length (bv O2)) := Lib.hid (ownsRow_of O15.out (fun g hg => Below.heap_setCell _ _ _ _ (by have := (O15.out.lt g hg).1; show g ≠ q2; omega)))
                have OF16 : Hid ((w15.setCell ⟨q2, 0, none⟩ (.slice A15 O2.length c15)).ownsRow w7.heap.size 5 1 (.slice A11 F2.length c11') F2.length (bv F2)) := Lib.hid (ownsRow_of OF15.out (fun g hg => Below.heap_setCell _ _ _ _ (by have := (OF15.out.lt g hg).1; show g ≠ q2; omega)))
                have z1516 : (w15.setCell ⟨q2, 0, none⟩ (.slice A15 O2.length c15)).heap.size = w15.heap.size := by simp
                refine hK.out _ _ trivial (fun _ => ?_)
                clear hK K TH15 XO15 O15 OF15 c11 l11 f11
                generalize w15.setCell ⟨q2, 0, none⟩ (.slice A15 O2.length c15) = w16 at *
                (try simp only [Act.put, List.setIfInBounds_toArray, List.set_cons_zero, List.set_cons_succ])
                refine takeL (i := 11) (v := ?_) rfl (by kernel_rfl) (by kernel_rfl) (by kernel_rfl) (fun _ _ _ h => h) ⟨by rfl, ?_⟩ (by first | assumption | trivial) ?_
                rotate_left
                · intro W9 hSw
                  (try dsimp only at hSw)
                  go_simp
                  try with_reducible rfl
                (try simp only [Act.put, List.setIfInBounds_toArray, List.set_cons_zero, List.set_cons_succ])
                refine wpAnyH_done (by kernel_rfl) ?_ _
                simp only [onlyN]
                go_wp2_with fail
                have hdr : Below w16.heap.size w16 w16.drew := Below.drew (Below.refl _ _)
                refine wp_onlyN ?_
                refine wp_heldcut2 (S := fun W => BxV W q2 [.slice A15 O2.length c15]) 6 (by kernel_rfl) (by kernel_rfl) (XO16.out.next hdr) (fun hHeld => ?_)
                simp only [List.take_succ_cons, List.take_zero]
                refine takeL (i := 0) (v := ?_) rfl (by kernel_rfl) (by kernel_rfl) (by kernel_rfl) (fun _ _ _ h => h) ⟨by rfl, ?_⟩ (by first | assumption | trivial) ?_
                rotate_left
                · intro W9 hSw
                  (try dsimp only at hSw)
                  (have y := hSw.c 0 _ rfl; have yl := hSw.lt)
                  go_simp
                  try with_reducible rfl
                (try simp only [Act.put, List.setIfInBounds_toArray, List.set_cons_zero, List.set_cons_succ])
                refine takeL (i := 1) (v := ?_) rfl (by kernel_rfl) (by kernel_rfl) (by kernel_rfl) (fun _ _ _ h => h) ⟨by rfl, ?_⟩ (by first | assumption | trivial) ?_
                rotate_left
                · intro W9 hSw
                  (try dsimp only at hSw)
                  go_simp
                  try with_reducible rfl
                (try simp only [Act.put, List.setIfInBounds_toArray, List.set_cons_zero, List.set_cons_succ])
                refine takeL (i := 2) (v := ?_) rfl (by kernel_rfl) (by kernel_rfl) (by kernel_rfl) (fun _ _ _ h => h) ⟨by rfl, ?_⟩ (by first | assumption | trivial) ?_
                rotate_left
                · intro W9 hSw
                  (try dsimp only at hSw)
                  go_simp
                  try with_reducible rfl
                (try simp only [Act.put, List.setIfInBounds_toArray, List.set_cons_zero, List.set_cons_succ])
                refine takeL (i := 3) (v := ?_) rfl (by kernel_rfl) (by kernel_rfl) (by kernel_rfl) (fun _ _ _ h => h) ⟨by rfl, ?_⟩ (by first | assumption | trivial) ?_
                rotate_left
                · intro W9 hSw
                  (try dsimp only at hSw)
                  go_simp
                  try with_reducible rfl
                (try simp only [Act.put, List.setIfInBounds_toArray, List.set_cons_zero, List.set_cons_succ])
                clear hHeld
                have TH17 := Lib.hid (TH16.out.next (hdr.mono (by omega)))
                have O17 := Lib.hid (own_keep O16.out hdr (Nat.le_refl _))
                have OF17 := Lib.hid (own_keep OF16.out hdr (Nat.le_refl _))
                have XO17 := Lib.hid (XO16.out.next hdr)
                have z1617 := hdr.size
                clear hdr TH16 O16 OF16 XO16
                generalize w16.drew = w17 at *
                refine wpAnyH_ready (rs := [4]) (by kernel_rfl) (by simp) ?_
                refine consL rfl (by rfl) (fun K hK => ?_) ?_
                · go_simp
                  go_at_call 39
                  refine (eight_any w7.heap.size (.slice A11 F2.length c11') F2.length F2 (by have := HF2L.out; omega) k (by omega) w17 OF17.out (by omega)).mono ?_
                  rintro r w18 ⟨v18, rfl, own18, G18⟩
                  have hb18 : Below w7.heap.size w17 w18 := G18.below (by omega) (fun g hg => (OF17.out.lt g hg).1)
                  obtain ⟨F3, A18, c18, hF3, rfl, o18, r18⟩ := nxB (base' := w7.heap.size) (b := F2) (ys := le8 k) own18 rfl (Nat.le_refl _)
                  have HF3 := Lib.hid hF3
                  have HF3L : Hid (F3.length = 24) := Lib.hid (by rw [hF3, List.length_append, HF2L.out]; rfl)
                  have R18 := Lib.hid r18
                  have O18 := Lib.hid (ownsRow_of O17.out (W' := w18) (fun g hg => G18.gr.block g (O17.out.lt g hg).2 (fun e => by have h1 := HPF15.out g e.symm; have h2 := (HP15.out g hg).1; omega)))
                  have TH18 := Lib.hid (TH17.out.next hb18)
                  have XO18 := Lib.hid (XO17.out.below hb18 (by omega))
                  have z1718 := hb18.size
                  refine hK.out _ _ XO18.out (fun _ => ?_)
                  clear hK K own18 G18 hb18 hF3 o18 r18 TH17 O17 OF17 XO17
                  (try simp only [Act.put, List.setIfInBounds_toArray, List.set_cons_zero, List.set_cons_succ])
                  refine wpAnyH_ready (rs := [5]) (by kernel_rfl) (by simp) ?_
                  refine consL rfl (by rfl) (fun K hK => ?_) ?_
                  · go_simp
                    go_at_call 35
                    refine (framed_any A15 A18 O2.length c15 w18.heap.size F3.length c18 w18.heap.size O2 F3 rfl rfl (by have := HF3L.out; omega) (by have := HF3L.out; omega) w18 (own_rdL O18.out) (Nat.le_refl _) R18.out (Nat.le_refl _)).mono ?_
                    rintro r w19 ⟨v19, rfl, own19, hb⟩
                    obtain ⟨O3, A19, c19, hO3, rfl, o19, -⟩ := nxB (base' := w7.heap.size) (b := O2) (ys := frameL F3) own19 rfl (by omega)
                    have HO3 := Lib.hid hO3
                    have O19 := Lib.hid o19
                    have TH19 := Lib.hid (TH18.out.next (hb.mono (by omega)))
                    have XO19 := Lib.hid (XO18.out.next hb)
                    have z1819 := hb.size
                    refine hK.out _ _ XO19.out (fun _ => ?_)
                    clear hK K own19 hb o19 hO3 TH18 XO18 R18 O18
                    (try simp only [Act.put, List.setIfInBounds_toArray, List.set_cons_zero, List.set_cons_succ])
                    refine wpAnyH_done (by kernel_rfl) ?_ _
                    refine tail_held (fun _ => True) 4 (by rfl) ?_
                    refine takeL (i := 6) (v := ?_) rfl (by kernel_rfl) (by kernel_rfl) (by kernel_rfl) (fun _ _ _ h => h) ⟨by rfl, ?_⟩ (by first | assumption | trivial) ?_
                    rotate_left
                    · intro W9 hSw
                      (try dsimp only at hSw)
                      go_simp
                      try with_reducible rfl
                    (try simp only [Act.put, List.setIfInBounds_toArray, List.set_cons_zero, List.set_cons_succ])
                    refine takeL (i := 7) (v := ?_) rfl (by kernel_rfl) (by kernel_rfl) (by kernel_rfl) (fun _ _ _ h => h) ⟨by rfl, ?_⟩ (by first | assumption | trivial) ?_
                    rotate_left
                    · intro W9 hSw
                      (try dsimp only at hSw)
                      go_simp
                      try with_reducible rfl
                    (try simp only [Act.put, List.setIfInBounds_toArray, List.set_cons_zero, List.set_cons_succ])
                    refine takeL (i := 8) (v := ?_) rfl (by kernel_rfl) (by kernel_rfl) (by kernel_rfl) (fun _ _ _ h => h) ⟨by rfl, ?_⟩ (by first | assumption | trivial) ?_
                    rotate_left
                    · intro W9 hSw
                      (try dsimp only at hSw)
                      go_simp
                      try with_reducible rfl
                    (try simp only [Act.put, List.setIfInBounds_toArray, List.set_cons_zero, List.set_cons_succ])
                    have c11 := XO19.out.c 0 _ rfl
                    have l11 := XO19.out.lt
                    have f11 := XO19.out.fz
                    refine wpAnyH_ready (rs := [9]) (by kernel_rfl) (by simp) ?_
                    refine consL rfl (by rfl) (fun K hK => ?_) ?_
                    · go_simp
                      have TH20 := Lib.hid (TH19.out.set 0 (.slice A19 O3.length c19))
                      have XO20 := Lib.hid (bxv_put XO19.out 0 (by simp) (.slice A19 O3.length c19))
                      have O20 : Hid ((w19.setCell ⟨q2, 0, none⟩ (.slice A19 O3.length c19)).ownsRow w7.heap.size 5 1 (.slice A19 O3.length c19) O3.length (bv O3)) := Lib.hid (ownsRow_of O19.out (fun g hg => Below.heap_setCell _ _ _ _ (by have := (O19.out.lt g hg).1; show g ≠ q2; omega)))
                      refine hK.out _ _ trivial (fun _ => ?_)
                      clear hK K TH19 XO19 O19 c11 l11 f11
                      generalize w19.setCell ⟨q2, 0, none⟩ (.slice A19 O3.length c19) = w20 at *
                      (try simp only [Act.put, List.setIfInBounds_toArray, List.set_cons_zero, List.set_cons_succ])
                      refine wpAnyH_done (by kernel_rfl) ?_ _
                      simp only [onlyN]
                      have X6 := Lib.hid (TH20.out.bxv HC7.out.x6 (by omega) (by omega))
                      have X7 := Lib.hid (TH20.out.bxv HC7.out.x7 (by omega) (by omega))
                      have HD20 : Hid (w20.heap[w4.heap.size]? = some (.deferred (some []))) := Lib.hid ((TH20.out.block _ hz7 (by omega)).trans HD7.out)
                      have c11 := XO20.out.c 0 _ rfl
                      have l11 := XO20.out.lt
                      have c6 := X6.out.c 0 _ rfl
                      have c7' := X7.out.c 0 _ rfl
                      have g6 := X6.out.fz
                      have g7 := X7.out.fz
                      have l6 := X6.out.lt
                      have l7 := X7.out.lt
                      go_wp2_with fail
                      have HS3 : Hid (bldB p b l = O3) := Lib.hid (by
                        rw [HBLD.out, HFL.out, HL.out, HO3.out, HF3.out, HF2.out, HF1.out, HO2.out, HX0.out, HJ1.out, HO1.out, List.length_append, List.nil_append])
                      refine ⟨by simp, .inl ⟨_, _, rfl, run_takeDeferred (by
                        rw [Below.heap_setCell _ _ _ _ (by show _ ≠ q + 1; omega), Below.heap_setCell _ _ _ _ (by show _ ≠ q; omega)]
                        exact HD20.out), ?_⟩⟩
                      have Y6 := bxv_far (bxv_put X6.out 0 (by simp) (.slice A19 O3.length c19)) (show q + 1 ≠ q by omega) 0 (.int .i64 0)
                      have Y7 := bxv_put (bxv_far X7.out (show q ≠ q + 1 by omega) 0 (.slice A19 O3.length c19)) 0 (by simp) (.int .i64 0)
                      have YB := ((BQ7.out.trans (TH20.out.below (B := q) (by omega) (by omega))).setCell (p := ⟨q, 0, none⟩) (Nat.le_refl _) (.slice A19 O3.length c19)).setCell (p := ⟨q + 1, 0, none⟩) (by show q ≤ q + 1; omega) (.int .i64 0)
                      have YO := ownsRow_of O20.out (W' := (w20.setCell ⟨q, 0, none⟩ (.slice A19 O3.length c19)).setCell ⟨q + 1, 0, none⟩ (.int .i64 0)) (fun g hg => by
                        have := (O20.out.lt g hg).1
                        rw [Below.heap_setCell _ _ _ _ (by show g ≠ q + 1; omega), Below.heap_setCell _ _ _ _ (by show g ≠ q; omega)])
                      generalize (w20.setCell ⟨q, 0, none⟩ (.slice A19 O3.length c19)).setCell ⟨q + 1, 0, none⟩ (.int .i64 0) = wf at *
                      have hput := putObj_belowB (B := w4.heap.size) (W := wf) (l := w4.heap.size) (.deferred none) (Nat.le_refl _)
                      have YO2 := ownsRow_of YO (W' := wf.putObj w4.heap.size (.deferred none)) (fun g hg => World.putObj_heap_other (by have := (YO.lt g hg).1; omega))
                      refine leave_build rfl rfl ((hput.cell (p := ⟨q, 0, none⟩) (by show q < _; omega)).trans (Y6.c 0 _ rfl)) ((hput.cell (p := ⟨q + 1, 0, none⟩) (by show q + 1 < _; omega)).trans (Y7.c 0 _ rfl)) ?_
                      rw [SE.out.1, SE.out.2, HS3.out, ← HQ.out]
                      exact ⟨A19, c19, rfl, own_base YO2 (by omega), YB.trans (hput.mono (by omega))⟩
                    · exact AllReadyH.nil
                  · exact AllReadyH.nil
                · exact AllReadyH.nil
              · exact AllReadyH.nil
            · exact AllReadyH.nil
          · exact AllReadyH.nil
        · exact AllReadyH.nil
    · intro W hX hd
      have HX := Lib.hid hX
      have HD := Lib.hid hd
      have SEQ : Hid (E = 10 ∧ S = []) := Lib.hid (by
        have h1 := HE2.out
        rw [hX.1] at h1
        have h3 : E = 10 := h1
        exact ⟨h3, by rw [HS.out, h3]; rfl⟩)
      clear hX hd
      refine wpIn_wide.2 ?_
      go_wp2
      refine ⟨by simp, .inl ⟨_, _, rfl, run_takeDeferred HD.out, ?_⟩⟩
      have hput := putObj_belowB (B := w4.heap.size) (W := W) (l := w4.heap.size) (.deferred none) (Nat.le_refl _)
      refine leave_build rfl rfl ((hput.cell (p := ⟨q, 0, none⟩) (by show q < _; omega)).trans (HX.out.2.2.1.c 0 _ rfl)) ((hput.cell (p := ⟨q + 1, 0, none⟩) (by show q + 1 < _; omega)).trans (HX.out.2.2.2.c 0 _ rfl)) ?_
      rw [SEQ.out.1, SEQ.out.2, ← HQ.out]
      exact ⟨none, 0, rfl, World.ownsRow_nil _ _ _ _, BW4.out.trans (HX.out.2.1.trans (hput.mono (by omega)))⟩
end Go.Proofs.Ytdmpimgbnhgiaaa
