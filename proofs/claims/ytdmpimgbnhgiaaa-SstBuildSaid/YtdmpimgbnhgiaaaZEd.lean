/- Walks: whether entries are a block, the program's and the document's. -/
import Derived.Test.YtdmpimgbnhgiaaaZEa

namespace Go.Proofs.Ytdmpimgbnhgiaaa
open Go.RowKit Go.St Go.Maps
set_option linter.unusedVariables false
set_option linter.unusedSimpArgs false
set_option maxRecDepth 100000

/-- An entry where it lies, in a list that reads. -/
structure EnI (w : World) (b o : Nat) (c : Ent) : Prop where
  c0 : w.cell? ⟨b, o, none⟩ = some (.string c.key)
  c1 : w.cell? ⟨b, o + 1, none⟩ = some (.string c.val)
  c2 : w.cell? ⟨b, o + 2, none⟩ = some (.int .i64 c.seq)
  c3 : w.cell? ⟨b, o + 3, none⟩ = some (.bool c.del)
theorem EnI.keep {w w' : World} {b o : Nat} {c : Ent} (h : EnI w b o c) (hk : ∀ p : Addr, p.block = b → w'.cell? p = w.cell? p) : EnI w' b o c :=
  ⟨(hk _ rfl).trans h.c0, (hk _ rfl).trans h.c1, (hk _ rfl).trans h.c2, (hk _ rfl).trans h.c3⟩
theorem EnI.below {B : Nat} {w w' : World} {b o : Nat} {c : Ent} (h : EnI w b o c) (hb : b < B) (h2 : Below B w w') : EnI w' b o c := h.keep fun p hp => h2.cell (by omega)
theorem en_at {w : World} {B : Nat} {A : Option Addr} {l : List Ent} (h : Rd w B A (env l)) {i : Nat} {c : Ent} (hi : l[i]? = some c) : ∃ b off, A = some ⟨b, off, none⟩ ∧ b < B ∧ EnI w b (off + i * 4) c := by
  have hf := env_get hi
  obtain ⟨b, off, e, hb, hc⟩ := h (by
    intro e
    have := hf 0 _ rfl
    rw [e] at this
    cases this)
  have hg : ∀ j v, c.c[j]? = some v → w.cell? ⟨b, off + i * 4 + j, none⟩ = some v := fun j v hv => by
    rw [Nat.add_assoc]; exact hc _ _ (hf j v hv)
  exact ⟨b, off, e, hb, hg 0 _ rfl, hg 1 _ rfl, hg 2 _ rfl, hg 3 _ rfl⟩

set_option maxHeartbeats 1600000 in
theorem rahead_any (x y : Ent) (w : World) : Calls Try.prog 73 #[.agg #[.string x.key, .string x.val, .int .i64 x.seq, .bool x.del], .agg #[.string y.key, .string y.val, .int .i64 y.seq, .bool y.del]] w fun e w' => e = .returned (.bool (ltE x y)) ∧ Below w.heap.size w w' := by
  have B2 : Hid (Below w.heap.size w ((w.alloc (.cells #[.string x.key, .string x.val, .int .i64 x.seq, .bool x.del] 40)).alloc (.cells #[.string y.key, .string y.val, .int .i64 y.seq, .bool y.del] 40))) := Lib.hid (((Below.refl _ _).alloc (Nat.le_refl _) _).alloc (by simp) _)
  cases h1 : Op.bytesLess x.key.toList y.key.toList
  · by_cases h2 : x.key = y.key
    · have e2 : (x.key.toList == y.key.toList) = true := by rw [str_eqB]; exact decide_eq_true h2
      by_cases h3 : y.seq < x.seq
      · have hz : ltE x y = true := by simp [ltE, klt, h2, h3]
        rw [hz]
        clear hz h2
        go_enter Try.func73, Try.ntmps73
        go_wp2_with fail
        go_ret
        exact ⟨rfl, B2.out⟩
      · have hz : ltE x y = false := by unfold ltE klt; rw [h1, decide_eq_false h3, Bool.and_false]; rfl
        rw [hz]
        clear hz h2
        go_enter Try.func73, Try.ntmps73
        go_wp2_with fail
        go_ret
        exact ⟨rfl, B2.out⟩
    · have e2 : (x.key.toList == y.key.toList) = false := by rw [str_eqB]; exact decide_eq_false h2
      have hz : ltE x y = false := by unfold ltE klt; rw [h1, decide_eq_false h2, Bool.false_and]; rfl
      rw [hz]
      clear hz h2
      go_enter Try.func73, Try.ntmps73
      go_wp2_with fail
      go_ret
      exact ⟨rfl, B2.out⟩
  · have hz : ltE x y = true := by unfold ltE klt; rw [h1]; rfl
    rw [hz]
    clear hz
    go_enter Try.func73, Try.ntmps73
    go_wp2_with fail
    go_ret
    exact ⟨rfl, B2.out⟩

/-- The first so many are in order. -/
def risTo (l : List Ent) (i : Nat) : Prop := ∀ j a b, j + 1 < i → l[j]? = some a → l[j + 1]? = some b → ltE a b = true
theorem risTo_end {l : List Ent} {i : Nat} (h : risTo l i) (hi : l.length ≤ i) : risE l = true :=
  (ris_iff l ltE).2 fun j a b ha hb => h j a b (by have := (List.getElem?_eq_some_iff.1 hb).1; omega) ha hb
theorem risTo_no {l : List Ent} {j : Nat} {a b : Ent} (ha : l[j]? = some a) (hb : l[j + 1]? = some b) (h : ltE a b = false) : risE l = false := by
  cases hr : risE l
  · rfl
  · rw [(ris_iff l ltE).1 hr j a b ha hb] at h
    cases h
set_option maxHeartbeats 1600000 in
theorem ordered_any (A : Option Addr) (n c : Nat) (l : List Ent) (hl : l.length = n) (hn : n ≤ 1000000) (B : Nat) (w : World) (hr : Rd w B A (env l)) (hB : B ≤ w.heap.size) :
    Calls Try.prog 83 #[.slice A n c] w fun e w' => e = .returned (.bool (risE l)) ∧ Below w.heap.size w w' := by
  have HL := Lib.hid hl
  have HR := Lib.hid hr
  clear hl hr
  obtain ⟨E, hE⟩ : ∃ E, E = risE l := ⟨_, rfl⟩
  rw [← hE]
  have HE := Lib.hid hE
  clear hE
  go_enter Try.func83, Try.ntmps83
  go_wp2_with fail
  go_loopw [3] (fun s3 wr => ∃ i : Nat, s3 = .int .i64 (i : Int) ∧ 1 ≤ i ∧ i ≤ n + 1 ∧ Hid (risTo l i) ∧ Hid (Below w.heap.size w wr)) (fun s3 _ => n + 1 - (intOf s3).toNat)
  case atStart => exact ⟨1, rfl, Nat.le_refl _, by omega, Lib.hid (fun j a b hj => by omega), Lib.hid (Below.refl _ _)⟩
  case round =>
    obtain ⟨i, rfl, hi0, hi, hU, hB1⟩ := hrel
    obtain ⟨w2, rfl⟩ : ∃ x, x = wr := ⟨_, rfl⟩
    by_cases hlt : i < n
    · obtain ⟨j, hj⟩ : ∃ j, i = j + 1 := ⟨i - 1, by omega⟩
      obtain ⟨x, hx⟩ : ∃ x, l[j]? = some x := ⟨_, List.getElem?_eq_getElem (by rw [HL.out]; omega)⟩
      obtain ⟨y, hy⟩ : ∃ y, l[j + 1]? = some y := ⟨_, List.getElem?_eq_getElem (by rw [HL.out]; omega)⟩
      obtain ⟨b, off, rfl, hb, hce⟩ := en_at HR.out hx
      obtain ⟨b', off', eA, hb', hce'⟩ := en_at HR.out hy
      injection eA with eA
      injection eA with eb eo
      subst eb eo
      obtain ⟨d0, d1, d2, d3⟩ := hce.below (Nat.lt_of_lt_of_le hb hB) hB1.out
      obtain ⟨f0, f1, f2, f3⟩ := hce'.below (Nat.lt_of_lt_of_le hb hB) hB1.out
      have HX := Lib.hid hx
      have HY := Lib.hid hy
      have i1 : (i : Int) < (n : Int) := by omega
      have i0 : (0 : Int) ≤ (i : Int) := by omega
      have j2 : (i : Int) - 1 = (j : Int) := by omega
      have j3 : (j : Int) < (n : Int) := by omega
      have j4 : IntKind.i64.wrap (j : Int) = (j : Int) := IntWalk.i64_in _ (by omega)
      have j5 : (0 : Int) ≤ (j : Int) := by omega
      have z1 : b < w2.heap.size := by have := hB1.out.size; omega
      rw [← hj] at f0 f1 f2 f3
      have HJ := Lib.hid hj
      clear hce hce' hx hy hb' hj
      cases hq : ltE x y
      · have SEQ : Hid (E = false) := Lib.hid (by rw [HE.out]; exact risTo_no HX.out HY.out hq)
        have HQ := Lib.hid (fun W => ahead_any x y W)
        rw [hq] at HQ
        clear hq HE
        go_wp2_with fail
        refine wp_qall (by kernel_rfl) (by kernel_rfl) ?_
        intro hcg
        repeat (first | go_big_quiet_step ((with_reducible (exact Calls.reg (HQ.out _)))) | quiet_step ((with_reducible (exact Calls.reg (HQ.out _)))))
        refine wpQuiet_nil ?_
        intro wq hbwq hcwq hfwq
        clear hcg
        have B9 := Lib.hid (hB1.out.trans (hbwq.mono hB1.out.size))
        clear hbwq hcwq hfwq
        go_wp2_with fail
        go_ret
        exact ⟨ret_bool SEQ.out.symm, B9.out⟩
      · have HQ := Lib.hid (fun W => ahead_any x y W)
        rw [hq] at HQ
        have HU9 : Hid (risTo l (i + 1)) := Lib.hid (fun j' a b hj' ha hb => by
          rcases Nat.lt_or_ge (j' + 1) i with h | h
          · exact hU.out j' a b h ha hb
          · have e : j' = j := by have := HJ.out; omega
            subst e
            rw [HX.out] at ha
            rw [HY.out] at hb
            injection ha with ha
            injection hb with hb
            rw [← ha, ← hb]
            exact hq)
        clear hq hU
        go_wp2_with fail
        refine wp_qall (by kernel_rfl) (by kernel_rfl) ?_
        intro hcg
        repeat (first | go_big_quiet_step ((with_reducible (exact Calls.reg (HQ.out _)))) | quiet_step ((with_reducible (exact Calls.reg (HQ.out _)))))
        refine wpQuiet_nil ?_
        intro wq hbwq hcwq hfwq
        clear hcg
        have B9 := Lib.hid (hB1.out.trans (hbwq.mono hB1.out.size))
        clear hbwq hcwq hfwq
        go_wp2_with fail
        go_roundw
        case rel => exact ⟨i + 1, by go_num, by omega, by omega, HU9, B9⟩
        case measure => simp [intOf]; omega
    · have i1 : ¬ (i : Int) < (n : Int) := by omega
      have SEQ : Hid (E = true) := Lib.hid (by rw [HE.out]; exact risTo_end hU.out (by rw [HL.out]; omega))
      clear hlt
      go_wp2_with fail
      go_ret
      exact ⟨ret_bool SEQ.out.symm, hB1.out⟩
set_option maxHeartbeats 1600000 in
theorem rordered_any (A : Option Addr) (n c : Nat) (l : List Ent) (hl : l.length = n) (hn : n ≤ 1000000) (B : Nat) (w : World) (hr : Rd w B A (env l)) (hB : B ≤ w.heap.size) :
    Calls Try.prog 41 #[.slice A n c] w fun e w' => e = .returned (.bool (risE l)) ∧ Below w.heap.size w w' := by
  have HL := Lib.hid hl
  have HR := Lib.hid hr
  clear hl hr
  obtain ⟨E, hE⟩ : ∃ E, E = risE l := ⟨_, rfl⟩
  rw [← hE]
  have HE := Lib.hid hE
  clear hE
  go_enter Try.func41, Try.ntmps41
  go_wp2_with fail
  go_loopw [3] (fun s3 wr => ∃ i : Nat, s3 = .int .i64 (i : Int) ∧ 1 ≤ i ∧ i ≤ n + 1 ∧ Hid (risTo l i) ∧ Hid (Below w.heap.size w wr)) (fun s3 _ => n + 1 - (intOf s3).toNat)
  case atStart => exact ⟨1, rfl, Nat.le_refl _, by omega, Lib.hid (fun j a b hj => by omega), Lib.hid (Below.refl _ _)⟩
  case round =>
    obtain ⟨i, rfl, hi0, hi, hU, hB1⟩ := hrel
    obtain ⟨w2, rfl⟩ : ∃ x, x = wr := ⟨_, rfl⟩
    by_cases hlt : i < n
    · obtain ⟨j, hj⟩ : ∃ j, i = j + 1 := ⟨i - 1, by omega⟩
      obtain ⟨x, hx⟩ : ∃ x, l[j]? = some x := ⟨_, List.getElem?_eq_getElem (by rw [HL.out]; omega)⟩
      obtain ⟨y, hy⟩ : ∃ y, l[j + 1]? = some y := ⟨_, List.getElem?_eq_getElem (by rw [HL.out]; omega)⟩
      obtain ⟨b, off, rfl, hb, hce⟩ := en_at HR.out hx
      obtain ⟨b', off', eA, hb', hce'⟩ := en_at HR.out hy
      injection eA with eA
      injection eA with eb eo
      subst eb eo
      obtain ⟨d0, d1, d2, d3⟩ := hce.below (Nat.lt_of_lt_of_le hb hB) hB1.out
      obtain ⟨f0, f1, f2, f3⟩ := hce'.below (Nat.lt_of_lt_of_le hb hB) hB1.out
      have HX := Lib.hid hx
      have HY := Lib.hid hy
      have i1 : (i : Int) < (n : Int) := by omega
      have i0 : (0 : Int) ≤ (i : Int) := by omega
      have j2 : (i : Int) - 1 = (j : Int) := by omega
      have j3 : (j : Int) < (n : Int) := by omega
      have j4 : IntKind.i64.wrap (j : Int) = (j : Int) := IntWalk.i64_in _ (by omega)
      have j5 : (0 : Int) ≤ (j : Int) := by omega
      have z1 : b < w2.heap.size := by have := hB1.out.size; omega
      rw [← hj] at f0 f1 f2 f3
      have HJ := Lib.hid hj
      clear hce hce' hx hy hb' hj
      cases hq : ltE x y
      · have SEQ : Hid (E = false) := Lib.hid (by rw [HE.out]; exact risTo_no HX.out HY.out hq)
        have HQ := Lib.hid (fun W => rahead_any x y W)
        rw [hq] at HQ
        clear hq HE
        go_wp2_with fail
        refine wp_qall (by kernel_rfl) (by kernel_rfl) ?_
        intro hcg
        repeat (first | go_big_quiet_step ((with_reducible (exact Calls.reg (HQ.out _)))) | quiet_step ((with_reducible (exact Calls.reg (HQ.out _)))))
        refine wpQuiet_nil ?_
        intro wq hbwq hcwq hfwq
        clear hcg
        have B9 := Lib.hid (hB1.out.trans (hbwq.mono hB1.out.size))
        clear hbwq hcwq hfwq
        go_wp2_with fail
        go_ret
        exact ⟨ret_bool SEQ.out.symm, B9.out⟩
      · have HQ := Lib.hid (fun W => rahead_any x y W)
        rw [hq] at HQ
        have HU9 : Hid (risTo l (i + 1)) := Lib.hid (fun j' a b hj' ha hb => by
          rcases Nat.lt_or_ge (j' + 1) i with h | h
          · exact hU.out j' a b h ha hb
          · have e : j' = j := by have := HJ.out; omega
            subst e
            rw [HX.out] at ha
            rw [HY.out] at hb
            injection ha with ha
            injection hb with hb
            rw [← ha, ← hb]
            exact hq)
        clear hq hU
        go_wp2_with fail
        refine wp_qall (by kernel_rfl) (by kernel_rfl) ?_
        intro hcg
        repeat (first | go_big_quiet_step ((with_reducible (exact Calls.reg (HQ.out _)))) | quiet_step ((with_reducible (exact Calls.reg (HQ.out _)))))
        refine wpQuiet_nil ?_
        intro wq hbwq hcwq hfwq
        clear hcg
        have B9 := Lib.hid (hB1.out.trans (hbwq.mono hB1.out.size))
        clear hbwq hcwq hfwq
        go_wp2_with fail
        go_roundw
        case rel => exact ⟨i + 1, by go_num, by omega, by omega, HU9, B9⟩
        case measure => simp [intOf]; omega
    · have i1 : ¬ (i : Int) < (n : Int) := by omega
      have SEQ : Hid (E = true) := Lib.hid (by rw [HE.out]; exact risTo_end hU.out (by rw [HL.out]; omega))
      clear hlt
      go_wp2_with fail
      go_ret
      exact ⟨ret_bool SEQ.out.symm, hB1.out⟩
end Go.Proofs.Ytdmpimgbnhgiaaa

namespace Go.Proofs.Ytdmpimgbnhgiaaa
open Go.RowKit Go.St Go.Maps
set_option linter.unusedVariables false
set_option linter.unusedSimpArgs false
set_option maxRecDepth 100000

theorem chkL_bad {l : List Ent} {i : Nat} {x : Ent} (h0 : l.length ≠ 0) (h1 : l.length ≤ 64) (hx : l[i]? = some x) (h : okE x = false) : chkL l = 2 := by
  unfold chkL
  rw [if_neg h0, if_neg (by omega), if_neg]
  intro h2
  rw [List.all_eq_true] at h2
  have := h2 x (List.mem_of_getElem? hx)
  rw [h] at this
  cases this
theorem chkL_all {l : List Ent} (h0 : l.length ≠ 0) (h1 : l.length ≤ 64) (h : ∀ j x, j < l.length → l[j]? = some x → okE x = true) : chkL l = if risE l then 0 else 10 := by
  unfold chkL
  rw [if_neg h0, if_neg (by omega), if_pos]
  rw [List.all_eq_true]
  intro x hx
  obtain ⟨j, hj⟩ := List.mem_iff_getElem?.1 hx
  exact h j x (List.getElem?_eq_some_iff.1 hj).1 hj
theorem chkE_yes {x : Ent} (h : okE x = true) : chkE x = 0 := by unfold chkE; rw [if_pos h]
theorem chkE_no {x : Ent} (h : okE x = false) : chkE x = 2 := by unfold chkE; rw [h]; rfl
set_option maxHeartbeats 1600000 in
theorem check7_any (A : Option Addr) (n c : Nat) (l : List Ent) (hl : l.length = n) (hn : n ≤ 1000000) (hk : ∀ x ∈ l, x.key.size ≤ maxLen) (B : Nat) (w : World) (hr : Rd w B A (env l)) (hB : B ≤ w.heap.size) :
    Calls Try.prog 64 #[.slice A n c] w fun e w' => e = .returned (.int .i64 (chkL l)) ∧ Below w.heap.size w w' := by
  obtain ⟨E, hE⟩ : ∃ E, E = chkL l := ⟨_, rfl⟩
  rw [← hE]
  have HE := Lib.hid hE
  have HL := Lib.hid hl
  have HR := Lib.hid hr
  have HK := Lib.hid hk
  clear hl hr hE hk
  by_cases h0 : n = 0
  · have SEQ : Hid (E = 2) := Lib.hid (by rw [HE.out]; unfold chkL; rw [if_pos (by rw [HL.out]; exact h0)])
    subst h0
    go_enter Try.func64, Try.ntmps64
    go_wp2_with fail
    go_ret
    exact ⟨ret_int SEQ.out.symm, Below.refl _ _⟩
  have n0 : ((n : Int) == 0) = false := by simpa using h0
  by_cases h1 : 64 < n
  · have SEQ : Hid (E = 3) := Lib.hid (by rw [HE.out]; unfold chkL; rw [if_neg (by rw [HL.out]; exact h0), if_pos (by rw [HL.out]; exact h1)])
    have n1 : (64 : Int) < (n : Int) := by omega
    clear h1 h0
    go_enter Try.func64, Try.ntmps64
    go_wp2_with fail
    go_ret
    exact ⟨ret_int SEQ.out.symm, Below.refl _ _⟩
  have n1 : ¬ (64 : Int) < (n : Int) := by omega
  go_enter Try.func64, Try.ntmps64
  go_wp2_with fail
  go_loopw [16] (fun s3 wr => ∃ i : Nat, s3 = .int .i64 (i : Int) ∧ i ≤ n ∧ Hid (∀ j x, j < i → l[j]? = some x → okE x = true) ∧ Hid (Below w.heap.size w wr)) (fun s3 _ => n - (intOf s3).toNat)
  case atStart => exact ⟨0, rfl, Nat.zero_le _, Lib.hid (fun j x hj => by omega), Lib.hid (Below.refl _ _)⟩
  case round =>
    obtain ⟨i, rfl, hi, hU, hB1⟩ := hrel
    obtain ⟨w2, rfl⟩ : ∃ x, x = wr := ⟨_, rfl⟩
    by_cases hlt : i < n
    · obtain ⟨x, hx⟩ : ∃ x, l[i]? = some x := ⟨_, List.getElem?_eq_getElem (by rw [HL.out]; omega)⟩
      obtain ⟨b, off, rfl, hb, hce⟩ := en_at HR.out hx
      obtain ⟨d0, d1, d2, d3⟩ := hce.below (Nat.lt_of_lt_of_le hb hB) hB1.out
      have HX := Lib.hid hx
      have i1 : (i : Int) < (n : Int) := by omega
      have i0 : (0 : Int) ≤ (i : Int) := by omega
      have z1 : b < w2.heap.size := by have := hB1.out.size; omega
      have HQ := Lib.hid (fun W => check6_any x (HK.out x (List.mem_of_getElem? hx)) W)
      clear hce hx
      cases hq : okE x
      · have SEQ : Hid (E = 2) := Lib.hid (by rw [HE.out]; exact chkL_bad (by rw [HL.out]; exact h0) (by rw [HL.out]; omega) HX.out hq)
        rw [chkE_no hq] at HQ
        clear hq HE h0 h1
        go_wp2_with fail
        refine (HQ.out _).mono ?_
        rintro e w5 ⟨rfl, hb5⟩
        have B9 : Hid (Below w.heap.size w w5) := Lib.hid ((hB1.out.alloc hB1.out.size _).trans (hb5.mono (by have := hB1.out.size; simp; omega)))
        clear hb5 d0 d1 d2 d3
        go_wp2_with fail
        go_ret
        exact ⟨ret_int SEQ.out.symm, B9.out⟩
      · rw [chkE_yes hq] at HQ
        have HU9 : Hid (∀ j x, j < i + 1 → l[j]? = some x → okE x = true) := Lib.hid (fun j y hj hy => by
          rcases Nat.lt_or_ge j i with h | h
          · exact hU.out j y h hy
          · have e : j = i := by omega
            subst e
            have h2 := HX.out
            rw [hy] at h2
            injection h2 with h2
            rw [h2]
            exact hq)
        clear hq hU h0 h1
        go_wp2_with fail
        refine (HQ.out _).mono ?_
        rintro e w5 ⟨rfl, hb5⟩
        have B9 : Hid (Below w.heap.size w w5) := Lib.hid ((hB1.out.alloc hB1.out.size _).trans (hb5.mono (by have := hB1.out.size; simp; omega)))
        clear hb5 d0 d1 d2 d3
        go_wp2_with fail
        go_roundw
        case rel => exact ⟨i + 1, by go_num, by omega, HU9, B9⟩
        case measure => simp [intOf]; omega
    · have i1 : ¬ (i : Int) < (n : Int) := by omega
      have SEQ : Hid (E = if risE l then 0 else 10) := Lib.hid (by
        rw [HE.out]
        exact chkL_all (by rw [HL.out]; exact h0) (by rw [HL.out]; omega) (fun j x hj hx => hU.out j x (by rw [HL.out] at hj; omega) hx))
      clear hlt hU h0 h1
      go_wp2_with fail
      refine (ordered_any A n c l HL.out hn B _ (HR.out.below (hB1.out.mono hB)) (Nat.le_trans hB hB1.out.size)).mono ?_
      rintro e w5 ⟨rfl, hb5⟩
      have B9 := Lib.hid (hB1.out.trans (hb5.mono hB1.out.size))
      generalize risE l = z at *
      clear hb5
      cases z
      · go_wp2_with fail
        go_ret
        exact ⟨ret_int SEQ.out.symm, B9.out⟩
      · go_wp2_with fail
        go_ret
        exact ⟨ret_int SEQ.out.symm, B9.out⟩
set_option maxHeartbeats 1600000 in
theorem rcheck7_any (A : Option Addr) (n c : Nat) (l : List Ent) (hl : l.length = n) (hn : n ≤ 1000000) (hk : ∀ x ∈ l, x.key.size ≤ maxLen) (B : Nat) (w : World) (hr : Rd w B A (env l)) (hB : B ≤ w.heap.size) :
    Calls Try.prog 74 #[.slice A n c] w fun e w' => e = .returned (.int .i64 (chkL l)) ∧ Below w.heap.size w w' := by
  obtain ⟨E, hE⟩ : ∃ E, E = chkL l := ⟨_, rfl⟩
  rw [← hE]
  have HE := Lib.hid hE
  have HL := Lib.hid hl
  have HR := Lib.hid hr
  have HK := Lib.hid hk
  clear hl hr hE hk
  by_cases h0 : n = 0
  · have SEQ : Hid (E = 2) := Lib.hid (by rw [HE.out]; unfold chkL; rw [if_pos (by rw [HL.out]; exact h0)])
    subst h0
    go_enter Try.func74, Try.ntmps74
    go_wp2_with fail
    go_ret
    exact ⟨ret_int SEQ.out.symm, Below.refl _ _⟩
  have n0 : ((n : Int) == 0) = false := by simpa using h0
  by_cases h1 : 64 < n
  · have SEQ : Hid (E = 3) := Lib.hid (by rw [HE.out]; unfold chkL; rw [if_neg (by rw [HL.out]; exact h0), if_pos (by rw [HL.out]; exact h1)])
    have n1 : (64 : Int) < (n : Int) := by omega
    clear h1 h0
    go_enter Try.func74, Try.ntmps74
    go_wp2_with fail
    go_ret
    exact ⟨ret_int SEQ.out.symm, Below.refl _ _⟩
  have n1 : ¬ (64 : Int) < (n : Int) := by omega
  go_enter Try.func74, Try.ntmps74
  go_wp2_with fail
  go_loopw [3] (fun s3 wr => ∃ i : Nat, s3 = .int .i64 (i : Int) ∧ i ≤ n ∧ Hid (∀ j x, j < i → l[j]? = some x → okE x = true) ∧ Hid (Below w.heap.size w wr)) (fun s3 _ => n - (intOf s3).toNat)
  case atStart => exact ⟨0, rfl, Nat.zero_le _, Lib.hid (fun j x hj => by omega), Lib.hid (Below.refl _ _)⟩
  case round =>
    obtain ⟨i, rfl, hi, hU, hB1⟩ := hrel
    obtain ⟨w2, rfl⟩ : ∃ x, x = wr := ⟨_, rfl⟩
    by_cases hlt : i < n
    · obtain ⟨x, hx⟩ : ∃ x, l[i]? = some x := ⟨_, List.getElem?_eq_getElem (by rw [HL.out]; omega)⟩
      obtain ⟨b, off, rfl, hb, hce⟩ := en_at HR.out hx
      obtain ⟨d0, d1, d2, d3⟩ := hce.below (Nat.lt_of_lt_of_le hb hB) hB1.out
      have HX := Lib.hid hx
      have i1 : (i : Int) < (n : Int) := by omega
      have i0 : (0 : Int) ≤ (i : Int) := by omega
      have z1 : b < w2.heap.size := by have := hB1.out.size; omega
      have HQ := Lib.hid (fun W => rcheck6_any x  W)
      clear hce hx
      cases hq : okE x
      · have SEQ : Hid (E = 2) := Lib.hid (by rw [HE.out]; exact chkL_bad (by rw [HL.out]; exact h0) (by rw [HL.out]; omega) HX.out hq)
        rw [chkE_no hq] at HQ
        clear hq HE h0 h1
        go_wp2_with fail
        refine (HQ.out _).mono ?_
        rintro e w5 ⟨rfl, hb5⟩
        have B9 : Hid (Below w.heap.size w w5) := Lib.hid (hB1.out.trans (hb5.mono hB1.out.size))
        clear hb5 d0 d1 d2 d3
        go_wp2_with fail
        go_ret
        exact ⟨ret_int SEQ.out.symm, B9.out⟩
      · rw [chkE_yes hq] at HQ
        have HU9 : Hid (∀ j x, j < i + 1 → l[j]? = some x → okE x = true) := Lib.hid (fun j y hj hy => by
          rcases Nat.lt_or_ge j i with h | h
          · exact hU.out j y h hy
          · have e : j = i := by omega
            subst e
            have h2 := HX.out
            rw [hy] at h2
            injection h2 with h2
            rw [h2]
            exact hq)
        clear hq hU h0 h1
        go_wp2_with fail
        refine (HQ.out _).mono ?_
        rintro e w5 ⟨rfl, hb5⟩
        have B9 : Hid (Below w.heap.size w w5) := Lib.hid (hB1.out.trans (hb5.mono hB1.out.size))
        clear hb5 d0 d1 d2 d3
        go_wp2_with fail
        go_roundw
        case rel => exact ⟨i + 1, by go_num, by omega, HU9, B9⟩
        case measure => simp [intOf]; omega
    · have i1 : ¬ (i : Int) < (n : Int) := by omega
      have SEQ : Hid (E = if risE l then 0 else 10) := Lib.hid (by
        rw [HE.out]
        exact chkL_all (by rw [HL.out]; exact h0) (by rw [HL.out]; omega) (fun j x hj hx => hU.out j x (by rw [HL.out] at hj; omega) hx))
      clear hlt hU h0 h1
      go_wp2_with fail
      refine (rordered_any A n c l HL.out hn B _ (HR.out.below (hB1.out.mono hB)) (Nat.le_trans hB hB1.out.size)).mono ?_
      rintro e w5 ⟨rfl, hb5⟩
      have B9 := Lib.hid (hB1.out.trans (hb5.mono hB1.out.size))
      generalize risE l = z at *
      clear hb5
      cases z
      · go_wp2_with fail
        go_ret
        exact ⟨ret_int SEQ.out.symm, B9.out⟩
      · go_wp2_with fail
        go_ret
        exact ⟨ret_int SEQ.out.symm, B9.out⟩
end Go.Proofs.Ytdmpimgbnhgiaaa
