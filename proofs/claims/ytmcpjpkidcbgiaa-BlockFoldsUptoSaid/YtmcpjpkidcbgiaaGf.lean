/- Walk: lists are merged. -/
import Derived.Test.YtmcpjpkidcbgiaaGb
import Derived.Test.YtmcpjpkidcbgiaaEg
import Derived.Test.YtmcpjpkidcbgiaaEj
import Derived.Test.YtmcpjpkidcbgiaaCut
namespace Go.Proofs.Ytmcpjpkidcbgiaa
open Go.RowKit Go.St Go.Maps
set_option linter.unusedVariables false
set_option linter.unusedSimpArgs false
set_option maxRecDepth 100000

/-- Slices that read as lists. -/
def LsB (W : World) (B : Nat) (vs : List Value) (ls : List (List Ent)) : Prop := ∀ (i : Nat) (l : List Ent), ls[i]? = some l → ∃ (Ai : Option Addr) (ci : Nat), vs[i]? = some (Value.slice Ai l.length ci) ∧ l.length ≤ ci ∧ Rd W B Ai (env l)
theorem LsB.below {W W' : World} {B : Nat} {vs : List Value} {ls : List (List Ent)} (h : LsB W B vs ls) (hb : Below B W W') : LsB W' B vs ls := fun i l hl => by
  obtain ⟨Ai, ci, h1, h2, h3⟩ := h i l hl
  exact ⟨Ai, ci, h1, h2, h3.below hb⟩
theorem LsB.more {W : World} {B B' : Nat} {vs : List Value} {ls : List (List Ent)} (h : LsB W B vs ls) (hb : B ≤ B') : LsB W B' vs ls := fun i l hl => by
  obtain ⟨Ai, ci, h1, h2, h3⟩ := h i l hl
  exact ⟨Ai, ci, h1, h2, h3.more hb⟩
theorem LsB.set {W : World} {B : Nat} {vs : List Value} {ls : List (List Ent)} (h : LsB W B vs ls) (hv : vs.length = ls.length) {i : Nat} {r : List Ent} (hi : i < ls.length) {A' : Option Addr} {c' : Nat} (hc : r.length ≤ c') (hr : Rd W B A' (env r)) : LsB W B (vs.set i (.slice A' r.length c')) (ls.set i r) := fun j l hl => by
  by_cases e : i = j
  · subst e
    rw [List.getElem?_set_self hi] at hl
    injection hl with hl
    subst hl
    exact ⟨A', c', by rw [List.getElem?_set_self (by omega)], hc, hr⟩
  · rw [List.getElem?_set_ne e] at hl
    obtain ⟨Ai, ci, h1, h2, h3⟩ := h j l hl
    exact ⟨Ai, ci, by rw [List.getElem?_set_ne e]; exact h1, h2, h3⟩
theorem LsB.one {W : World} {B : Nat} {vs : List Value} {ls : List (List Ent)} (h : LsB W B vs ls) (hv : vs.length = ls.length) : ∀ u ∈ vs, u.oneCell' = true := fun u hu => by
  obtain ⟨i, hi⟩ := List.mem_iff_getElem?.1 hu
  have hlt := (List.getElem?_eq_some_iff.1 hi).1
  obtain ⟨Ai, ci, h1, -, -⟩ := h i _ (List.getElem?_eq_getElem (show i < ls.length by omega))
  rw [hi] at h1
  injection h1 with h1
  rw [h1]
  rfl
theorem tot_get : ∀ {ls : List (List Ent)} {i : Nat} {l : List Ent}, ls[i]? = some l → l.length ≤ totL ls
  | [], _, _, h => by simp at h
  | x :: r, 0, l, h => by
    have : x = l := by simpa using h
    subst this
    simp [totL]
  | x :: r, i + 1, l, h => by
    have := tot_get (ls := r) (i := i) (l := l) (by simpa using h)
    simp only [totL, List.map_cons, List.sum_cons] at this ⊢
    omega
def bI (b : Option (Nat × Ent)) : Int := b.elim (-1) (fun p => (p.1 : Int))
theorem mrg_bad0 {ls : List (List Ent)} (h : ls.all risE = false) : mrgE ls = 10 ∧ mrgL ls = [] := by
  unfold mrgE mrgL
  rw [h]
  exact ⟨rfl, rfl⟩
theorem mrg_res1 {ls : List (List Ent)} (h : ls.all risE = true) {a : List Ent} (hm : mrgM ls [] = some a) : mrgE ls = 0 ∧ mrgL ls = a := by
  unfold mrgE mrgL
  rw [h, hm]
  exact ⟨rfl, rfl⟩
theorem mrg_res0 {ls : List (List Ent)} (h : ls.all risE = true) (hm : mrgM ls [] = none) : mrgE ls = 9 ∧ mrgL ls = [] := by
  unfold mrgE mrgL
  rw [h, hm]
  exact ⟨rfl, rfl⟩

set_option maxHeartbeats 800000 in
theorem cloneL_any (A : Option Addr) (k c : Nat) (vs : List Value) (hv : vs.length = k) (hk : k ≤ 1000000) (h1 : ∀ u ∈ vs, u.oneCell' = true) (B : Nat) (w : World) (hr : Rd w B A vs) (hB : B ≤ w.heap.size) :
    Calls Try.prog 55 #[.slice A k c] w fun e w' => ∃ v, e = .returned v ∧ w'.ownsRow w.heap.size 22 1 v k vs ∧ Below w.heap.size w w' := by
  have HV := Lib.hid hv
  have HR := Lib.hid hr
  cases A with
  | none =>
    have h0 : vs = [] := by
      cases vs with
      | nil => rfl
      | cons x r =>
        obtain ⟨_, _, e, _⟩ := hr (by simp)
        cases e
    subst h0
    have h0 : k = 0 := hv.symm
    subst h0
    have hq := fun W => Lib.run_eql_slice_nil (P := Try.prog) W 39 22 none 0 c 0 0 Try.underlying39
    clear hr hv HR HV
    go_enter Try.func55, Try.ntmps55
    go_wp2
    go_ret
    exact ⟨_, rfl, World.ownsRow_nil _ _ _ _, Below.refl _ _⟩
  | some a =>
    have hq := fun W => Lib.run_eql_slice_nil (P := Try.prog) W 39 22 (some a) k c 0 0 Try.underlying39
    clear hr hv
    go_enter Try.func55, Try.ntmps55
    go_wp2_with (at_builtin; refine wpList_app styEE (.tmp 5) (.tmp 6) rfl rfl w.heap.size (World.ownsRow_lit w #[] 0 (Nat.le_refl _) (by decide) rfl) rfl k c (HR.out.alloc hB _) rfl (by rw [HV.out]; omega) h1 (by unfold maxLen; omega) (by omega) (by simp) ?_; intro v1 w1 own1 gr1 nil1 at1)
    have hb1 : Hid (Below w.heap.size w w1) := Lib.hid (((Below.refl _ _).alloc (Nat.le_refl _) _).grown gr1 (by simp) (by simp [Value.ownBlock]))
    go_ret
    exact ⟨_, rfl, own_eq own1 (by omega) (by simp), hb1.out⟩

/-- What the merge's walk knows between two rounds. -/
structure MgS (W : World) (p base : Nat) (v6 : Value) (k : Nat) (vs : List Value) (ls : List (List Ent)) : Prop where
  own : W.ownsRow p 22 1 v6 k vs
  lsb : LsB W p vs ls
  len : ls.length = k
theorem own_put {w : World} {base : Nat} {e : TypeId} {s n : Nat} {v : Value} {xs : List Value} {b o : Nat} (h : w.ownsRow base e s v n xs) (hne : ∀ g, v.ownBlock = some g → g ≠ b) (u : Value) : (w.setCell ⟨b, o, none⟩ u).ownsRow base e s v n xs :=
  ownsRow_of h (fun g hg => Below.heap_setCell _ _ _ _ (fun e => hne g hg e))
theorem BxV.grw {W W' : World} {b : Nat} {xs : List Value} {row : Option Nat} (h : BxV W b xs) (g : W.grownBy W' row) (hne : row ≠ some b) : BxV W' b xs :=
  ⟨Nat.lt_of_lt_of_le h.lt g.size, fun o => (World.frozen?_of_block (a := ⟨b, o, none⟩) (g.block b h.lt (fun e => hne e.symm))).trans (h.fz o), fun i v hv => g.cell (h.c i v hv) (fun e => hne e.symm)⟩
theorem own_rdq {w : World} {base : Nat} {e : TypeId} {A : Option Addr} {n c : Nat} {xs : List Value} {s : Nat} (h : w.ownsRow base e s (.slice A n c) n xs) : Rd w w.heap.size A xs := by
  obtain ⟨A', c', e, -, r⟩ := own_sl h
  injection e with e1
  rw [e1]
  exact r
theorem env_tail {W : World} {B : Nat} {b off : Nat} {x : Ent} {r : List Ent} (h : Rd W B (some ⟨b, off, none⟩) (env (x :: r))) (c : Nat) (hc : r.length + 1 ≤ c) : Rd W B (some ⟨b, if c = 1 then off else off + 4, none⟩) (env r) := fun hn => by
  obtain ⟨b', off', e, hb, hcl⟩ := h (by rw [env_cons]; simp [Ent.c])
  injection e with e
  injection e with e1 e2
  subst e1 e2
  have hr : r.length ≠ 0 := fun h0 => hn (by rw [List.eq_nil_of_length_eq_zero h0]; rfl)
  rw [if_neg (by omega)]
  refine ⟨b, off + 4, rfl, hb, fun i v hv => ?_⟩
  have := hcl (4 + i) v (by rw [env_cons, List.getElem?_append_right (by show 4 ≤ 4 + i; omega), show 4 + i - x.c.length = i by show 4 + i - 4 = i; omega]; exact hv)
  rwa [← Nat.add_assoc] at this

set_option maxHeartbeats 6400000 in
theorem merge_any (A : Option Addr) (k c : Nat) (vs : List Value) (ls : List (List Ent)) (hv : vs.length = k) (hl : ls.length = k) (hk : k ≤ 1000000) (hT : totL ls ≤ 1000000) (w : World) (hr : Rd w w.heap.size A vs) (hls : LsB w w.heap.size vs ls) :
    Calls Try.prog 26 #[.slice A k c] w fun e w' => ∃ v, e = .returned (.tuple #[v, .int .i64 (mrgE ls)]) ∧ w'.ownsRow w.heap.size 43 4 v (mrgL ls).length (env (mrgL ls)) ∧ Below w.heap.size w w' := by
  obtain ⟨p, hp⟩ : ∃ p, p = w.heap.size := ⟨_, rfl⟩
  rw [← hp] at hr hls ⊢
  have hpw : p ≤ w.heap.size := by omega
  have HV := Lib.hid hv
  have HL := Lib.hid hl
  have HR := Lib.hid hr
  have HLS := Lib.hid hls
  have HONE := Lib.hid (hls.one (hv.trans hl.symm))
  obtain ⟨E, hE⟩ : ∃ E, E = mrgE ls := ⟨_, rfl⟩
  obtain ⟨L, hL⟩ : ∃ L, L = mrgL ls := ⟨_, rfl⟩
  rw [← hE, ← hL]
  have HE := Lib.hid hE
  have HLL := Lib.hid hL
  clear hr hls hv hl hp hE hL
  go_enter Try.func26, Try.ntmps26
  go_wp2_with fail
  go_loopw [15] (fun s15 wr => ∃ i : Nat, s15 = .int .i64 (i : Int) ∧ i ≤ k ∧ Hid (∀ (j : Nat) (l : List Ent), j < i → ls[j]? = some l → risE l = true) ∧ Hid (Below p w wr)) (fun s15 _ => k - (intOf s15).toNat)
  case atStart => exact ⟨0, rfl, Nat.zero_le _, Lib.hid (fun j l h => by omega), Lib.hid (Below.refl _ _)⟩
  case round =>
    obtain ⟨i, rfl, hi, HA, B1⟩ := hrel
    obtain ⟨w1, rfl⟩ : ∃ x, x = wr := ⟨_, rfl⟩
    by_cases hlt : i < k
    · obtain ⟨l, hll⟩ : ∃ l, ls[i]? = some l := ⟨_, List.getElem?_eq_getElem (by rw [HL.out]; exact hlt)⟩
      obtain ⟨Ai, ci, hvi, hcl, hri⟩ := HLS.out i l hll
      have hln := Nat.le_trans (tot_get hll) hT
      obtain ⟨gl, ol, rfl, hgl, hce⟩ := (HR.out.below B1.out).at_ hvi
      have HLI := Lib.hid hll
      have i1 : (i : Int) < (k : Int) := by omega
      have i0 : (0 : Int) ≤ (i : Int) := by omega
      have hw1 := B1.out.size
      have zg : gl < w1.heap.size := by omega
      have HO := Lib.hid (ordered_any Ai l.length ci l rfl hln p w1 (hri.below B1.out) (by omega))
      clear hvi hri hll
      cases hrs : risE l
      · rw [hrs] at HO
        have hbad : ls.all risE = false := by
          rw [List.all_eq_false]
          exact ⟨l, List.mem_of_getElem? HLI.out, by rw [hrs]; decide⟩
        have SE := mrg_bad0 hbad
        have SE1 := Lib.hid (HE.out.trans SE.1)
        have SE2 := Lib.hid (HLL.out.trans SE.2)
        clear SE hbad HE HLL hrs
        go_wp2_with fail
        refine HO.out.mono ?_
        rintro e w2 ⟨rfl, hb⟩
        have B2 := Lib.hid (B1.out.trans (hb.mono (by omega)))
        clear hb HO
        go_wp2_with fail
        go_ret2
        exact ⟨_, by rw [SE1.out]; rfl, by rw [SE2.out]; exact World.ownsRow_nil _ _ _ _, B2.out⟩
      · rw [hrs] at HO
        have HA9 : Hid (∀ (j : Nat) (l : List Ent), j < i + 1 → ls[j]? = some l → risE l = true) := Lib.hid (fun j l' h1 h2 => by
          rcases Nat.lt_or_ge j i with h | h
          · exact HA.out j l' h h2
          · have e : j = i := by omega
            subst e
            rw [HLI.out] at h2
            injection h2 with h2
            rw [← h2]
            exact hrs)
        clear hrs
        go_wp2_with fail
        refine HO.out.mono ?_
        rintro e w2 ⟨rfl, hb⟩
        have B2 := Lib.hid (B1.out.trans (hb.mono (by omega)))
        clear hb HO
        go_wp2_with fail
        go_roundw
        case rel => exact ⟨i + 1, by go_num, by omega, HA9, B2⟩
        case measure => simp [intOf]; omega
    · have hall : ls.all risE = true := by
        rw [List.all_eq_true]
        intro l hl
        obtain ⟨j, hj⟩ := List.mem_iff_getElem?.1 hl
        exact HA.out j l (by have := (List.getElem?_eq_some_iff.1 hj).1; have := HL.out; omega) hj
      have HALL := Lib.hid hall
      have i1 : ¬ (i : Int) < (k : Int) := by omega
      have hw1 := B1.out.size
      clear hlt hall HA
      go_wp2_with fail
      refine (cloneL_any A k c vs HV.out hk HONE.out p w1 (HR.out.below B1.out) (by omega)).mono ?_
      rintro e w2 ⟨v6, rfl, own2, hb⟩
      obtain ⟨A6, c6, rfl, hkc6, -⟩ := own_sl own2
      have B2 := Lib.hid (B1.out.trans (hb.mono (by omega)))
      have hz2 : p ≤ w2.heap.size := by have := B2.out.size; omega
      have HG : Hid (∀ g, (Value.slice A6 k c6).ownBlock = some g → g < w2.heap.size) := Lib.hid (fun g hg => (own2.lt g hg).2)
      have M2 : Hid (MgS w2 p w2.heap.size (.slice A6 k c6) k vs ls) := Lib.hid ⟨own_base own2 (by omega), HLS.out.below B2.out, HL.out⟩
      obtain ⟨T, hTT⟩ : ∃ T, T = totL ls := ⟨_, rfl⟩
      obtain ⟨MM, hMM⟩ : ∃ MM, MM = mrgM ls [] := ⟨_, rfl⟩
      have HMM := Lib.hid hMM
      rw [← hTT] at hT
      clear hb own2 B1 HR HONE hMM hw1
      go_wp2_with fail
      go_loopw [7] (fun s7 wr => ∃ (A7 : Option Addr) (c7 : Nat) (out : List Ent) (vs' : List Value) (ls' : List (List Ent)), s7 = .slice A7 out.length c7 ∧ Hid (wr.ownsRow w2.heap.size 43 4 (.slice A7 out.length c7) out.length (env out)) ∧ Hid (MgS wr p w2.heap.size (.slice A6 k c6) k vs' ls') ∧ Hid (vs'.length = k) ∧ out.length + totL ls' = T ∧ Hid (MM = mrgM ls' out) ∧ Hid (Below p w wr) ∧ w2.heap.size ≤ wr.heap.size) (fun s7 _ => T + 1 - lenS s7)
      case atStart => exact ⟨none, 0, [], vs, ls, rfl, Lib.hid (World.ownsRow_nil _ _ _ _), M2, HV, by simp; exact hTT.symm, HMM, B2, Nat.le_refl _⟩
      case round =>
        clear M2 B2 hTT
        obtain ⟨A7, c7, out, vs', ls', rfl, O3, M3, LV, hTo, HM, B3, hz3⟩ := hrel
        obtain ⟨w3, rfl⟩ : ∃ x, x = wr := ⟨_, rfl⟩
        go_wp2_with fail
        go_loopw [8, 27] (fun s8 s27 wr => ∃ (i : Nat) (b : Option (Nat × Ent)), s27 = .int .i64 (i : Int) ∧ i ≤ k ∧ s8 = .int .i64 (bI b) ∧ Hid (bstM ls' 0 none = bstM (ls'.drop i) i b) ∧ Hid (∀ j x, b = some (j, x) → ∃ r, ls'[j]? = some (x :: r)) ∧ Hid (Below w3.heap.size w3 wr)) (fun _ s27 _ => k - (intOf s27).toNat)
        case atStart => exact ⟨0, none, rfl, Nat.zero_le _, rfl, Lib.hid rfl, Lib.hid (fun j x h => by cases h), Lib.hid (Below.refl _ _)⟩
        case round =>
          obtain ⟨i, b, rfl, hi, rfl, HB, HI, B4⟩ := hrel
          obtain ⟨w4, rfl⟩ : ∃ x, x = wr := ⟨_, rfl⟩
          by_cases hlt : i < k
          · obtain ⟨l, hll⟩ : ∃ l, ls'[i]? = some l := ⟨_, List.getElem?_eq_getElem (by rw [M3.out.len]; exact hlt)⟩
            obtain ⟨Ai, ci, hvi, hcl, hri⟩ := M3.out.lsb i l hll
            have HDR := Lib.hid (drop_at hll)
            obtain ⟨g6, rfl⟩ := own_blkC M3.out.own (by omega)
            have O4 := own_keep M3.out.own B4.out (Nat.le_refl _)
            have hce := O4.cellAt i (by omega)
            rw [hvi] at hce
            have hg6 := (O4.lt g6 rfl).2
            have hp3 : p ≤ w3.heap.size := by omega
            have i1 : (i : Int) < (k : Int) := by omega
            have i0 : (0 : Int) ≤ (i : Int) := by omega
            have R4 := Lib.hid (hri.below (B4.out.mono hp3))
            clear O4 hvi hri
            cases l with
            | nil =>
              have HB9 : Hid (bstM ls' 0 none = bstM (ls'.drop (i + 1)) (i + 1) b) := Lib.hid (by rw [HB.out, HDR.out, bst_empty])
              have HI9 := HI
              have HC : Hid (∀ W : World, True) := Lib.hid (fun _ => trivial)
              have l0 : ¬ (0 : Int) < (([] : List Ent).length : Int) := by simp
              clear HB HDR hll
              go_wp2_with fail
              refine wp_qall (by kernel_rfl) (by kernel_rfl) ?_
              intro hcg
              repeat (first | go_big_quiet_step (fail) | quiet_step (fail))
              refine wpQuiet_nil ?_
              intro wq hbwq hcwq hfwq
              clear hcg
              have B9 := Lib.hid (B4.out.trans (hbwq.mono B4.out.size))
              clear hbwq hcwq hfwq
              go_wp2_with fail
              go_roundw
              case rel => exact ⟨i + 1, b, by go_num, by omega, rfl, HB9, HI9, B9⟩
              case measure => simp [intOf]; omega
            | cons x r =>
              obtain ⟨bi, oi, rfl, hbi, hce2⟩ := en_at R4.out (show (x :: r)[0]? = some x from rfl)
              obtain ⟨d0, d1, d2, d3⟩ := hce2
              simp only [Nat.zero_mul, Nat.add_zero] at d0 d1 d2 d3
              have l0 : (0 : Int) < (r.length : Int) + 1 := by omega
              have l1 : decide ((0 : Int) < (r.length : Int) + 1) = true := decide_eq_true l0
              have zbi : bi < w4.heap.size := by have := B4.out.size; omega
              have HI9 : Hid (∀ j' x', some (i, x) = some (j', x') → ∃ r, ls'[j']? = some (x' :: r)) := Lib.hid (fun j' x' h => by
                injection h with h
                injection h with h1 h2
                subst h1 h2
                exact ⟨r, hll⟩)
              have HLL2 := Lib.hid hll
              clear hll
              cases b with
              | none =>
                have HB9 : Hid (bstM ls' 0 none = bstM (ls'.drop (i + 1)) (i + 1) (some (i, x))) := Lib.hid (by rw [HB.out, HDR.out, bst_cons]; rfl)
                rw [show bI none = -1 from rfl]
                clear HB HDR HI HLL2
                go_wp2_with fail
                refine wp_qall (by kernel_rfl) (by kernel_rfl) ?_
                intro hcg
                repeat (first | go_big_quiet_step (fail) | quiet_step (fail))
                refine wpQuiet_nil ?_
                intro wq hbwq hcwq hfwq
                clear hcg
                have B9 := Lib.hid (B4.out.trans (hbwq.mono B4.out.size))
                clear hbwq hcwq hfwq
                go_wp2_with fail
                go_roundw
                case rel => exact ⟨i + 1, some (i, x), by go_num, by omega, rfl, HB9, HI9, B9⟩
                case measure => simp [intOf]; omega
              | some q =>
                obtain ⟨j, y⟩ := q
                obtain ⟨r', hj⟩ := HI.out j y rfl
                obtain ⟨Aj, cj, hvj, hcjl, hrj⟩ := M3.out.lsb j _ hj
                have hjk : j < k := by have := (List.getElem?_eq_some_iff.1 hj).1; rw [M3.out.len] at this; exact this
                have hcj := (own_keep M3.out.own B4.out (Nat.le_refl _)).cellAt j (by omega)
                rw [hvj] at hcj
                obtain ⟨bj, oj, rfl, hbj, hce3⟩ := en_at (hrj.below (B4.out.mono hp3)) (show (y :: r')[0]? = some y from rfl)
                obtain ⟨f0, f1, f2, f3⟩ := hce3
                simp only [Nat.zero_mul, Nat.add_zero] at f0 f1 f2 f3
                have zbj : bj < w4.heap.size := by have := B4.out.size; omega
                have j0 : ¬ (j : Int) < 0 := by omega
                have j1 : decide ((j : Int) < 0) = false := decide_eq_false j0
                have j2 : (j : Int) < (k : Int) := by omega
                have j3 : (0 : Int) ≤ (j : Int) := by omega
                rw [show bI (some (j, y)) = (j : Int) from rfl]
                have HC := Lib.hid (fun W => ahead_any x y W)
                have HBX : Hid (bstM ls' 0 none = bstM (ls'.drop (i + 1)) (i + 1) (if ltE x y = true then some (i, x) else some (j, y))) := Lib.hid (by rw [HB.out, HDR.out, bst_cons]; rfl)
                clear HB HDR hvj hrj hj HLL2 hjk
                cases hxy : ltE x y
                · rw [hxy] at HC HBX
                  have HB9 : Hid (bstM ls' 0 none = bstM (ls'.drop (i + 1)) (i + 1) (some (j, y))) := Lib.hid HBX.out
                  clear HBX hxy HI9
                  have HI9 := HI
                  go_wp2_with fail
                  refine wp_qall (by kernel_rfl) (by kernel_rfl) ?_
                  intro hcg
                  repeat (first | go_big_quiet_step ((with_reducible (exact Calls.reg (HC.out _)))) | quiet_step ((with_reducible (exact Calls.reg (HC.out _)))))
                  refine wpQuiet_nil ?_
                  intro wq hbwq hcwq hfwq
                  clear hcg
                  have B9 := Lib.hid (B4.out.trans (hbwq.mono B4.out.size))
                  clear hbwq hcwq hfwq
                  go_wp2_with fail
                  go_roundw
                  case rel => exact ⟨i + 1, some (j, y), by go_num, by omega, rfl, HB9, HI9, B9⟩
                  case measure => simp [intOf]; omega
                · rw [hxy] at HC HBX
                  have HB9 : Hid (bstM ls' 0 none = bstM (ls'.drop (i + 1)) (i + 1) (some (i, x))) := Lib.hid HBX.out
                  clear HBX hxy HI
                  go_wp2_with fail
                  refine wp_qall (by kernel_rfl) (by kernel_rfl) ?_
                  intro hcg
                  repeat (first | go_big_quiet_step ((with_reducible (exact Calls.reg (HC.out _)))) | quiet_step ((with_reducible (exact Calls.reg (HC.out _)))))
                  refine wpQuiet_nil ?_
                  intro wq hbwq hcwq hfwq
                  clear hcg
                  have B9 := Lib.hid (B4.out.trans (hbwq.mono B4.out.size))
                  clear hbwq hcwq hfwq
                  go_wp2_with fail
                  go_roundw
                  case rel => exact ⟨i + 1, some (i, x), by go_num, by omega, rfl, HB9, HI9, B9⟩
                  case measure => simp [intOf]; omega
          · have i1 : ¬ (i : Int) < (k : Int) := by omega
            have hp3 : p ≤ w3.heap.size := by omega
            have HBS : Hid (bstM ls' 0 none = b) := Lib.hid (by rw [HB.out, List.drop_eq_nil_of_le (by rw [M3.out.len]; omega), bst_nil])
            have O4 := Lib.hid (own_keep O3.out B4.out (Nat.le_refl _))
            have B34 := Lib.hid (B3.out.trans (B4.out.mono hp3))
            have M4 : Hid (MgS w4 p w2.heap.size (.slice A6 k c6) k vs' ls') := Lib.hid ⟨own_keep M3.out.own B4.out (Nat.le_refl _), M3.out.lsb.below (B4.out.mono hp3), M3.out.len⟩
            have hz4 : w2.heap.size ≤ w4.heap.size := Nat.le_trans hz3 B4.out.size
            clear HB hlt O3 M3 B3 B4
            cases b with
            | none =>
              have SE := mrg_res1 HALL.out (HMM.out.symm.trans (HM.out.trans (mrg_end HBS.out out)))
              have SE1 := Lib.hid (HE.out.trans SE.1)
              have SE2 := Lib.hid (HLL.out.trans SE.2)
              rw [show bI none = -1 from rfl]
              clear SE HM HBS HI
              go_wp2_with fail
              go_ret2
              exact ⟨_, by rw [SE1.out]; rfl, by rw [SE2.out]; exact own_base O4.out hz2, B34.out⟩
            | some q =>
              obtain ⟨j, x⟩ := q
              obtain ⟨r, hj⟩ := HI.out j x rfl
              have HJ := Lib.hid hj
              obtain ⟨Aj, cj, hvj, hcjl, hrj⟩ := M4.out.lsb j _ hj
              have hjk : j < k := by have := (List.getElem?_eq_some_iff.1 hj).1; rw [M4.out.len] at this; exact this
              obtain ⟨g6, rfl⟩ := own_blkC M4.out.own (by omega)
              have HG6 : Hid (g6 < w2.heap.size) := Lib.hid (HG.out g6 rfl)
              have hcj := M4.out.own.cellAt j (by omega)
              rw [hvj] at hcj
              obtain ⟨bj, oj, rfl, hbj, hce3⟩ := en_at hrj (show (x :: r)[0]? = some x from rfl)
              obtain ⟨f0, f1, f2, f3⟩ := hce3
              simp only [Nat.zero_mul, Nat.add_zero] at f0 f1 f2 f3
              have RJ4 := Lib.hid hrj
              have zg6 := (M4.out.own.lt g6 rfl).2
              have zbj : bj < w4.heap.size := by omega
              have j0 : ¬ (j : Int) < 0 := by omega
              have j2 : (j : Int) < (k : Int) := by omega
              have j3 : (0 : Int) ≤ (j : Int) := by omega
              have l0 : (0 : Int) < (r.length : Int) + 1 := by omega
              rw [show bI (some (j, x)) = (j : Int) from rfl]
              have hcjl : r.length + 1 ≤ cj := hcjl
              have hvj : vs'[j]? = some (.slice (some ⟨bj, oj, none⟩) (r.length + 1) cj) := hvj
              have HVJ0 := Lib.hid hvj
              clear hj hrj HI hvj
              go_upto_region 19 with (fail)
              have hal : Below w4.heap.size w4 (w4.alloc (.cells #[.string x.key, .string x.val, .int .i64 x.seq, .bool x.del] 43)) := (Below.refl _ _).alloc (Nat.le_refl _) _
              have X5 := Lib.hid (BxV.new w4 #[.string x.key, .string x.val, .int .i64 x.seq, .bool x.del] 43)
              have O5 := Lib.hid (own_keep O4.out hal (Nat.le_refl _))
              have M5 : Hid (MgS (w4.alloc (.cells #[.string x.key, .string x.val, .int .i64 x.seq, .bool x.del] 43)) p w2.heap.size (.slice (some ⟨g6, 0, none⟩) k c6) k vs' ls') := Lib.hid ⟨own_keep M4.out.own hal (Nat.le_refl _), M4.out.lsb.below (hal.mono (by omega)), M4.out.len⟩
              have B5 := Lib.hid (B34.out.trans (hal.mono (by omega)))
              have RJ5 := Lib.hid (RJ4.out.below (hal.mono (by omega)))
              have HNX : Hid (∀ g, (Value.slice A7 out.length c7).ownBlock = some g → g ≠ w4.heap.size) := Lib.hid (fun g hg => Nat.ne_of_lt (O4.out.lt g hg).2)
              have hz5 : w2.heap.size ≤ (w4.alloc (.cells #[.string x.key, .string x.val, .int .i64 x.seq, .bool x.del] 43)).heap.size := Nat.le_trans hz4 hal.size
              clear hal O4 M4 B34 RJ4 f0 f1 f2 f3 hcj zg6 zbj hz4 hbj
              generalize w4.alloc (.cells #[.string x.key, .string x.val, .int .i64 x.seq, .bool x.del] 43) = w5 at *
              generalize w4.heap.size = bx at *
              have x0 := X5.out.c 0 _ rfl
              have x1 := X5.out.c 1 _ rfl
              have x2 := X5.out.c 2 _ rfl
              have x3 := X5.out.c 3 _ rfl
              have xl := X5.out.lt
              rcases nil_or_snoc out with ho | ⟨o', y, ho⟩
              · have HOK : Hid (okM out x = true) := Lib.hid (by rw [ho]; rfl)
                have e0 : ¬ (0 : Int) < (out.length : Int) := by rw [ho]; simp
                have e1 : decide ((0 : Int) < (out.length : Int)) = false := decide_eq_false e0
                have e2 : decide (0 < out.length) = false := by rw [ho]; rfl
                clear ho
                go_wp2_with fail
                refine wp_qall (by kernel_rfl) (by kernel_rfl) ?_
                intro hcg
                repeat (first | go_big_quiet_step (fail) | quiet_step (fail))
                refine wpQuiet_nil ?_
                intro wq hbwq hcwq hfwq
                clear hcg
                have O6 := Lib.hid (own_keep O5.out hbwq (Nat.le_refl _))
                have M6 : Hid (MgS wq p w2.heap.size (.slice (some ⟨g6, 0, none⟩) k c6) k vs' ls') := Lib.hid ⟨own_keep M5.out.own hbwq (Nat.le_refl _), M5.out.lsb.below (hbwq.mono (by omega)), M5.out.len⟩
                have X6 := Lib.hid (X5.out.next hbwq)
                have B6 := Lib.hid (B5.out.trans (hbwq.mono (by omega)))
                have RJ6 := Lib.hid (RJ5.out.below (hbwq.mono (by omega)))
                have hz6 : w2.heap.size ≤ wq.heap.size := Nat.le_trans hz5 hbwq.size
                clear hbwq hcwq hfwq O5 M5 X5 B5 RJ5 x0 x1 x2 x3 xl hz5 e0 e1 e2
                obtain ⟨w6, rfl⟩ : ∃ x, x = wq := ⟨_, rfl⟩
                have hvj := HVJ0.out
                go_wp2_with fail
                have hcx := M6.out.own.cellAt j (by omega)
                rw [hvj] at hcx
                have HCX := Lib.hid hcx
                have HVJ := Lib.hid hvj
                have HNO : Hid (∀ g, (Value.slice A7 out.length c7).ownBlock = some g → g ≠ g6) := Lib.hid (fun g hg => by have h1 := (O6.out.lt g hg).1; have h2 := HG6.out; omega)
                have HMG : Hid (MM = mrgM (ls'.set j r) (out ++ [x])) := Lib.hid (by rw [HM.out]; exact mrg_go HBS.out HJ.out HOK.out)
                have HTT : Hid ((out ++ [x]).length + totL (ls'.set j r) = T) := Lib.hid (by
                  have := tot_set ls' j x r HJ.out
                  rw [List.length_append]
                  simp only [List.length_cons, List.length_nil]
                  omega)
                have hol6 : out.length + 1 ≤ T := by have h1 := HTT.out; rw [List.length_append] at h1; simp only [List.length_cons, List.length_nil] at h1; omega
                have hpw6 : p ≤ w6.heap.size := by omega
                have c1 : (1 : Int) ≤ (r.length : Int) + 1 := by omega
                have HCJ := Lib.hid hcjl
                clear hcx hvj HM HOK
                by_cases hcj1 : cj = 1
                · subst hcj1
                  clear hcjl
                  have HRT : Hid (Rd w6 p (some ⟨bj, oj, none⟩) (env r)) := Lib.hid (by
                    have h := env_tail RJ6.out (1) HCJ.out
                    rw [if_pos rfl] at h
                    exact h)
                  refine wp_heldcut (S := fun W => BxV W bx [.string x.key, .string x.val, .int .i64 x.seq, .bool x.del] ∧ W.cell? ⟨g6, j, none⟩ = some (.slice (some ⟨bj, oj, none⟩) (r.length + 1) (1))) 12 (by kernel_rfl) (by kernel_rfl) ⟨X6.out.next (Below.drew (Below.refl _ _)), HCX.out⟩ (fun hHeld => ?_)
                  simp only [List.take_succ_cons, List.take_zero]
                  refine takeL (i := 0) (v := ?_) rfl (by kernel_rfl) (by kernel_rfl) (by kernel_rfl) (fun _ _ _ h => h) ⟨by rfl, ?_⟩ (by first | assumption | trivial) ?_
                  rotate_left
                  · intro W9 hSw
                    (try dsimp only at hSw)
                    go_simp
                    try with_reducible rfl
                  (try simp only [Act.put, List.setIfInBounds_toArray, List.set_cons_zero, List.set_cons_succ])
                  refine takeL (i := 1) (v := ?_) rfl (by kernel_rfl) (by kernel_rfl) (by kernel_rfl) (fun _ _ _ h => h) ⟨by rfl, ?_⟩ (by first | assumption | trivial) ?_
                  rotate_left
                  · intro W9 hSw
                    (try dsimp only at hSw)
                    go_simp
                    try with_reducible rfl
                  (try simp only [Act.put, List.setIfInBounds_toArray, List.set_cons_zero, List.set_cons_succ])
                  refine takeL (i := 2) (v := ?_) rfl (by kernel_rfl) (by kernel_rfl) (by kernel_rfl) (fun _ _ _ h => h) ⟨by rfl, ?_⟩ (by first | assumption | trivial) ?_
                  rotate_left
                  · intro W9 hSw
                    (try dsimp only at hSw)
                    go_simp
                    try with_reducible rfl
                  (try simp only [Act.put, List.setIfInBounds_toArray, List.set_cons_zero, List.set_cons_succ])
                  refine takeL (i := 3) (v := ?_) rfl (by kernel_rfl) (by kernel_rfl) (by kernel_rfl) (fun _ _ _ h => h) ⟨by rfl, ?_⟩ (by first | assumption | trivial) ?_
                  rotate_left
                  · intro W9 hSw
                    (try dsimp only at hSw)
                    (have x0 := hSw.1.c 0 _ rfl; have x1 := hSw.1.c 1 _ rfl; have x2 := hSw.1.c 2 _ rfl; have x3 := hSw.1.c 3 _ rfl; have xl := hSw.1.lt)
                    go_simp
                    try with_reducible rfl
                  (try simp only [Act.put, List.setIfInBounds_toArray, List.set_cons_zero, List.set_cons_succ])
                  refine takeL (i := 6) (v := ?_) rfl (by kernel_rfl) (by kernel_rfl) (by kernel_rfl) (fun _ _ _ h => h) ⟨by rfl, ?_⟩ (by first | assumption | trivial) ?_
                  rotate_left
                  · intro W9 hSw
                    (try dsimp only at hSw)
                    go_simp
                    try with_reducible rfl
                  (try simp only [Act.put, List.setIfInBounds_toArray, List.set_cons_zero, List.set_cons_succ])
                  refine takeL (i := 7) (v := ?_) rfl (by kernel_rfl) (by kernel_rfl) (by kernel_rfl) (fun _ _ _ h => h) ⟨by rfl, ?_⟩ (by first | assumption | trivial) ?_
                  rotate_left
                  · intro W9 hSw
                    (try dsimp only at hSw)
                    go_simp
                    try with_reducible rfl
                  (try simp only [Act.put, List.setIfInBounds_toArray, List.set_cons_zero, List.set_cons_succ])
                  refine takeL (i := 8) (v := ?_) rfl (by kernel_rfl) (by kernel_rfl) (by kernel_rfl) (fun _ _ _ h => h) ⟨by rfl, ?_⟩ (by first | assumption | trivial) ?_
                  rotate_left
                  · intro W9 hSw
                    (try dsimp only at hSw)
                    go_simp
                    try with_reducible rfl
                  (try simp only [Act.put, List.setIfInBounds_toArray, List.set_cons_zero, List.set_cons_succ])
                  refine takeL (i := 9) (v := ?_) rfl (by kernel_rfl) (by kernel_rfl) (by kernel_rfl) (fun _ _ _ h => h) ⟨by rfl, ?_⟩ (by first | assumption | trivial) ?_
                  rotate_left
                  · intro W9 hSw
                    (try dsimp only at hSw)
                    (have y0 := hSw.2; have yl := World.block_lt_of_cell? W9 _ y0)
                    go_simp
                    try with_reducible rfl
                  (try simp only [Act.put, List.setIfInBounds_toArray, List.set_cons_zero, List.set_cons_succ])
                  refine takeL (i := 10) (v := ?_) rfl (by kernel_rfl) (by kernel_rfl) (by kernel_rfl) (fun _ _ _ h => h) ⟨by rfl, ?_⟩ (by first | assumption | trivial) ?_
                  rotate_left
                  · intro W9 hSw
                    (try dsimp only at hSw)
                    go_simp
                    try with_reducible rfl
                  (try simp only [Act.put, List.setIfInBounds_toArray, List.set_cons_zero, List.set_cons_succ])
                  clear hHeld
                  have hdr : Below w6.heap.size w6 w6.drew := Below.drew (Below.refl _ _)
                  have OX := Lib.hid (own_keep O6.out hdr (Nat.le_refl _))
                  have MX := Lib.hid (own_keep M6.out.own hdr (Nat.le_refl _))
                  have XX := Lib.hid (X6.out.next hdr)
                  have BX := Lib.hid (hdr.mono hpw6)
                  have CX : Hid (w6.drew.cell? ⟨g6, j, none⟩ = some (.slice (some ⟨bj, oj, none⟩) (r.length + 1) (1))) := HCX
                  have hzx : w2.heap.size ≤ w6.drew.heap.size := hz6
                  clear hdr
                  generalize w6.drew = Y at *
                  refine wpAnyH_ready (rs := [4]) (by kernel_rfl) (by simp) ?_
                  refine consL rfl (by rfl) (fun K hK => ?_) ?_
                  · go_simp
                    have hal : Below Y.heap.size Y (Y.alloc (.cells #[.string x.key, .string x.val, .int .i64 x.seq, .bool x.del] 43)) := (Below.refl _ _).alloc (Nat.le_refl _) _
                    have OX2 := Lib.hid (OX.out.alloc (.cells #[.string x.key, .string x.val, .int .i64 x.seq, .bool x.del] 43))
                    have MX2 := Lib.hid (MX.out.alloc (.cells #[.string x.key, .string x.val, .int .i64 x.seq, .bool x.del] 43))
                    have XX2 := Lib.hid (XX.out.next hal)
                    have BX2 := Lib.hid (BX.out.trans (hal.mono (by omega)))
                    have RN : Hid (Rd (Y.alloc (.cells #[.string x.key, .string x.val, .int .i64 x.seq, .bool x.del] 43)) (Y.alloc (.cells #[.string x.key, .string x.val, .int .i64 x.seq, .bool x.del] 43)).heap.size (some ⟨Y.heap.size, 0, none⟩) [.string x.key, .string x.val, .int .i64 x.seq, .bool x.del]) := Lib.hid (rd_frC _ _ _ _)
                    have CX2 : Hid ((Y.alloc (.cells #[.string x.key, .string x.val, .int .i64 x.seq, .bool x.del] 43)).cell? ⟨g6, j, none⟩ = some (.slice (some ⟨bj, oj, none⟩) (r.length + 1) (1))) := Lib.hid ((World.cell?_alloc_lt _ _ _ (by show g6 < _; have := HG6.out; omega)).trans CX.out)
                    have hz2' : w2.heap.size ≤ (Y.alloc (.cells #[.string x.key, .string x.val, .int .i64 x.seq, .bool x.del] 43)).heap.size := by simp; omega
                    refine hK.out _ _ ⟨XX2.out, CX2.out⟩ (fun _ => ?_)
                    clear hK K hal OX MX XX BX CX
                    (try simp only [Act.put, List.setIfInBounds_toArray, List.set_cons_zero, List.set_cons_succ])
                    generalize Y.alloc (.cells #[.string x.key, .string x.val, .int .i64 x.seq, .bool x.del] 43) = Y2 at *
                    generalize Y.heap.size = by_ at *
                    refine wpAnyH_ready (rs := [5]) (by kernel_rfl) (by simp) ?_
                    refine consL rfl (by rfl) (fun K hK => ?_) ?_
                    · refine wp_app styE (.tmp 78) (.tmp 80) rfl w2.heap.size OX2.out rfl 1 1 RN.out rfl rfl (by simp [Value.oneCell']) (by unfold maxLen; omega) (by omega) hz2' ?_
                      intro v9 Y3 own9 gr9 nil9 at9
                      have hbl : Below w2.heap.size Y2 Y3 := (Below.refl _ _).grown gr9 hz2' (fun g e => (OX2.out.lt g e).1)
                      have MX3 := Lib.hid (MX2.out.kept gr9 (.inr (fun e => HNO.out g6 e.symm rfl)))
                      have XX3 := Lib.hid (BxV.grw XX2.out gr9 (fun e => HNX.out bx e rfl))
                      have CX3 := Lib.hid (gr9.cell CX2.out (fun e => HNO.out g6 e.symm rfl))
                      have BX3 := Lib.hid (BX2.out.trans (hbl.mono hz2))
                      have hz3' : w2.heap.size ≤ Y3.heap.size := Nat.le_trans hz2' hbl.size
                      refine hK.out _ _ ⟨XX3.out, CX3.out⟩ (fun _ => ?_)
                      obtain ⟨A9, c9, rfl, -, -⟩ := own_sl own9
                      have O9 : Hid (Y3.ownsRow w2.heap.size 43 4 (.slice A9 (out.length + 1) c9) (out ++ [x]).length (env (out ++ [x]))) := Lib.hid (own_eq own9 (by simp) (by rw [env_app]; rfl))
                      clear hK K hbl own9 gr9 nil9 at9 OX2 MX2 XX2 BX2 CX2 RN hz2'
                      (try simp only [Act.put, List.setIfInBounds_toArray, List.set_cons_zero, List.set_cons_succ])
                      refine takeL (i := 11) (v := ?_) rfl (by kernel_rfl) (by kernel_rfl) (by kernel_rfl) (fun _ _ _ h => h) ⟨by rfl, ?_⟩ (by first | assumption | trivial) ?_
                      rotate_left
                      · intro W9 hSw
                        (try dsimp only at hSw)
                        go_simp
                        try with_reducible rfl
                      (try simp only [Act.put, List.setIfInBounds_toArray, List.set_cons_zero, List.set_cons_succ])
                      refine wpAnyH_done (by kernel_rfl) ?_ _
                      simp only [tailPost, List.drop_succ_cons, List.drop_zero]
                      have cx := CX3.out
                      have fx := MX3.out.frozenAt j
                      have zx := (MX3.out.lt g6 rfl).2
                      go_wp2_with fail
                      have SX := (MX3.out.stored j (.slice (some ⟨bj, oj, none⟩) r.length 0)).1
                      have hb7 := (BX3.out.setCell (p := ⟨g6, j, none⟩) (by show p ≤ g6; exact (MX3.out.lt g6 rfl).1) (.slice (some ⟨bj, oj, none⟩) r.length 0))
                      have M9 : Hid (MgS (Y3.setCell ⟨g6, j, none⟩ (.slice (some ⟨bj, oj, none⟩) r.length 0)) p w2.heap.size (.slice (some ⟨g6, 0, none⟩) k c6) k (vs'.set j (.slice (some ⟨bj, oj, none⟩) r.length 0)) (ls'.set j r)) := Lib.hid ⟨SX, (M6.out.lsb.below hb7).set (by rw [LV.out, M6.out.len]) (by rw [M6.out.len]; exact hjk) (by have := HCJ.out; omega) (HRT.out.below hb7), by rw [List.length_set]; exact M6.out.len⟩
                      have LV9 : Hid ((vs'.set j (.slice (some ⟨bj, oj, none⟩) r.length 0)).length = k) := Lib.hid (by rw [List.length_set]; exact LV.out)
                      have OE9 : Hid ((Y3.setCell ⟨g6, j, none⟩ (.slice (some ⟨bj, oj, none⟩) r.length 0)).ownsRow w2.heap.size 43 4 (.slice A9 (out ++ [x]).length c9) (out ++ [x]).length (env (out ++ [x]))) := Lib.hid (by
                        have h := own_put (b := g6) (o := j) O9.out (fun g hg => by have h1 := (O9.out.lt g hg).1; have h2 := HG6.out; omega) (.slice (some ⟨bj, oj, none⟩) r.length 0)
                        rw [List.length_append] at h ⊢
                        exact h)
                      have B9 := Lib.hid (B6.out.trans hb7)
                      have hz9 : w2.heap.size ≤ (Y3.setCell ⟨g6, j, none⟩ (.slice (some ⟨bj, oj, none⟩) r.length 0)).heap.size := by simpa using hz3'
                      clear SX hb7 cx fx zx MX3 XX3 CX3 BX3 O9 hz3'
                      go_roundw
                      case rel => exact ⟨A9, c9, out ++ [x], _, _, by rw [List.length_append]; rfl, OE9, M9, LV9, HTT.out, HMG, B9, hz9⟩
                      case measure => simp [lenS]; omega
                    · exact AllReadyH.nil
                  · exact AllReadyH.nil
                · have hcj2 : ¬ (cj : Int) = 1 := by omega
                  have c2 : (r.length : Int) + 1 ≤ (cj : Int) := by omega
                  have HRT : Hid (Rd w6 p (some ⟨bj, (oj + 4), none⟩) (env r)) := Lib.hid (by
                    have h := env_tail RJ6.out (cj) HCJ.out
                    rw [if_neg hcj1] at h
                    exact h)
                  refine wp_heldcut (S := fun W => BxV W bx [.string x.key, .string x.val, .int .i64 x.seq, .bool x.del] ∧ W.cell? ⟨g6, j, none⟩ = some (.slice (some ⟨bj, oj, none⟩) (r.length + 1) (cj))) 12 (by kernel_rfl) (by kernel_rfl) ⟨X6.out.next (Below.drew (Below.refl _ _)), HCX.out⟩ (fun hHeld => ?_)
                  simp only [List.take_succ_cons, List.take_zero]
                  refine takeL (i := 0) (v := ?_) rfl (by kernel_rfl) (by kernel_rfl) (by kernel_rfl) (fun _ _ _ h => h) ⟨by rfl, ?_⟩ (by first | assumption | trivial) ?_
                  rotate_left
                  · intro W9 hSw
                    (try dsimp only at hSw)
                    go_simp
                    try with_reducible rfl
                  (try simp only [Act.put, List.setIfInBounds_toArray, List.set_cons_zero, List.set_cons_succ])
                  refine takeL (i := 1) (v := ?_) rfl (by kernel_rfl) (by kernel_rfl) (by kernel_rfl) (fun _ _ _ h => h) ⟨by rfl, ?_⟩ (by first | assumption | trivial) ?_
                  rotate_left
                  · intro W9 hSw
                    (try dsimp only at hSw)
                    go_simp
                    try with_reducible rfl
                  (try simp only [Act.put, List.setIfInBounds_toArray, List.set_cons_zero, List.set_cons_succ])
                  refine takeL (i := 2) (v := ?_) rfl (by kernel_rfl) (by kernel_rfl) (by kernel_rfl) (fun _ _ _ h => h) ⟨by rfl, ?_⟩ (by first | assumption | trivial) ?_
                  rotate_left
                  · intro W9 hSw
                    (try dsimp only at hSw)
                    go_simp
                    try with_reducible rfl
                  (try simp only [Act.put, List.setIfInBounds_toArray, List.set_cons_zero, List.set_cons_succ])
                  refine takeL (i := 3) (v := ?_) rfl (by kernel_rfl) (by kernel_rfl) (by kernel_rfl) (fun _ _ _ h => h) ⟨by rfl, ?_⟩ (by first | assumption | trivial) ?_
                  rotate_left
                  · intro W9 hSw
                    (try dsimp only at hSw)
                    (have x0 := hSw.1.c 0 _ rfl; have x1 := hSw.1.c 1 _ rfl; have x2 := hSw.1.c 2 _ rfl; have x3 := hSw.1.c 3 _ rfl; have xl := hSw.1.lt)
                    go_simp
                    try with_reducible rfl
                  (try simp only [Act.put, List.setIfInBounds_toArray, List.set_cons_zero, List.set_cons_succ])
                  refine takeL (i := 6) (v := ?_) rfl (by kernel_rfl) (by kernel_rfl) (by kernel_rfl) (fun _ _ _ h => h) ⟨by rfl, ?_⟩ (by first | assumption | trivial) ?_
                  rotate_left
                  · intro W9 hSw
                    (try dsimp only at hSw)
                    go_simp
                    try with_reducible rfl
                  (try simp only [Act.put, List.setIfInBounds_toArray, List.set_cons_zero, List.set_cons_succ])
                  refine takeL (i := 7) (v := ?_) rfl (by kernel_rfl) (by kernel_rfl) (by kernel_rfl) (fun _ _ _ h => h) ⟨by rfl, ?_⟩ (by first | assumption | trivial) ?_
                  rotate_left
                  · intro W9 hSw
                    (try dsimp only at hSw)
                    go_simp
                    try with_reducible rfl
                  (try simp only [Act.put, List.setIfInBounds_toArray, List.set_cons_zero, List.set_cons_succ])
                  refine takeL (i := 8) (v := ?_) rfl (by kernel_rfl) (by kernel_rfl) (by kernel_rfl) (fun _ _ _ h => h) ⟨by rfl, ?_⟩ (by first | assumption | trivial) ?_
                  rotate_left
                  · intro W9 hSw
                    (try dsimp only at hSw)
                    go_simp
                    try with_reducible rfl
                  (try simp only [Act.put, List.setIfInBounds_toArray, List.set_cons_zero, List.set_cons_succ])
                  refine takeL (i := 9) (v := ?_) rfl (by kernel_rfl) (by kernel_rfl) (by kernel_rfl) (fun _ _ _ h => h) ⟨by rfl, ?_⟩ (by first | assumption | trivial) ?_
                  rotate_left
                  · intro W9 hSw
                    (try dsimp only at hSw)
                    (have y0 := hSw.2; have yl := World.block_lt_of_cell? W9 _ y0)
                    go_simp
                    try with_reducible rfl
                  (try simp only [Act.put, List.setIfInBounds_toArray, List.set_cons_zero, List.set_cons_succ])
                  refine takeL (i := 10) (v := ?_) rfl (by kernel_rfl) (by kernel_rfl) (by kernel_rfl) (fun _ _ _ h => h) ⟨by rfl, ?_⟩ (by first | assumption | trivial) ?_
                  rotate_left
                  · intro W9 hSw
                    (try dsimp only at hSw)
                    go_simp
                    try with_reducible rfl
                  (try simp only [Act.put, List.setIfInBounds_toArray, List.set_cons_zero, List.set_cons_succ])
                  clear hHeld
                  have hdr : Below w6.heap.size w6 w6.drew := Below.drew (Below.refl _ _)
                  have OX := Lib.hid (own_keep O6.out hdr (Nat.le_refl _))
                  have MX := Lib.hid (own_keep M6.out.own hdr (Nat.le_refl _))
                  have XX := Lib.hid (X6.out.next hdr)
                  have BX := Lib.hid (hdr.mono hpw6)
                  have CX : Hid (w6.drew.cell? ⟨g6, j, none⟩ = some (.slice (some ⟨bj, oj, none⟩) (r.length + 1) (cj))) := HCX
                  have hzx : w2.heap.size ≤ w6.drew.heap.size := hz6
                  clear hdr
                  generalize w6.drew = Y at *
                  refine wpAnyH_ready (rs := [4]) (by kernel_rfl) (by simp) ?_
                  refine consL rfl (by rfl) (fun K hK => ?_) ?_
                  · go_simp
                    have hal : Below Y.heap.size Y (Y.alloc (.cells #[.string x.key, .string x.val, .int .i64 x.seq, .bool x.del] 43)) := (Below.refl _ _).alloc (Nat.le_refl _) _
                    have OX2 := Lib.hid (OX.out.alloc (.cells #[.string x.key, .string x.val, .int .i64 x.seq, .bool x.del] 43))
                    have MX2 := Lib.hid (MX.out.alloc (.cells #[.string x.key, .string x.val, .int .i64 x.seq, .bool x.del] 43))
                    have XX2 := Lib.hid (XX.out.next hal)
                    have BX2 := Lib.hid (BX.out.trans (hal.mono (by omega)))
                    have RN : Hid (Rd (Y.alloc (.cells #[.string x.key, .string x.val, .int .i64 x.seq, .bool x.del] 43)) (Y.alloc (.cells #[.string x.key, .string x.val, .int .i64 x.seq, .bool x.del] 43)).heap.size (some ⟨Y.heap.size, 0, none⟩) [.string x.key, .string x.val, .int .i64 x.seq, .bool x.del]) := Lib.hid (rd_frC _ _ _ _)
                    have CX2 : Hid ((Y.alloc (.cells #[.string x.key, .string x.val, .int .i64 x.seq, .bool x.del] 43)).cell? ⟨g6, j, none⟩ = some (.slice (some ⟨bj, oj, none⟩) (r.length + 1) (cj))) := Lib.hid ((World.cell?_alloc_lt _ _ _ (by show g6 < _; have := HG6.out; omega)).trans CX.out)
                    have hz2' : w2.heap.size ≤ (Y.alloc (.cells #[.string x.key, .string x.val, .int .i64 x.seq, .bool x.del] 43)).heap.size := by simp; omega
                    refine hK.out _ _ ⟨XX2.out, CX2.out⟩ (fun _ => ?_)
                    clear hK K hal OX MX XX BX CX
                    (try simp only [Act.put, List.setIfInBounds_toArray, List.set_cons_zero, List.set_cons_succ])
                    generalize Y.alloc (.cells #[.string x.key, .string x.val, .int .i64 x.seq, .bool x.del] 43) = Y2 at *
                    generalize Y.heap.size = by_ at *
                    refine wpAnyH_ready (rs := [5]) (by kernel_rfl) (by simp) ?_
                    refine consL rfl (by rfl) (fun K hK => ?_) ?_
                    · refine wp_app styE (.tmp 78) (.tmp 80) rfl w2.heap.size OX2.out rfl 1 1 RN.out rfl rfl (by simp [Value.oneCell']) (by unfold maxLen; omega) (by omega) hz2' ?_
                      intro v9 Y3 own9 gr9 nil9 at9
                      have hbl : Below w2.heap.size Y2 Y3 := (Below.refl _ _).grown gr9 hz2' (fun g e => (OX2.out.lt g e).1)
                      have MX3 := Lib.hid (MX2.out.kept gr9 (.inr (fun e => HNO.out g6 e.symm rfl)))
                      have XX3 := Lib.hid (BxV.grw XX2.out gr9 (fun e => HNX.out bx e rfl))
                      have CX3 := Lib.hid (gr9.cell CX2.out (fun e => HNO.out g6 e.symm rfl))
                      have BX3 := Lib.hid (BX2.out.trans (hbl.mono hz2))
                      have hz3' : w2.heap.size ≤ Y3.heap.size := Nat.le_trans hz2' hbl.size
                      refine hK.out _ _ ⟨XX3.out, CX3.out⟩ (fun _ => ?_)
                      obtain ⟨A9, c9, rfl, -, -⟩ := own_sl own9
                      have O9 : Hid (Y3.ownsRow w2.heap.size 43 4 (.slice A9 (out.length + 1) c9) (out ++ [x]).length (env (out ++ [x]))) := Lib.hid (own_eq own9 (by simp) (by rw [env_app]; rfl))
                      clear hK K hbl own9 gr9 nil9 at9 OX2 MX2 XX2 BX2 CX2 RN hz2'
                      (try simp only [Act.put, List.setIfInBounds_toArray, List.set_cons_zero, List.set_cons_succ])
                      refine takeL (i := 11) (v := ?_) rfl (by kernel_rfl) (by kernel_rfl) (by kernel_rfl) (fun _ _ _ h => h) ⟨by rfl, ?_⟩ (by first | assumption | trivial) ?_
                      rotate_left
                      · intro W9 hSw
                        (try dsimp only at hSw)
                        go_simp
                        try with_reducible rfl
                      (try simp only [Act.put, List.setIfInBounds_toArray, List.set_cons_zero, List.set_cons_succ])
                      refine wpAnyH_done (by kernel_rfl) ?_ _
                      simp only [tailPost, List.drop_succ_cons, List.drop_zero]
                      have cx := CX3.out
                      have fx := MX3.out.frozenAt j
                      have zx := (MX3.out.lt g6 rfl).2
                      go_wp2_with fail
                      have SX := (MX3.out.stored j (.slice (some ⟨bj, (oj + 4), none⟩) r.length (cj - 1))).1
                      have hb7 := (BX3.out.setCell (p := ⟨g6, j, none⟩) (by show p ≤ g6; exact (MX3.out.lt g6 rfl).1) (.slice (some ⟨bj, (oj + 4), none⟩) r.length (cj - 1)))
                      have M9 : Hid (MgS (Y3.setCell ⟨g6, j, none⟩ (.slice (some ⟨bj, (oj + 4), none⟩) r.length (cj - 1))) p w2.heap.size (.slice (some ⟨g6, 0, none⟩) k c6) k (vs'.set j (.slice (some ⟨bj, (oj + 4), none⟩) r.length (cj - 1))) (ls'.set j r)) := Lib.hid ⟨SX, (M6.out.lsb.below hb7).set (by rw [LV.out, M6.out.len]) (by rw [M6.out.len]; exact hjk) (by have := HCJ.out; omega) (HRT.out.below hb7), by rw [List.length_set]; exact M6.out.len⟩
                      have LV9 : Hid ((vs'.set j (.slice (some ⟨bj, (oj + 4), none⟩) r.length (cj - 1))).length = k) := Lib.hid (by rw [List.length_set]; exact LV.out)
                      have OE9 : Hid ((Y3.setCell ⟨g6, j, none⟩ (.slice (some ⟨bj, (oj + 4), none⟩) r.length (cj - 1))).ownsRow w2.heap.size 43 4 (.slice A9 (out ++ [x]).length c9) (out ++ [x]).length (env (out ++ [x]))) := Lib.hid (by
                        have h := own_put (b := g6) (o := j) O9.out (fun g hg => by have h1 := (O9.out.lt g hg).1; have h2 := HG6.out; omega) (.slice (some ⟨bj, (oj + 4), none⟩) r.length (cj - 1))
                        rw [List.length_append] at h ⊢
                        exact h)
                      have B9 := Lib.hid (B6.out.trans hb7)
                      have hz9 : w2.heap.size ≤ (Y3.setCell ⟨g6, j, none⟩ (.slice (some ⟨bj, (oj + 4), none⟩) r.length (cj - 1))).heap.size := by simpa using hz3'
                      clear SX hb7 cx fx zx MX3 XX3 CX3 BX3 O9 hz3'
                      go_roundw
                      case rel => exact ⟨A9, c9, out ++ [x], _, _, by rw [List.length_append]; rfl, OE9, M9, LV9, HTT.out, HMG, B9, hz9⟩
                      case measure => simp [lenS]; omega
                    · exact AllReadyH.nil
                  · exact AllReadyH.nil
              · have hoy : out[o'.length]? = some y := by rw [ho]; simp
                have hol : out.length = o'.length + 1 := by rw [ho]; simp
                have HOKE : Hid (okM out x = ltE y x) := Lib.hid (by unfold okM; rw [ho, List.getLast?_append, List.getLast?_singleton]; rfl)
                obtain ⟨ga, oa, rfl, hga, hyo⟩ := en_at (own_rdq O5.out) hoy
                obtain ⟨y0, y1, y2, y3⟩ := hyo
                have k2 : (out.length : Int) - 1 = (o'.length : Int) := by omega
                have k3 : (o'.length : Int) < (out.length : Int) := by omega
                have k4 : IntKind.i64.wrap (o'.length : Int) = (o'.length : Int) := IntWalk.i64_in _ (by omega)
                have k6 : (0 : Int) ≤ (o'.length : Int) := by omega
                have e0 : (0 : Int) < (out.length : Int) := by omega
                have e1 : decide ((0 : Int) < (out.length : Int)) = true := decide_eq_true e0
                have e2 : decide (0 < out.length) = true := by rw [hol]; simp
                have HC := Lib.hid (fun W => ahead_any y x W)
                have hol2 : out.length ≤ T := by omega
                clear hoy ho hol
                cases hyx : ltE y x
                · rw [hyx] at HC HOKE
                  have SE := mrg_res0 HALL.out (HMM.out.symm.trans (HM.out.trans (mrg_bad HBS.out HOKE.out)))
                  have SE1 := Lib.hid (HE.out.trans SE.1)
                  have SE2 := Lib.hid (HLL.out.trans SE.2)
                  clear SE HM HBS hyx
                  go_wp2_with fail
                  refine wp_qall (by kernel_rfl) (by kernel_rfl) ?_
                  intro hcg
                  repeat (first | go_big_quiet_step ((with_reducible (exact Calls.reg (HC.out _)))) | quiet_step ((with_reducible (exact Calls.reg (HC.out _)))))
                  refine wpQuiet_nil ?_
                  intro wq hbwq hcwq hfwq
                  clear hcg
                  have B6 := Lib.hid (B5.out.trans (hbwq.mono (by omega)))
                  clear hbwq hcwq hfwq
                  go_wp2_with fail
                  go_ret2
                  exact ⟨_, by rw [SE1.out]; rfl, by rw [SE2.out]; exact World.ownsRow_nil _ _ _ _, B6.out⟩
                · rw [hyx] at HC HOKE
                  have HOK := HOKE
                  clear hyx HOKE
                  go_wp2_with fail
                  refine wp_qall (by kernel_rfl) (by kernel_rfl) ?_
                  intro hcg
                  repeat (first | go_big_quiet_step ((with_reducible (exact Calls.reg (HC.out _)))) | quiet_step ((with_reducible (exact Calls.reg (HC.out _)))))
                  refine wpQuiet_nil ?_
                  intro wq hbwq hcwq hfwq
                  clear hcg
                  have O6 := Lib.hid (own_keep O5.out hbwq (Nat.le_refl _))
                  have M6 : Hid (MgS wq p w2.heap.size (.slice (some ⟨g6, 0, none⟩) k c6) k vs' ls') := Lib.hid ⟨own_keep M5.out.own hbwq (Nat.le_refl _), M5.out.lsb.below (hbwq.mono (by omega)), M5.out.len⟩
                  have X6 := Lib.hid (X5.out.next hbwq)
                  have B6 := Lib.hid (B5.out.trans (hbwq.mono (by omega)))
                  have RJ6 := Lib.hid (RJ5.out.below (hbwq.mono (by omega)))
                  have hz6 : w2.heap.size ≤ wq.heap.size := Nat.le_trans hz5 hbwq.size
                  clear hbwq hcwq hfwq O5 M5 X5 B5 RJ5 x0 x1 x2 x3 xl hz5 e0 e1 e2 y0 y1 y2 y3 k2 k3 k4 k6 HC
                  obtain ⟨w6, rfl⟩ : ∃ x, x = wq := ⟨_, rfl⟩
                  obtain ⟨A7, hA7⟩ : ∃ A, A = some (⟨ga, oa, none⟩ : Addr) := ⟨_, rfl⟩
                  rw [← hA7] at O6 HNX ⊢
                  clear hA7 hga
                  have hvj := HVJ0.out
                  go_wp2_with fail
                  have hcx := M6.out.own.cellAt j (by omega)
                  rw [hvj] at hcx
                  have HCX := Lib.hid hcx
                  have HVJ := Lib.hid hvj
                  have HNO : Hid (∀ g, (Value.slice A7 out.length c7).ownBlock = some g → g ≠ g6) := Lib.hid (fun g hg => by have h1 := (O6.out.lt g hg).1; have h2 := HG6.out; omega)
                  have HMG : Hid (MM = mrgM (ls'.set j r) (out ++ [x])) := Lib.hid (by rw [HM.out]; exact mrg_go HBS.out HJ.out HOK.out)
                  have HTT : Hid ((out ++ [x]).length + totL (ls'.set j r) = T) := Lib.hid (by
                    have := tot_set ls' j x r HJ.out
                    rw [List.length_append]
                    simp only [List.length_cons, List.length_nil]
                    omega)
                  have hol6 : out.length + 1 ≤ T := by have h1 := HTT.out; rw [List.length_append] at h1; simp only [List.length_cons, List.length_nil] at h1; omega
                  have hpw6 : p ≤ w6.heap.size := by omega
                  have c1 : (1 : Int) ≤ (r.length : Int) + 1 := by omega
                  have HCJ := Lib.hid hcjl
                  clear hcx hvj HM HOK
                  by_cases hcj1 : cj = 1
                  · subst hcj1
                    clear hcjl
                    have HRT : Hid (Rd w6 p (some ⟨bj, oj, none⟩) (env r)) := Lib.hid (by
                      have h := env_tail RJ6.out (1) HCJ.out
                      rw [if_pos rfl] at h
                      exact h)
                    refine wp_heldcut (S := fun W => BxV W bx [.string x.key, .string x.val, .int .i64 x.seq, .bool x.del] ∧ W.cell? ⟨g6, j, none⟩ = some (.slice (some ⟨bj, oj, none⟩) (r.length + 1) (1))) 12 (by kernel_rfl) (by kernel_rfl) ⟨X6.out.next (Below.drew (Below.refl _ _)), HCX.out⟩ (fun hHeld => ?_)
                    simp only [List.take_succ_cons, List.take_zero]
                    refine takeL (i := 0) (v := ?_) rfl (by kernel_rfl) (by kernel_rfl) (by kernel_rfl) (fun _ _ _ h => h) ⟨by rfl, ?_⟩ (by first | assumption | trivial) ?_
                    rotate_left
                    · intro W9 hSw
                      (try dsimp only at hSw)
                      go_simp
                      try with_reducible rfl
                    (try simp only [Act.put, List.setIfInBounds_toArray, List.set_cons_zero, List.set_cons_succ])
                    refine takeL (i := 1) (v := ?_) rfl (by kernel_rfl) (by kernel_rfl) (by kernel_rfl) (fun _ _ _ h => h) ⟨by rfl, ?_⟩ (by first | assumption | trivial) ?_
                    rotate_left
                    · intro W9 hSw
                      (try dsimp only at hSw)
                      go_simp
                      try with_reducible rfl
                    (try simp only [Act.put, List.setIfInBounds_toArray, List.set_cons_zero, List.set_cons_succ])
                    refine takeL (i := 2) (v := ?_) rfl (by kernel_rfl) (by kernel_rfl) (by kernel_rfl) (fun _ _ _ h => h) ⟨by rfl, ?_⟩ (by first | assumption | trivial) ?_
                    rotate_left
                    · intro W9 hSw
                      (try dsimp only at hSw)
                      go_simp
                      try with_reducible rfl
                    (try simp only [Act.put, List.setIfInBounds_toArray, List.set_cons_zero, List.set_cons_succ])
                    refine takeL (i := 3) (v := ?_) rfl (by kernel_rfl) (by kernel_rfl) (by kernel_rfl) (fun _ _ _ h => h) ⟨by rfl, ?_⟩ (by first | assumption | trivial) ?_
                    rotate_left
                    · intro W9 hSw
                      (try dsimp only at hSw)
                      (have x0 := hSw.1.c 0 _ rfl; have x1 := hSw.1.c 1 _ rfl; have x2 := hSw.1.c 2 _ rfl; have x3 := hSw.1.c 3 _ rfl; have xl := hSw.1.lt)
                      go_simp
                      try with_reducible rfl
                    (try simp only [Act.put, List.setIfInBounds_toArray, List.set_cons_zero, List.set_cons_succ])
                    refine takeL (i := 6) (v := ?_) rfl (by kernel_rfl) (by kernel_rfl) (by kernel_rfl) (fun _ _ _ h => h) ⟨by rfl, ?_⟩ (by first | assumption | trivial) ?_
                    rotate_left
                    · intro W9 hSw
                      (try dsimp only at hSw)
                      go_simp
                      try with_reducible rfl
                    (try simp only [Act.put, List.setIfInBounds_toArray, List.set_cons_zero, List.set_cons_succ])
                    refine takeL (i := 7) (v := ?_) rfl (by kernel_rfl) (by kernel_rfl) (by kernel_rfl) (fun _ _ _ h => h) ⟨by rfl, ?_⟩ (by first | assumption | trivial) ?_
                    rotate_left
                    · intro W9 hSw
                      (try dsimp only at hSw)
                      go_simp
                      try with_reducible rfl
                    (try simp only [Act.put, List.setIfInBounds_toArray, List.set_cons_zero, List.set_cons_succ])
                    refine takeL (i := 8) (v := ?_) rfl (by kernel_rfl) (by kernel_rfl) (by kernel_rfl) (fun _ _ _ h => h) ⟨by rfl, ?_⟩ (by first | assumption | trivial) ?_
                    rotate_left
                    · intro W9 hSw
                      (try dsimp only at hSw)
                      go_simp
                      try with_reducible rfl
                    (try simp only [Act.put, List.setIfInBounds_toArray, List.set_cons_zero, List.set_cons_succ])
                    refine takeL (i := 9) (v := ?_) rfl (by kernel_rfl) (by kernel_rfl) (by kernel_rfl) (fun _ _ _ h => h) ⟨by rfl, ?_⟩ (by first | assumption | trivial) ?_
                    rotate_left
                    · intro W9 hSw
                      (try dsimp only at hSw)
                      (have y0 := hSw.2; have yl := World.block_lt_of_cell? W9 _ y0)
                      go_simp
                      try with_reducible rfl
                    (try simp only [Act.put, List.setIfInBounds_toArray, List.set_cons_zero, List.set_cons_succ])
                    refine takeL (i := 10) (v := ?_) rfl (by kernel_rfl) (by kernel_rfl) (by kernel_rfl) (fun _ _ _ h => h) ⟨by rfl, ?_⟩ (by first | assumption | trivial) ?_
                    rotate_left
                    · intro W9 hSw
                      (try dsimp only at hSw)
                      go_simp
                      try with_reducible rfl
                    (try simp only [Act.put, List.setIfInBounds_toArray, List.set_cons_zero, List.set_cons_succ])
                    clear hHeld
                    have hdr : Below w6.heap.size w6 w6.drew := Below.drew (Below.refl _ _)
                    have OX := Lib.hid (own_keep O6.out hdr (Nat.le_refl _))
                    have MX := Lib.hid (own_keep M6.out.own hdr (Nat.le_refl _))
                    have XX := Lib.hid (X6.out.next hdr)
                    have BX := Lib.hid (hdr.mono hpw6)
                    have CX : Hid (w6.drew.cell? ⟨g6, j, none⟩ = some (.slice (some ⟨bj, oj, none⟩) (r.length + 1) (1))) := HCX
                    have hzx : w2.heap.size ≤ w6.drew.heap.size := hz6
                    clear hdr
                    generalize w6.drew = Y at *
                    refine wpAnyH_ready (rs := [4]) (by kernel_rfl) (by simp) ?_
                    refine consL rfl (by rfl) (fun K hK => ?_) ?_
                    · go_simp
                      have hal : Below Y.heap.size Y (Y.alloc (.cells #[.string x.key, .string x.val, .int .i64 x.seq, .bool x.del] 43)) := (Below.refl _ _).alloc (Nat.le_refl _) _
                      have OX2 := Lib.hid (OX.out.alloc (.cells #[.string x.key, .string x.val, .int .i64 x.seq, .bool x.del] 43))
                      have MX2 := Lib.hid (MX.out.alloc (.cells #[.string x.key, .string x.val, .int .i64 x.seq, .bool x.del] 43))
                      have XX2 := Lib.hid (XX.out.next hal)
                      have BX2 := Lib.hid (BX.out.trans (hal.mono (by omega)))
                      have RN : Hid (Rd (Y.alloc (.cells #[.string x.key, .string x.val, .int .i64 x.seq, .bool x.del] 43)) (Y.alloc (.cells #[.string x.key, .string x.val, .int .i64 x.seq, .bool x.del] 43)).heap.size (some ⟨Y.heap.size, 0, none⟩) [.string x.key, .string x.val, .int .i64 x.seq, .bool x.del]) := Lib.hid (rd_frC _ _ _ _)
                      have CX2 : Hid ((Y.alloc (.cells #[.string x.key, .string x.val, .int .i64 x.seq, .bool x.del] 43)).cell? ⟨g6, j, none⟩ = some (.slice (some ⟨bj, oj, none⟩) (r.length + 1) (1))) := Lib.hid ((World.cell?_alloc_lt _ _ _ (by show g6 < _; have := HG6.out; omega)).trans CX.out)
                      have hz2' : w2.heap.size ≤ (Y.alloc (.cells #[.string x.key, .string x.val, .int .i64 x.seq, .bool x.del] 43)).heap.size := by simp; omega
                      refine hK.out _ _ ⟨XX2.out, CX2.out⟩ (fun _ => ?_)
                      clear hK K hal OX MX XX BX CX
                      (try simp only [Act.put, List.setIfInBounds_toArray, List.set_cons_zero, List.set_cons_succ])
                      generalize Y.alloc (.cells #[.string x.key, .string x.val, .int .i64 x.seq, .bool x.del] 43) = Y2 at *
                      generalize Y.heap.size = by_ at *
                      refine wpAnyH_ready (rs := [5]) (by kernel_rfl) (by simp) ?_
                      refine consL rfl (by rfl) (fun K hK => ?_) ?_
                      · refine wp_app styE (.tmp 78) (.tmp 80) rfl w2.heap.size OX2.out rfl 1 1 RN.out rfl rfl (by simp [Value.oneCell']) (by unfold maxLen; omega) (by omega) hz2' ?_
                        intro v9 Y3 own9 gr9 nil9 at9
                        have hbl : Below w2.heap.size Y2 Y3 := (Below.refl _ _).grown gr9 hz2' (fun g e => (OX2.out.lt g e).1)
                        have MX3 := Lib.hid (MX2.out.kept gr9 (.inr (fun e => HNO.out g6 e.symm rfl)))
                        have XX3 := Lib.hid (BxV.grw XX2.out gr9 (fun e => HNX.out bx e rfl))
                        have CX3 := Lib.hid (gr9.cell CX2.out (fun e => HNO.out g6 e.symm rfl))
                        have BX3 := Lib.hid (BX2.out.trans (hbl.mono hz2))
                        have hz3' : w2.heap.size ≤ Y3.heap.size := Nat.le_trans hz2' hbl.size
                        refine hK.out _ _ ⟨XX3.out, CX3.out⟩ (fun _ => ?_)
                        obtain ⟨A9, c9, rfl, -, -⟩ := own_sl own9
                        have O9 : Hid (Y3.ownsRow w2.heap.size 43 4 (.slice A9 (out.length + 1) c9) (out ++ [x]).length (env (out ++ [x]))) := Lib.hid (own_eq own9 (by simp) (by rw [env_app]; rfl))
                        clear hK K hbl own9 gr9 nil9 at9 OX2 MX2 XX2 BX2 CX2 RN hz2'
                        (try simp only [Act.put, List.setIfInBounds_toArray, List.set_cons_zero, List.set_cons_succ])
                        refine takeL (i := 11) (v := ?_) rfl (by kernel_rfl) (by kernel_rfl) (by kernel_rfl) (fun _ _ _ h => h) ⟨by rfl, ?_⟩ (by first | assumption | trivial) ?_
                        rotate_left
                        · intro W9 hSw
                          (try dsimp only at hSw)
                          go_simp
                          try with_reducible rfl
                        (try simp only [Act.put, List.setIfInBounds_toArray, List.set_cons_zero, List.set_cons_succ])
                        refine wpAnyH_done (by kernel_rfl) ?_ _
                        simp only [tailPost, List.drop_succ_cons, List.drop_zero]
                        have cx := CX3.out
                        have fx := MX3.out.frozenAt j
                        have zx := (MX3.out.lt g6 rfl).2
                        go_wp2_with fail
                        have SX := (MX3.out.stored j (.slice (some ⟨bj, oj, none⟩) r.length 0)).1
                        have hb7 := (BX3.out.setCell (p := ⟨g6, j, none⟩) (by show p ≤ g6; exact (MX3.out.lt g6 rfl).1) (.slice (some ⟨bj, oj, none⟩) r.length 0))
                        have M9 : Hid (MgS (Y3.setCell ⟨g6, j, none⟩ (.slice (some ⟨bj, oj, none⟩) r.length 0)) p w2.heap.size (.slice (some ⟨g6, 0, none⟩) k c6) k (vs'.set j (.slice (some ⟨bj, oj, none⟩) r.length 0)) (ls'.set j r)) := Lib.hid ⟨SX, (M6.out.lsb.below hb7).set (by rw [LV.out, M6.out.len]) (by rw [M6.out.len]; exact hjk) (by have := HCJ.out; omega) (HRT.out.below hb7), by rw [List.length_set]; exact M6.out.len⟩
                        have LV9 : Hid ((vs'.set j (.slice (some ⟨bj, oj, none⟩) r.length 0)).length = k) := Lib.hid (by rw [List.length_set]; exact LV.out)
                        have OE9 : Hid ((Y3.setCell ⟨g6, j, none⟩ (.slice (some ⟨bj, oj, none⟩) r.length 0)).ownsRow w2.heap.size 43 4 (.slice A9 (out ++ [x]).length c9) (out ++ [x]).length (env (out ++ [x]))) := Lib.hid (by
                          have h := own_put (b := g6) (o := j) O9.out (fun g hg => by have h1 := (O9.out.lt g hg).1; have h2 := HG6.out; omega) (.slice (some ⟨bj, oj, none⟩) r.length 0)
                          rw [List.length_append] at h ⊢
                          exact h)
                        have B9 := Lib.hid (B6.out.trans hb7)
                        have hz9 : w2.heap.size ≤ (Y3.setCell ⟨g6, j, none⟩ (.slice (some ⟨bj, oj, none⟩) r.length 0)).heap.size := by simpa using hz3'
                        clear SX hb7 cx fx zx MX3 XX3 CX3 BX3 O9 hz3'
                        go_roundw
                        case rel => exact ⟨A9, c9, out ++ [x], _, _, by rw [List.length_append]; rfl, OE9, M9, LV9, HTT.out, HMG, B9, hz9⟩
                        case measure => simp [lenS]; omega
                      · exact AllReadyH.nil
                    · exact AllReadyH.nil
                  · have hcj2 : ¬ (cj : Int) = 1 := by omega
                    have c2 : (r.length : Int) + 1 ≤ (cj : Int) := by omega
                    have HRT : Hid (Rd w6 p (some ⟨bj, (oj + 4), none⟩) (env r)) := Lib.hid (by
                      have h := env_tail RJ6.out (cj) HCJ.out
                      rw [if_neg hcj1] at h
                      exact h)
                    refine wp_heldcut (S := fun W => BxV W bx [.string x.key, .string x.val, .int .i64 x.seq, .bool x.del] ∧ W.cell? ⟨g6, j, none⟩ = some (.slice (some ⟨bj, oj, none⟩) (r.length + 1) (cj))) 12 (by kernel_rfl) (by kernel_rfl) ⟨X6.out.next (Below.drew (Below.refl _ _)), HCX.out⟩ (fun hHeld => ?_)
                    simp only [List.take_succ_cons, List.take_zero]
                    refine takeL (i := 0) (v := ?_) rfl (by kernel_rfl) (by kernel_rfl) (by kernel_rfl) (fun _ _ _ h => h) ⟨by rfl, ?_⟩ (by first | assumption | trivial) ?_
                    rotate_left
                    · intro W9 hSw
                      (try dsimp only at hSw)
                      go_simp
                      try with_reducible rfl
                    (try simp only [Act.put, List.setIfInBounds_toArray, List.set_cons_zero, List.set_cons_succ])
                    refine takeL (i := 1) (v := ?_) rfl (by kernel_rfl) (by kernel_rfl) (by kernel_rfl) (fun _ _ _ h => h) ⟨by rfl, ?_⟩ (by first | assumption | trivial) ?_
                    rotate_left
                    · intro W9 hSw
                      (try dsimp only at hSw)
                      go_simp
                      try with_reducible rfl
                    (try simp only [Act.put, List.setIfInBounds_toArray, List.set_cons_zero, List.set_cons_succ])
                    refine takeL (i := 2) (v := ?_) rfl (by kernel_rfl) (by kernel_rfl) (by kernel_rfl) (fun _ _ _ h => h) ⟨by rfl, ?_⟩ (by first | assumption | trivial) ?_
                    rotate_left
                    · intro W9 hSw
                      (try dsimp only at hSw)
                      go_simp
                      try with_reducible rfl
                    (try simp only [Act.put, List.setIfInBounds_toArray, List.set_cons_zero, List.set_cons_succ])
                    refine takeL (i := 3) (v := ?_) rfl (by kernel_rfl) (by kernel_rfl) (by kernel_rfl) (fun _ _ _ h => h) ⟨by rfl, ?_⟩ (by first | assumption | trivial) ?_
                    rotate_left
                    · intro W9 hSw
                      (try dsimp only at hSw)
                      (have x0 := hSw.1.c 0 _ rfl; have x1 := hSw.1.c 1 _ rfl; have x2 := hSw.1.c 2 _ rfl; have x3 := hSw.1.c 3 _ rfl; have xl := hSw.1.lt)
                      go_simp
                      try with_reducible rfl
                    (try simp only [Act.put, List.setIfInBounds_toArray, List.set_cons_zero, List.set_cons_succ])
                    refine takeL (i := 6) (v := ?_) rfl (by kernel_rfl) (by kernel_rfl) (by kernel_rfl) (fun _ _ _ h => h) ⟨by rfl, ?_⟩ (by first | assumption | trivial) ?_
                    rotate_left
                    · intro W9 hSw
                      (try dsimp only at hSw)
                      go_simp
                      try with_reducible rfl
                    (try simp only [Act.put, List.setIfInBounds_toArray, List.set_cons_zero, List.set_cons_succ])
                    refine takeL (i := 7) (v := ?_) rfl (by kernel_rfl) (by kernel_rfl) (by kernel_rfl) (fun _ _ _ h => h) ⟨by rfl, ?_⟩ (by first | assumption | trivial) ?_
                    rotate_left
                    · intro W9 hSw
                      (try dsimp only at hSw)
                      go_simp
                      try with_reducible rfl
                    (try simp only [Act.put, List.setIfInBounds_toArray, List.set_cons_zero, List.set_cons_succ])
                    refine takeL (i := 8) (v := ?_) rfl (by kernel_rfl) (by kernel_rfl) (by kernel_rfl) (fun _ _ _ h => h) ⟨by rfl, ?_⟩ (by first | assumption | trivial) ?_
                    rotate_left
                    · intro W9 hSw
                      (try dsimp only at hSw)
                      go_simp
                      try with_reducible rfl
                    (try simp only [Act.put, List.setIfInBounds_toArray, List.set_cons_zero, List.set_cons_succ])
                    refine takeL (i := 9) (v := ?_) rfl (by kernel_rfl) (by kernel_rfl) (by kernel_rfl) (fun _ _ _ h => h) ⟨by rfl, ?_⟩ (by first | assumption | trivial) ?_
                    rotate_left
                    · intro W9 hSw
                      (try dsimp only at hSw)
                      (have y0 := hSw.2; have yl := World.block_lt_of_cell? W9 _ y0)
                      go_simp
                      try with_reducible rfl
                    (try simp only [Act.put, List.setIfInBounds_toArray, List.set_cons_zero, List.set_cons_succ])
                    refine takeL (i := 10) (v := ?_) rfl (by kernel_rfl) (by kernel_rfl) (by kernel_rfl) (fun _ _ _ h => h) ⟨by rfl, ?_⟩ (by first | assumption | trivial) ?_
                    rotate_left
                    · intro W9 hSw
                      (try dsimp only at hSw)
                      go_simp
                      try with_reducible rfl
                    (try simp only [Act.put, List.setIfInBounds_toArray, List.set_cons_zero, List.set_cons_succ])
                    clear hHeld
                    have hdr : Below w6.heap.size w6 w6.drew := Below.drew (Below.refl _ _)
                    have OX := Lib.hid (own_keep O6.out hdr (Nat.le_refl _))
                    have MX := Lib.hid (own_keep M6.out.own hdr (Nat.le_refl _))
                    have XX := Lib.hid (X6.out.next hdr)
                    have BX := Lib.hid (hdr.mono hpw6)
                    have CX : Hid (w6.drew.cell? ⟨g6, j, none⟩ = some (.slice (some ⟨bj, oj, none⟩) (r.length + 1) (cj))) := HCX
                    have hzx : w2.heap.size ≤ w6.drew.heap.size := hz6
                    clear hdr
                    generalize w6.drew = Y at *
                    refine wpAnyH_ready (rs := [4]) (by kernel_rfl) (by simp) ?_
                    refine consL rfl (by rfl) (fun K hK => ?_) ?_
                    · go_simp
                      have hal : Below Y.heap.size Y (Y.alloc (.cells #[.string x.key, .string x.val, .int .i64 x.seq, .bool x.del] 43)) := (Below.refl _ _).alloc (Nat.le_refl _) _
                      have OX2 := Lib.hid (OX.out.alloc (.cells #[.string x.key, .string x.val, .int .i64 x.seq, .bool x.del] 43))
                      have MX2 := Lib.hid (MX.out.alloc (.cells #[.string x.key, .string x.val, .int .i64 x.seq, .bool x.del] 43))
                      have XX2 := Lib.hid (XX.out.next hal)
                      have BX2 := Lib.hid (BX.out.trans (hal.mono (by omega)))
                      have RN : Hid (Rd (Y.alloc (.cells #[.string x.key, .string x.val, .int .i64 x.seq, .bool x.del] 43)) (Y.alloc (.cells #[.string x.key, .string x.val, .int .i64 x.seq, .bool x.del] 43)).heap.size (some ⟨Y.heap.size, 0, none⟩) [.string x.key, .string x.val, .int .i64 x.seq, .bool x.del]) := Lib.hid (rd_frC _ _ _ _)
                      have CX2 : Hid ((Y.alloc (.cells #[.string x.key, .string x.val, .int .i64 x.seq, .bool x.del] 43)).cell? ⟨g6, j, none⟩ = some (.slice (some ⟨bj, oj, none⟩) (r.length + 1) (cj))) := Lib.hid ((World.cell?_alloc_lt _ _ _ (by show g6 < _; have := HG6.out; omega)).trans CX.out)
                      have hz2' : w2.heap.size ≤ (Y.alloc (.cells #[.string x.key, .string x.val, .int .i64 x.seq, .bool x.del] 43)).heap.size := by simp; omega
                      refine hK.out _ _ ⟨XX2.out, CX2.out⟩ (fun _ => ?_)
                      clear hK K hal OX MX XX BX CX
                      (try simp only [Act.put, List.setIfInBounds_toArray, List.set_cons_zero, List.set_cons_succ])
                      generalize Y.alloc (.cells #[.string x.key, .string x.val, .int .i64 x.seq, .bool x.del] 43) = Y2 at *
                      generalize Y.heap.size = by_ at *
                      refine wpAnyH_ready (rs := [5]) (by kernel_rfl) (by simp) ?_
                      refine consL rfl (by rfl) (fun K hK => ?_) ?_
                      · refine wp_app styE (.tmp 78) (.tmp 80) rfl w2.heap.size OX2.out rfl 1 1 RN.out rfl rfl (by simp [Value.oneCell']) (by unfold maxLen; omega) (by omega) hz2' ?_
                        intro v9 Y3 own9 gr9 nil9 at9
                        have hbl : Below w2.heap.size Y2 Y3 := (Below.refl _ _).grown gr9 hz2' (fun g e => (OX2.out.lt g e).1)
                        have MX3 := Lib.hid (MX2.out.kept gr9 (.inr (fun e => HNO.out g6 e.symm rfl)))
                        have XX3 := Lib.hid (BxV.grw XX2.out gr9 (fun e => HNX.out bx e rfl))
                        have CX3 := Lib.hid (gr9.cell CX2.out (fun e => HNO.out g6 e.symm rfl))
                        have BX3 := Lib.hid (BX2.out.trans (hbl.mono hz2))
                        have hz3' : w2.heap.size ≤ Y3.heap.size := Nat.le_trans hz2' hbl.size
                        refine hK.out _ _ ⟨XX3.out, CX3.out⟩ (fun _ => ?_)
                        obtain ⟨A9, c9, rfl, -, -⟩ := own_sl own9
                        have O9 : Hid (Y3.ownsRow w2.heap.size 43 4 (.slice A9 (out.length + 1) c9) (out ++ [x]).length (env (out ++ [x]))) := Lib.hid (own_eq own9 (by simp) (by rw [env_app]; rfl))
                        clear hK K hbl own9 gr9 nil9 at9 OX2 MX2 XX2 BX2 CX2 RN hz2'
                        (try simp only [Act.put, List.setIfInBounds_toArray, List.set_cons_zero, List.set_cons_succ])
                        refine takeL (i := 11) (v := ?_) rfl (by kernel_rfl) (by kernel_rfl) (by kernel_rfl) (fun _ _ _ h => h) ⟨by rfl, ?_⟩ (by first | assumption | trivial) ?_
                        rotate_left
                        · intro W9 hSw
                          (try dsimp only at hSw)
                          go_simp
                          try with_reducible rfl
                        (try simp only [Act.put, List.setIfInBounds_toArray, List.set_cons_zero, List.set_cons_succ])
                        refine wpAnyH_done (by kernel_rfl) ?_ _
                        simp only [tailPost, List.drop_succ_cons, List.drop_zero]
                        have cx := CX3.out
                        have fx := MX3.out.frozenAt j
                        have zx := (MX3.out.lt g6 rfl).2
                        go_wp2_with fail
                        have SX := (MX3.out.stored j (.slice (some ⟨bj, (oj + 4), none⟩) r.length (cj - 1))).1
                        have hb7 := (BX3.out.setCell (p := ⟨g6, j, none⟩) (by show p ≤ g6; exact (MX3.out.lt g6 rfl).1) (.slice (some ⟨bj, (oj + 4), none⟩) r.length (cj - 1)))
                        have M9 : Hid (MgS (Y3.setCell ⟨g6, j, none⟩ (.slice (some ⟨bj, (oj + 4), none⟩) r.length (cj - 1))) p w2.heap.size (.slice (some ⟨g6, 0, none⟩) k c6) k (vs'.set j (.slice (some ⟨bj, (oj + 4), none⟩) r.length (cj - 1))) (ls'.set j r)) := Lib.hid ⟨SX, (M6.out.lsb.below hb7).set (by rw [LV.out, M6.out.len]) (by rw [M6.out.len]; exact hjk) (by have := HCJ.out; omega) (HRT.out.below hb7), by rw [List.length_set]; exact M6.out.len⟩
                        have LV9 : Hid ((vs'.set j (.slice (some ⟨bj, (oj + 4), none⟩) r.length (cj - 1))).length = k) := Lib.hid (by rw [List.length_set]; exact LV.out)
                        have OE9 : Hid ((Y3.setCell ⟨g6, j, none⟩ (.slice (some ⟨bj, (oj + 4), none⟩) r.length (cj - 1))).ownsRow w2.heap.size 43 4 (.slice A9 (out ++ [x]).length c9) (out ++ [x]).length (env (out ++ [x]))) := Lib.hid (by
                          have h := own_put (b := g6) (o := j) O9.out (fun g hg => by have h1 := (O9.out.lt g hg).1; have h2 := HG6.out; omega) (.slice (some ⟨bj, (oj + 4), none⟩) r.length (cj - 1))
                          rw [List.length_append] at h ⊢
                          exact h)
                        have B9 := Lib.hid (B6.out.trans hb7)
                        have hz9 : w2.heap.size ≤ (Y3.setCell ⟨g6, j, none⟩ (.slice (some ⟨bj, (oj + 4), none⟩) r.length (cj - 1))).heap.size := by simpa using hz3'
                        clear SX hb7 cx fx zx MX3 XX3 CX3 BX3 O9 hz3'
                        go_roundw
                        case rel => exact ⟨A9, c9, out ++ [x], _, _, by rw [List.length_append]; rfl, OE9, M9, LV9, HTT.out, HMG, B9, hz9⟩
                        case measure => simp [lenS]; omega
                      · exact AllReadyH.nil
                    · exact AllReadyH.nil
end Go.Proofs.Ytmcpjpkidcbgiaa
