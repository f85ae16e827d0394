/- Walks: the document's work keeps an answer. -/
import Derived.Test.YthigmjcepbgljaaYb
import Derived.Test.YthigmjcepbgljaaTwo
import Derived.RegionTactic
namespace Go.Proofs.Ythigmjcepbgljaa
open Go.RowKit Go.St
set_option linter.unusedVariables false
set_option linter.unusedSimpArgs false
set_option maxRecDepth 100000

theorem mem_want {l : List ByteArray} {ans : List Int} (hd : doneB ans = false) {k : Nat} (hk : k < ans.length) (hl : k < l.length) (h0 : ans[k] = 0) : l[k] ∈ wantF l ans := by
  unfold wantF
  rw [hd]
  simp only [Bool.false_eq_true, if_false]
  unfold wantU
  refine List.mem_filterMap.2 ⟨k, List.mem_range.2 hk, ?_⟩
  unfold wantAt
  rw [getD_int hk, if_pos h0, getD_at hl]
theorem gotQ_no {l : List ByteArray} {ans : List Int} (hl : ans.length ≤ l.length) {key : ByteArray} (h : ∀ (j : Nat) (h1 : j < ans.length) (h2 : j < l.length), l[j] = key → ans[j] ≠ 0) : gotQ l ans key = false := by
  cases e : gotQ l ans key
  · rfl
  · unfold gotQ at e
    obtain ⟨s, hs, e1⟩ := List.any_eq_true.1 e
    obtain ⟨i, h1, ⟨h2, h3⟩, h4⟩ := want_at hl hs
    have := (tyIs_iff _ _).1 e1
    rw [List.getElem?_eq_getElem h1] at h4
    injection h4 with h4
    exact absurd h4 (h i h1 h2 (by rw [h3, this]))
theorem gotQ_done {l : List ByteArray} {ans : List Int} {key : ByteArray} (h : doneB ans = true) : gotQ l ans key = false := by
  unfold gotQ wantF
  rw [h]
  rfl
theorem RkB.setAns {W : World} {lo hi b g y : Nat} {r : Rec} {ans : List Int} (h : RkB W lo hi b g y r ans) (i : Nat) (hi2 : i < r.n) (yes : Bool) : RkB ((W.setCell ⟨g, i, none⟩ (.bool true)).setCell ⟨y, i, none⟩ (.bool yes)) lo hi b g y r (ans.set i (if yes then 1 else 2)) := by
  obtain ⟨h1, h2, h3, h4, h5, h6, h7, h8, h9, h10, h11, h12, h13, h14, h15, h16, h17, h18, kb, off, k1, k2, k3, k4, k5, k6⟩ := h
  have far := fun k (hk : k ≠ g) (hk2 : k ≠ y) o => (World.cell?_setCell_other (W.setCell ⟨g, i, none⟩ (.bool true)) ⟨y, i, none⟩ ⟨k, o, none⟩ (.bool yes) (fun e => hk2 (congrArg Addr.block e).symm)).trans (World.cell?_setCell_other W ⟨g, i, none⟩ ⟨k, o, none⟩ (.bool true) (fun e => hk (congrArg Addr.block e).symm))
  refine ⟨by simpa [World.setCell] using h1, h2, h3, h4, h5, h6, h7, (far b h5 h6 0).trans h8, fun j v e => (far b h5 h6 _).trans (h9 j v e), (far b h5 h6 _).trans h10, (far b h5 h6 _).trans h11, fun o => by simp [h12], fun o => by simp [h13], ?_, ?_, by simpa using h16, h17, h18, kb, off, k1, k2, k3, k4, k5, fun j u e => (far kb k4 k5 _).trans (k6 j u e)⟩
  · intro j u hu
    have hil : i < ans.length := by omega
    obtain ⟨hci, hyi⟩ := h14 i ans[i] (by simp [hil])
    rw [List.getElem?_set] at hu
    by_cases e : i = j
    · subst e
      rw [if_pos rfl, if_pos hil] at hu
      injection hu with hu
      have hgy : (⟨y, i, none⟩ : Addr) ≠ ⟨g, i, none⟩ := fun e2 => h7 (congrArg Addr.block e2).symm
      have hyg : (⟨g, i, none⟩ : Addr) ≠ ⟨y, i, none⟩ := fun e2 => h7 (congrArg Addr.block e2)
      constructor
      · rw [World.cell?_setCell_other _ _ _ _ hgy]
        have : (u != 0) = true := by rw [← hu]; cases yes <;> rfl
        rw [this]
        simp [go_sem, hci]
      · have : (u == 1) = yes := by rw [← hu]; cases yes <;> rfl
        rw [this]
        have hy2 : (W.setCell ⟨g, i, none⟩ (.bool true)).cell? ⟨y, i, none⟩ = some (.bool (ans[i] == 1)) := by
          rw [World.cell?_setCell_other _ _ _ _ hyg]; exact hyi
        simp [go_sem, hy2]
    · rw [if_neg e] at hu
      obtain ⟨hcj, hyj⟩ := h14 j u hu
      constructor
      · rw [World.cell?_setCell_other _ ⟨y, i, none⟩ ⟨g, j, none⟩ _ (fun e2 => h7 (congrArg Addr.block e2).symm), World.cell?_setCell_other _ ⟨g, i, none⟩ ⟨g, j, none⟩ _ (fun e2 => e (congrArg Addr.off e2))]
        exact hcj
      · rw [World.cell?_setCell_other _ ⟨y, i, none⟩ ⟨y, j, none⟩ _ (fun e2 => e (congrArg Addr.off e2)), World.cell?_setCell_other _ ⟨g, i, none⟩ ⟨y, j, none⟩ _ (fun e2 => h7 (congrArg Addr.block e2))]
        exact hyj
  · intro v hv
    rcases List.mem_or_eq_of_mem_set hv with h | h
    · exact h15 v h
    · rw [h]; cases yes <;> simp

set_option maxHeartbeats 1600000 in
theorem rgot_any {lo hi b g y : Nat} {r : Rec} {ans : List Int} (key : ByteArray) (yes : Bool) (hri : riseB r.l = true) (w : World) (h : RkB w lo hi b g y r ans) :
    Calls Try.prog 22 #[.pointer (some ⟨b, 0, none⟩), .string key, .bool yes] w fun e w' => e = .returned (.int .i64 (gotE r.l ans key)) ∧ Two w.heap.size g y w w' ∧ RkB w' lo hi b g y r (gotA r.l ans key yes) := by
  have HW := Lib.hid h
  have H0 := Lib.hid (rnone_any w h)
  have h1 := rdone_any w h
  have hgn := h.gn
  have hn := h.rn.2
  have hn0 := h.rn.1
  have hrl : r.l.length = r.n := h.rl
  have c12 := h.c12
  have c13 := h.c13
  have c7 := h.c7
  have HGN := Lib.hid hgn; have HRL := Lib.hid hrl
  have hla : ans.length ≤ r.l.length := by omega
  cases hd : doneB ans
  case true =>
    rw [hd] at h1
    have H1 := Lib.hid h1
    have HQ := Lib.hid (gotQ_done (l := r.l) (key := key) hd)
    unfold gotE gotA
    rw [HQ.out]
    simp only [Bool.false_eq_true, if_false]
    clear h1 h hgn hrl hd hla c7 c13
    generalize r.n = n at *
    go_enter Try.func22, Try.ntmps22
    go_wp2_with fail
    refine H0.out.mono ?_
    rintro e w' ⟨rfl, rfl⟩
    go_wp2_with fail
    refine H1.out.mono ?_
    rintro e w' ⟨rfl, rfl⟩
    go_wp2
    go_loop [9] (fun i => i = .int .i64 0) (fun i => 0)
    case atStart => rfl
    case round =>
      obtain rfl := hrel
      go_wp2
      go_ret
      exact ⟨rfl, Two.refl _ _ _ _, HW.out⟩
  rw [hd] at h1
  have H1 := Lib.hid h1
  have HMW := Lib.hid (fun k (hk : k < ans.length) (hl : k < r.l.length) (h0 : ans[k] = 0) => mem_want hd hk hl h0)
  have HGA := Lib.hid (fun i (hi : i < r.l.length) (hw : r.l[i] ∈ wantF r.l ans) => got_at hri hi hw yes)
  have HQN := Lib.hid (fun hh => gotQ_no (key := key) hla hh)
  have HGC := Lib.hid h.gc
  clear h1 h hgn hrl hd hla
  generalize hN : r.n = n at *
  have HNN := Lib.hid hN; clear hN
  go_enter Try.func22, Try.ntmps22
  go_wp2_with fail
  refine H0.out.mono ?_
  rintro e w' ⟨rfl, rfl⟩
  go_wp2_with fail
  refine H1.out.mono ?_
  rintro e w' ⟨rfl, rfl⟩
  go_wp2
  go_loop [9] (fun i => ∃ k : Nat, k ≤ n ∧ i = .int .i64 k ∧ Hid (∀ (j : Nat) (h1 : j < ans.length) (h2 : j < r.l.length), j < k → r.l[j] = key → ans[j] ≠ 0)) (fun i => n - (intOf i).toNat)
  case atStart => exact ⟨0, Nat.zero_le _, rfl, Lib.hid (fun j _ _ h => by omega)⟩
  case round =>
    obtain ⟨k, hk, rfl, hU⟩ := hrel
    by_cases hlt : k < n
    · have k1 : k < ans.length := by rw [HGN.out]; exact hlt
      have k2 : k < r.l.length := by rw [HRL.out]; exact hlt
      obtain ⟨hga, hya⟩ := HGC.out k ans[k] (by simp [k1])
      obtain ⟨kb, off, hA, hkb⟩ := HW.out.kd
      have hkc := hkb.2.2.2.2 k _ (sv_get r.l k k2)
      rw [hA] at c7
      clear hkb hA
      have hnext : ¬ (r.l[k] = key ∧ ans[k] = 0) → ∀ (j : Nat) (h1 : j < ans.length) (h2 : j < r.l.length), j < k + 1 → r.l[j] = key → ans[j] ≠ 0 := fun hno j h1 h2 hj he h0 => by
        by_cases e : j = k
        · subst e; exact hno ⟨he, h0⟩
        · exact hU.out j h1 h2 (by omega) he h0
      by_cases hkey : r.l[k] = key
      · by_cases hz : ans[k] = 0
        · have hg2 := HGA.out k k2 (HMW.out k k1 k2 hz)
          rw [hkey] at hg2
          have HG2 := Lib.hid hg2
          rw [hkey] at hkc
          rw [hz] at hga hya
          have HS := Lib.hid (HW.out.setAns k (by rw [HNN.out]; exact hlt) yes)
          have hgf := HW.out.gf
          have hyf := HW.out.yf
          have hgy := HW.out.gy
          have HST := Lib.hid (HW.out.setAns k (by rw [HNN.out]; exact hlt) yes)
          have far0 := far_store (p := g) (q := y) hgy
          have far1 := far_store (p := y) (q := g) (fun e => hgy e.symm)
          have hgl : g < w.heap.size := Nat.lt_of_lt_of_le HW.out.gl.2 HW.out.hh
          have hyl : y < w.heap.size := Nat.lt_of_lt_of_le HW.out.yl.2 HW.out.hh
          clear hkey hz hnext hg2
          have i1 : (k : Int) < (n : Int) := by omega
          go_wp2
          go_region
          all_goals
            go_wp2
            go_ret
            rw [HG2.out.1, HG2.out.2]
            have T := ((Two.refl w.heap.size g y w).setCell (p := ⟨g, k, none⟩) (.inl rfl) (.bool true)).setCell (p := ⟨y, k, none⟩) (.inr (.inl rfl)) (.bool yes)
            exact ⟨rfl, ⟨T.os, T.tape, T.output, T.size, T.block⟩, HS.out.next (Below.drew (Below.refl _ _))⟩
        · have HX := Lib.hid (hnext (fun h => hz h.2))
          have e0 : (ans[k] != 0) = true := by simpa using hz
          rw [e0] at hga
          rw [hkey] at hkc
          clear hkey hz hnext e0 hya
          go_wp2
          exact ⟨⟨k + 1, by omega, by go_num, HX⟩, by simp [intOf]; omega⟩
      · have HX := Lib.hid (hnext (fun h => hkey h.1))
        have e0 := ba_ne hkey
        clear hkey hnext hya
        generalize r.l[k] = s at *
        go_wp2
        exact ⟨⟨k + 1, by omega, by go_num, HX⟩, by simp [intOf]; omega⟩
    · obtain rfl : n = k := by omega
      have HQ := Lib.hid (HQN.out (fun j h1 h2 he => hU.out j h1 h2 (by have := HGN.out; omega) he))
      go_wp2
      go_ret
      unfold gotE gotA
      rw [HQ.out]
      exact ⟨rfl, Two.refl _ _ _ _, HW.out⟩
end Go.Proofs.Ythigmjcepbgljaa
