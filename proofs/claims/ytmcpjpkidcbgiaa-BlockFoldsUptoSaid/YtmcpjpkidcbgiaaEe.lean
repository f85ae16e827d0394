/- Walks: whether entries are a block, the program's and the document's. -/
import Derived.Test.YtmcpjpkidcbgiaaEd
namespace Go.Proofs.Ytmcpjpkidcbgiaa
open Go.RowKit Go.St Go.Maps
set_option linter.unusedVariables false
set_option linter.unusedSimpArgs false
set_option maxRecDepth 100000

theorem chkL_bad {l : List Ent} {i : Nat} {x : Ent} (h0 : l.length ≠ 0) (h1 : l.length ≤ 64) (hx : l[i]? = some x) (h : okE x = false) : chkL l = 2 := by
  unfold chkL
  rw [if_neg h0, if_neg (by omega), if_neg]
  intro h2
  rw [List.all_eq_true] at h2
  have := h2 x (List.mem_of_getElem? hx)
  rw [h] at this
  cases this
theorem chkL_all {l : List Ent} (h0 : l.length ≠ 0) (h1 : l.length ≤ 64) (h : ∀ j x, j < l.length → l[j]? = some x → okE x = true) : chkL l = if risE l then 0 else 10 := by
  unfold chkL
  rw [if_neg h0, if_neg (by omega), if_pos]
  rw [List.all_eq_true]
  intro x hx
  obtain ⟨j, hj⟩ := List.mem_iff_getElem?.1 hx
  exact h j x (List.getElem?_eq_some_iff.1 hj).1 hj
theorem chkE_yes {x : Ent} (h : okE x = true) : chkE x = 0 := by unfold chkE; rw [if_pos h]
theorem chkE_no {x : Ent} (h : okE x = false) : chkE x = 2 := by unfold chkE; rw [h]; rfl
set_option maxHeartbeats 1600000 in
theorem check7_any (A : Option Addr) (n c : Nat) (l : List Ent) (hl : l.length = n) (hn : n ≤ 1000000) (hk : ∀ x ∈ l, x.key.size ≤ maxLen) (B : Nat) (w : World) (hr : Rd w B A (env l)) (hB : B ≤ w.heap.size) :
    Calls Try.prog 18 #[.slice A n c] w fun e w' => e = .returned (.int .i64 (chkL l)) ∧ Below w.heap.size w w' := by
  obtain ⟨E, hE⟩ : ∃ E, E = chkL l := ⟨_, rfl⟩
  rw [← hE]
  have HE := Lib.hid hE
  have HL := Lib.hid hl
  have HR := Lib.hid hr
  have HK := Lib.hid hk
  clear hl hr hE hk
  by_cases h0 : n = 0
  · have SEQ : Hid (E = 2) := Lib.hid (by rw [HE.out]; unfold chkL; rw [if_pos (by rw [HL.out]; exact h0)])
    subst h0
    go_enter Try.func18, Try.ntmps18
    go_wp2_with fail
    go_ret
    exact ⟨ret_int SEQ.out.symm, Below.refl _ _⟩
  have n0 : ((n : Int) == 0) = false := by simpa using h0
  by_cases h1 : 64 < n
  · have SEQ : Hid (E = 3) := Lib.hid (by rw [HE.out]; unfold chkL; rw [if_neg (by rw [HL.out]; exact h0), if_pos (by rw [HL.out]; exact h1)])
    have n1 : (64 : Int) < (n : Int) := by omega
    clear h1 h0
    go_enter Try.func18, Try.ntmps18
    go_wp2_with fail
    go_ret
    exact ⟨ret_int SEQ.out.symm, Below.refl _ _⟩
  have n1 : ¬ (64 : Int) < (n : Int) := by omega
  go_enter Try.func18, Try.ntmps18
  go_wp2_with fail
  go_loopw [16] (fun s3 wr => ∃ i : Nat, s3 = .int .i64 (i : Int) ∧ i ≤ n ∧ Hid (∀ j x, j < i → l[j]? = some x → okE x = true) ∧ Hid (Below w.heap.size w wr)) (fun s3 _ => n - (intOf s3).toNat)
  case atStart => exact ⟨0, rfl, Nat.zero_le _, Lib.hid (fun j x hj => by omega), Lib.hid (Below.refl _ _)⟩
  case round =>
    obtain ⟨i, rfl, hi, hU, hB1⟩ := hrel
    obtain ⟨w2, rfl⟩ : ∃ x, x = wr := ⟨_, rfl⟩
    by_cases hlt : i < n
    · obtain ⟨x, hx⟩ : ∃ x, l[i]? = some x := ⟨_, List.getElem?_eq_getElem (by rw [HL.out]; omega)⟩
      obtain ⟨b, off, rfl, hb, hce⟩ := en_at HR.out hx
      obtain ⟨d0, d1, d2, d3⟩ := hce.below (Nat.lt_of_lt_of_le hb hB) hB1.out
      have HX := Lib.hid hx
      have i1 : (i : Int) < (n : Int) := by omega
      have i0 : (0 : Int) ≤ (i : Int) := by omega
      have z1 : b < w2.heap.size := by have := hB1.out.size; omega
      have HQ := Lib.hid (fun W => check6_any x (HK.out x (List.mem_of_getElem? hx)) W)
      clear hce hx
      cases hq : okE x
      · have SEQ : Hid (E = 2) := Lib.hid (by rw [HE.out]; exact chkL_bad (by rw [HL.out]; exact h0) (by rw [HL.out]; omega) HX.out hq)
        rw [chkE_no hq] at HQ
        clear hq HE h0 h1
        go_wp2_with fail
        refine (HQ.out _).mono ?_
        rintro e w5 ⟨rfl, hb5⟩
        have B9 : Hid (Below w.heap.size w w5) := Lib.hid ((hB1.out.alloc hB1.out.size _).trans (hb5.mono (by have := hB1.out.size; simp; omega)))
        clear hb5 d0 d1 d2 d3
        go_wp2_with fail
        go_ret
        exact ⟨ret_int SEQ.out.symm, B9.out⟩
      · rw [chkE_yes hq] at HQ
        have HU9 : Hid (∀ j x, j < i + 1 → l[j]? = some x → okE x = true) := Lib.hid (fun j y hj hy => by
          rcases Nat.lt_or_ge j i with h | h
          · exact hU.out j y h hy
          · have e : j = i := by omega
            subst e
            have h2 := HX.out
            rw [hy] at h2
            injection h2 with h2
            rw [h2]
            exact hq)
        clear hq hU h0 h1
        go_wp2_with fail
        refine (HQ.out _).mono ?_
        rintro e w5 ⟨rfl, hb5⟩
        have B9 : Hid (Below w.heap.size w w5) := Lib.hid ((hB1.out.alloc hB1.out.size _).trans (hb5.mono (by have := hB1.out.size; simp; omega)))
        clear hb5 d0 d1 d2 d3
        go_wp2_with fail
        go_roundw
        case rel => exact ⟨i + 1, by go_num, by omega, HU9, B9⟩
        case measure => simp [intOf]; omega
    · have i1 : ¬ (i : Int) < (n : Int) := by omega
      have SEQ : Hid (E = if risE l then 0 else 10) := Lib.hid (by
        rw [HE.out]
        exact chkL_all (by rw [HL.out]; exact h0) (by rw [HL.out]; omega) (fun j x hj hx => hU.out j x (by rw [HL.out] at hj; omega) hx))
      clear hlt hU h0 h1
      go_wp2_with fail
      refine (ordered_any A n c l HL.out hn B _ (HR.out.below (hB1.out.mono hB)) (Nat.le_trans hB hB1.out.size)).mono ?_
      rintro e w5 ⟨rfl, hb5⟩
      have B9 := Lib.hid (hB1.out.trans (hb5.mono hB1.out.size))
      generalize risE l = z at *
      clear hb5
      cases z
      · go_wp2_with fail
        go_ret
        exact ⟨ret_int SEQ.out.symm, B9.out⟩
      · go_wp2_with fail
        go_ret
        exact ⟨ret_int SEQ.out.symm, B9.out⟩
set_option maxHeartbeats 1600000 in
theorem rcheck7_any (A : Option Addr) (n c : Nat) (l : List Ent) (hl : l.length = n) (hn : n ≤ 1000000) (hk : ∀ x ∈ l, x.key.size ≤ maxLen) (B : Nat) (w : World) (hr : Rd w B A (env l)) (hB : B ≤ w.heap.size) :
    Calls Try.prog 19 #[.slice A n c] w fun e w' => e = .returned (.int .i64 (chkL l)) ∧ Below w.heap.size w w' := by
  obtain ⟨E, hE⟩ : ∃ E, E = chkL l := ⟨_, rfl⟩
  rw [← hE]
  have HE := Lib.hid hE
  have HL := Lib.hid hl
  have HR := Lib.hid hr
  have HK := Lib.hid hk
  clear hl hr hE hk
  by_cases h0 : n = 0
  · have SEQ : Hid (E = 2) := Lib.hid (by rw [HE.out]; unfold chkL; rw [if_pos (by rw [HL.out]; exact h0)])
    subst h0
    go_enter Try.func19, Try.ntmps19
    go_wp2_with fail
    go_ret
    exact ⟨ret_int SEQ.out.symm, Below.refl _ _⟩
  have n0 : ((n : Int) == 0) = false := by simpa using h0
  by_cases h1 : 64 < n
  · have SEQ : Hid (E = 3) := Lib.hid (by rw [HE.out]; unfold chkL; rw [if_neg (by rw [HL.out]; exact h0), if_pos (by rw [HL.out]; exact h1)])
    have n1 : (64 : Int) < (n : Int) := by omega
    clear h1 h0
    go_enter Try.func19, Try.ntmps19
    go_wp2_with fail
    go_ret
    exact ⟨ret_int SEQ.out.symm, Below.refl _ _⟩
  have n1 : ¬ (64 : Int) < (n : Int) := by omega
  go_enter Try.func19, Try.ntmps19
  go_wp2_with fail
  go_loopw [3] (fun s3 wr => ∃ i : Nat, s3 = .int .i64 (i : Int) ∧ i ≤ n ∧ Hid (∀ j x, j < i → l[j]? = some x → okE x = true) ∧ Hid (Below w.heap.size w wr)) (fun s3 _ => n - (intOf s3).toNat)
  case atStart => exact ⟨0, rfl, Nat.zero_le _, Lib.hid (fun j x hj => by omega), Lib.hid (Below.refl _ _)⟩
  case round =>
    obtain ⟨i, rfl, hi, hU, hB1⟩ := hrel
    obtain ⟨w2, rfl⟩ : ∃ x, x = wr := ⟨_, rfl⟩
    by_cases hlt : i < n
    · obtain ⟨x, hx⟩ : ∃ x, l[i]? = some x := ⟨_, List.getElem?_eq_getElem (by rw [HL.out]; omega)⟩
      obtain ⟨b, off, rfl, hb, hce⟩ := en_at HR.out hx
      obtain ⟨d0, d1, d2, d3⟩ := hce.below (Nat.lt_of_lt_of_le hb hB) hB1.out
      have HX := Lib.hid hx
      have i1 : (i : Int) < (n : Int) := by omega
      have i0 : (0 : Int) ≤ (i : Int) := by omega
      have z1 : b < w2.heap.size := by have := hB1.out.size; omega
      have HQ := Lib.hid (fun W => rcheck6_any x  W)
      clear hce hx
      cases hq : okE x
      · have SEQ : Hid (E = 2) := Lib.hid (by rw [HE.out]; exact chkL_bad (by rw [HL.out]; exact h0) (by rw [HL.out]; omega) HX.out hq)
        rw [chkE_no hq] at HQ
        clear hq HE h0 h1
        go_wp2_with fail
        refine (HQ.out _).mono ?_
        rintro e w5 ⟨rfl, hb5⟩
        have B9 : Hid (Below w.heap.size w w5) := Lib.hid (hB1.out.trans (hb5.mono hB1.out.size))
        clear hb5 d0 d1 d2 d3
        go_wp2_with fail
        go_ret
        exact ⟨ret_int SEQ.out.symm, B9.out⟩
      · rw [chkE_yes hq] at HQ
        have HU9 : Hid (∀ j x, j < i + 1 → l[j]? = some x → okE x = true) := Lib.hid (fun j y hj hy => by
          rcases Nat.lt_or_ge j i with h | h
          · exact hU.out j y h hy
          · have e : j = i := by omega
            subst e
            have h2 := HX.out
            rw [hy] at h2
            injection h2 with h2
            rw [h2]
            exact hq)
        clear hq hU h0 h1
        go_wp2_with fail
        refine (HQ.out _).mono ?_
        rintro e w5 ⟨rfl, hb5⟩
        have B9 : Hid (Below w.heap.size w w5) := Lib.hid (hB1.out.trans (hb5.mono hB1.out.size))
        clear hb5 d0 d1 d2 d3
        go_wp2_with fail
        go_roundw
        case rel => exact ⟨i + 1, by go_num, by omega, HU9, B9⟩
        case measure => simp [intOf]; omega
    · have i1 : ¬ (i : Int) < (n : Int) := by omega
      have SEQ : Hid (E = if risE l then 0 else 10) := Lib.hid (by
        rw [HE.out]
        exact chkL_all (by rw [HL.out]; exact h0) (by rw [HL.out]; omega) (fun j x hj hx => hU.out j x (by rw [HL.out] at hj; omega) hx))
      clear hlt hU h0 h1
      go_wp2_with fail
      refine (rordered_any A n c l HL.out hn B _ (HR.out.below (hB1.out.mono hB)) (Nat.le_trans hB hB1.out.size)).mono ?_
      rintro e w5 ⟨rfl, hb5⟩
      have B9 := Lib.hid (hB1.out.trans (hb5.mono hB1.out.size))
      generalize risE l = z at *
      clear hb5
      cases z
      · go_wp2_with fail
        go_ret
        exact ⟨ret_int SEQ.out.symm, B9.out⟩
      · go_wp2_with fail
        go_ret
        exact ⟨ret_int SEQ.out.symm, B9.out⟩
end Go.Proofs.Ytmcpjpkidcbgiaa
