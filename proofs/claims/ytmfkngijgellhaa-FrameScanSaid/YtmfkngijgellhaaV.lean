/- Plain law: scanning records' frames, whole, torn, altered; lists of lists of bytes that come in. -/
import Derived.Test.YtmfkngijgellhaaR
import Derived.Test.YtmfkngijgellhaaT
import Derived.Test.YtmfkngijgellhaaOpen
namespace Go.Proofs.Ytmfkngijgellhaa
open Go.RowKit Go.St
set_option linter.unusedVariables false

/-- Records' frames, one behind the other. -/
def framesL (l : List (List UInt8)) : List UInt8 := (l.map frameL).flatten
theorem framesL_nil : framesL [] = [] := rfl
theorem framesL_cons (r : List UInt8) (l : List (List UInt8)) : framesL (r :: l) = frameL r ++ framesL l := rfl
theorem framesL_append (a b : List (List UInt8)) : framesL (a ++ b) = framesL a ++ framesL b := by simp [framesL]
theorem framesL_snoc (a : List (List UInt8)) (r : List UInt8) : framesL (a ++ [r]) = framesL a ++ frameL r := by simp [framesL]

theorem scan_frames : ∀ (l : List (List UInt8)), (∀ r ∈ l, r.length ≤ 1048576) → ∀ y, scanF (framesL l ++ y) = (l ++ (scanF y).1, (framesL l).length + (scanF y).2.1, (scanF y).2.2)
  | [], _, y => by simp [framesL_nil]
  | r :: l, h, y => by
    rw [framesL_cons, List.append_assoc]
    obtain ⟨h1, h2, h3⟩ := readE_frame r (framesL l ++ y) (h r (by simp))
    rw [scanF_ok h1, h2, h3, List.drop_left' (frameL_length r), scan_frames l (fun r h' => h r (by simp [h'])) y]
    simp [frameL_length, Nat.add_assoc]

theorem scan_whole (l : List (List UInt8)) (h : ∀ r ∈ l, r.length ≤ 1048576) : scanF (framesL l) = (l, (framesL l).length, 0) := by
  have := scan_frames l h []
  simpa [scanF_nil] using this

/-- A frame that is torn. -/
theorem readE_torn (r : List UInt8) (hr : r.length ≤ 1048576) (j : Nat) (hj : j < r.length + 12) : readE ((frameL r).take j) = 4 := by
  have hl : ((frameL r).take j).length = j := by rw [List.length_take, frameL_length]; omega
  unfold readE
  rw [hl]
  by_cases h8 : j < 8
  · rw [if_pos h8]
  · have h88 : (CrcM.sealed (CrcM.le32 r.length)).length = 8 := rfl
    have ht : ((frameL r).take j).take 8 = CrcM.sealed (CrcM.le32 r.length) := by
      rw [List.take_take, Nat.min_eq_left (by omega), frameL, List.take_left' h88]
    have hs : rdSize ((frameL r).take j) = r.length := by
      have e : (frameL r).take j = CrcM.le32 r.length ++ ((frameL r).take j).drop 4 := by
        have : CrcM.le32 r.length = ((frameL r).take j).take 4 := by
          rw [List.take_take, Nat.min_eq_left (by omega), frameL, CrcM.sealed, List.append_assoc, List.take_left' (CrcM.le32_length _)]
        rw [this, List.take_append_drop]
      rw [rdSize, e]
      exact of4_le32 _ (by omega) _
    rw [if_neg h8, ht, isOpen_sealed, if_neg (by simp), hs, if_neg (by omega), if_pos (by omega)]

/-- Where the i-th frame ends. -/
def endAt (l : List (List UInt8)) (i : Nat) : Nat := (framesL (l.take i)).length
theorem endAt_zero (l : List (List UInt8)) : endAt l 0 = 0 := by simp [endAt, framesL_nil]
theorem endAt_succ (l : List (List UInt8)) (i : Nat) (h : i < l.length) : endAt l (i + 1) = endAt l i + (l[i].length + 12) := by
  unfold endAt
  rw [List.take_add_one, List.getElem?_eq_getElem h, Option.toList_some, framesL_snoc, List.length_append, frameL_length]
theorem endAt_all (l : List (List UInt8)) : endAt l l.length = (framesL l).length := by unfold endAt; rw [List.take_length]
theorem endAt_le (l : List (List UInt8)) (i : Nat) : endAt l i ≤ (framesL l).length := by
  have h : framesL l = framesL (l.take i) ++ framesL (l.drop i) := by rw [← framesL_append, List.take_append_drop]
  unfold endAt
  rw [h, List.length_append]
  omega
theorem frames_split (l : List (List UInt8)) (i : Nat) : framesL l = framesL (l.take i) ++ framesL (l.drop i) := by rw [← framesL_append, List.take_append_drop]
theorem frames_take (l : List (List UInt8)) (i : Nat) : (framesL l).take (endAt l i) = framesL (l.take i) := by
  rw [frames_split l i, List.take_left']
  rfl
theorem frames_drop (l : List (List UInt8)) (i : Nat) : (framesL l).drop (endAt l i) = framesL (l.drop i) := by
  rw [frames_split l i, List.drop_left']
  rfl

theorem scan_torn (l : List (List UInt8)) (h : ∀ r ∈ l, r.length ≤ 1048576) (k n : Nat) (hn : n ≤ l.length) (hk : k ≤ (framesL l).length) (h1 : endAt l n ≤ k) (h2 : n = l.length ∨ k < endAt l (n + 1)) :
    scanF ((framesL l).take k) = (l.take n, endAt l n, if endAt l n = k then 0 else 4) := by
  have e : (framesL l).take k = framesL (l.take n) ++ (framesL (l.drop n)).take (k - endAt l n) := by
    conv => lhs; rw [frames_split l n]
    rw [List.take_append, List.take_of_length_le (show (framesL (l.take n)).length ≤ k from h1)]
    rfl
  rw [e, scan_frames _ (fun r hr => h r (List.mem_of_mem_take hr))]
  by_cases hke : endAt l n = k
  · rw [if_pos hke, hke, Nat.sub_self, List.take_zero, scanF_nil]
    simp only [List.append_nil, Nat.add_zero]
    rw [← hke]
    rfl
  · rw [if_neg hke]
    rcases h2 with h2 | h2
    · rw [h2, endAt_all] at h1
      rw [h2, endAt_all] at hke
      omega
    · have hnl : n < l.length := by
        rcases Nat.lt_or_ge n l.length with h3 | h3
        · exact h3
        · have h4 : endAt l (n + 1) = endAt l n := by unfold endAt; rw [List.take_of_length_le h3, List.take_of_length_le (by omega)]
          omega
      have hs := endAt_succ l n hnl
      have hd : l.drop n = l[n] :: l.drop (n + 1) := List.drop_eq_getElem_cons hnl
      have hr := h l[n] (List.getElem_mem hnl)
      have e2 : (framesL (l.drop n)).take (k - endAt l n) = (frameL l[n]).take (k - endAt l n) := by
        rw [hd, framesL_cons, List.take_append_of_le_length (by rw [frameL_length]; omega)]
      rw [e2, scanF_no (fun h0 => by have := congrArg List.length h0; rw [List.length_take, frameL_length] at this; simp at this; omega) (by rw [readE_torn _ hr _ (by omega)]; decide), readE_torn _ hr _ (by omega)]
      simp
      rfl

theorem scan_altered (l : List (List UInt8)) (h : ∀ r ∈ l, r.length ≤ 1048576) (k : Nat) (x y : List UInt8) (hx : readE (x ++ y) = 6) :
    scanF (framesL (l.take k) ++ (x ++ y)) = (l.take k, endAt l k, 6) := by
  rw [scan_frames _ (fun r hr => h r (List.mem_of_mem_take hr)), scanF_no (fun h0 => by rw [h0] at hx; exact absurd hx (by decide)) (by rw [hx]; decide), hx]
  simp
  rfl

/-- A list of lists of bytes reads, at an address. -/
def RR (w : World) (B : Nat) (A : Option Addr) (bss : List (List UInt8)) : Prop :=
  ∃ vs : List Value, vs.length = bss.length ∧ Rd w B A vs ∧ ∀ (i : Nat) (v : Value) (bs : List UInt8), vs[i]? = some v → bss[i]? = some bs → ∃ Ai ci, v = .slice Ai bs.length ci ∧ bs.length ≤ ci ∧ ci ≤ 9223372036854775807 ∧ Rd w B Ai (bv bs)

theorem RR.below {w w' : World} {B : Nat} {A : Option Addr} {bss : List (List UInt8)} (h : RR w B A bss) (hb : Below B w w') : RR w' B A bss := by
  obtain ⟨vs, h1, h2, h3⟩ := h
  refine ⟨vs, h1, h2.below hb, fun i v bs hv hbs => ?_⟩
  obtain ⟨Ai, ci, e, e1, e2, hr⟩ := h3 i v bs hv hbs
  exact ⟨Ai, ci, e, e1, e2, hr.below hb⟩
theorem RR.take {w : World} {B : Nat} {A : Option Addr} {bss : List (List UInt8)} (h : RR w B A bss) (n : Nat) : RR w B A (bss.take n) := by
  obtain ⟨vs, h1, h2, h3⟩ := h
  refine ⟨vs.take n, by rw [List.length_take, List.length_take, h1], h2.take n, fun i v bs hv hbs => ?_⟩
  rw [List.getElem?_take] at hv hbs
  split at hv
  · rename_i hi
    rw [if_pos hi] at hbs
    exact h3 i v bs hv hbs
  · cases hv
theorem RR.drewN {w : World} {B : Nat} {A : Option Addr} {bss : List (List UInt8)} (h : RR w B A bss) (n : Nat) : RR (w.drewN n) B A bss := h
theorem RR.at_ {w : World} {B : Nat} {A : Option Addr} {bss : List (List UInt8)} (h : RR w B A bss) {i : Nat} (hi : i < bss.length) :
    ∃ b off Ai ci, A = some ⟨b, off, none⟩ ∧ b < B ∧ w.cell? ⟨b, off + i, none⟩ = some (.slice Ai bss[i].length ci) ∧ bss[i].length ≤ ci ∧ ci ≤ 9223372036854775807 ∧ Rd w B Ai (bv bss[i]) := by
  obtain ⟨vs, h1, h2, h3⟩ := h
  have hv : vs[i]? = some (vs[i]'(by omega)) := List.getElem?_eq_getElem (by omega)
  obtain ⟨Ai, ci, e, e1, e2, hr⟩ := h3 i _ _ hv (List.getElem?_eq_getElem hi)
  obtain ⟨b, off, hA, hb, hc⟩ := h2.at_ hv
  rw [e] at hc
  exact ⟨b, off, Ai, ci, hA, hb, hc, e1, e2, hr⟩
theorem Rows.rr {w : World} {base k c : Nat} {A : Option Addr} {vs : List Value} {bss : List (List UInt8)} (h : Rows w base (.slice A k c) k vs bss) (hm : ∀ bs ∈ bss, bs.length ≤ 140737488355328) : RR w w.heap.size A bss := by
  refine ⟨vs, by rw [h.vlen, h.len], Rd.own h.own, fun i v bs hv hbs => ?_⟩
  obtain ⟨Ai, ci, e, h1, h2, h3⟩ := own_rd4 (h.each i v bs hv hbs)
  exact ⟨Ai, ci, e, h1, by unfold maxLen at h2; omega, h3⟩

/-- What comes in as a list of lists of bytes. -/
def RowsArg (w : World) (N : Nat) (v : Value) : Prop := ∃ A n c, ∃ bss : List (List UInt8), v = .slice A n c ∧ bss.length = n ∧ n ≤ c ∧ c ≤ N ∧ RR w w.heap.size A bss
theorem open_rows {w : World} {N d : Nat} {v : Value} (hN : N ≤ 9223372036854775807) (hval : ∃ A n c, v = .slice A n c) (h : fits Try.prog w w.heap.size N (d + 3) 38 v.cells.toList) : ∃ x, v = x ∧ RowsArg w N x := by
  obtain ⟨A, n, c, rfl⟩ := hval
  unfold fits at h
  rw [Try.underlying38] at h
  obtain ⟨A', n', c', e, hnc, hcN, css, hl, hf, hr⟩ := h
  obtain ⟨rfl, rfl, rfl⟩ : A = A' ∧ n = n' ∧ c = c' := by simpa [Value.cells] using e
  obtain ⟨l, hcss, hp⟩ := lift_list (α := Value × List UInt8) (f := fun x => [x.1]) (p := fun x => ∃ Ai ci, x.1 = .slice Ai x.2.length ci ∧ x.2.length ≤ ci ∧ ci ≤ 9223372036854775807 ∧ Rd w w.heap.size Ai (bv x.2)) css (fun cs hcs => by
    obtain ⟨Ai, ni, ci, bs, e1, e2, e3, e4, e5⟩ := fits_bytes Try.underlying22 Try.underlying5 (hf cs hcs).2
    subst e2
    exact ⟨(.slice Ai bs.length ci, bs), e1, Ai, ci, rfl, e3, by omega, e5⟩)
  have hflat : css.flatten = l.map (·.1) := by
    rw [hcss]
    clear hcss hp hf hr hl
    induction l with
    | nil => rfl
    | cons a r ih => rw [List.map_cons, List.flatten_cons, ih]; rfl
  refine ⟨_, rfl, A, n, c, l.map (·.2), rfl, by rw [List.length_map, ← hl, hcss, List.length_map], hnc, hcN, l.map (·.1), by simp, by rw [← hflat]; exact hr, fun i v bs hv hbs => ?_⟩
  rw [List.getElem?_map] at hv hbs
  cases hli : l[i]? with
  | none => rw [hli] at hv; cases hv
  | some x =>
    rw [hli] at hv hbs
    simp only [Option.map_some, Option.some.injEq] at hv hbs
    obtain ⟨Ai, ci, e1, e2, e3, e4⟩ := hp x (List.mem_of_getElem? hli)
    subst hv
    subst hbs
    exact ⟨Ai, ci, e1, e2, e3, e4⟩
end Go.Proofs.Ytmfkngijgellhaa
