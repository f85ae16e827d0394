/- Lists of lists of bytes, of the call's own; what scanning some bytes answers. -/
import Derived.Test.YtmfkngijgellhaaO
import Derived.Test.YtmfkngijgellhaaJ
namespace Go.Proofs.Ytmfkngijgellhaa
open Go.RowKit Go.St
set_option linter.unusedVariables false

/-- A list of the call's own whose elements are lists of bytes of the call's own, all apart. -/
structure Rows (w : World) (base : Nat) (V : Value) (k : Nat) (vs : List Value) (bss : List (List UInt8)) : Prop where
  own : w.ownsRow base 22 1 V k vs
  len : bss.length = k
  each : ∀ (i : Nat) (v : Value) (bs : List UInt8), vs[i]? = some v → bss[i]? = some bs → w.ownsRow base 5 1 v bs.length (bv bs)
  apart : ∀ (i j : Nat) (v v' : Value), i ≠ j → vs[i]? = some v → vs[j]? = some v' → v.ownBlock = none ∨ v.ownBlock ≠ v'.ownBlock
  outer : ∀ (i : Nat) (v : Value), vs[i]? = some v → v.ownBlock = none ∨ v.ownBlock ≠ V.ownBlock

namespace Rows
variable {w w' : World} {base k : Nat} {V : Value} {vs : List Value} {bss : List (List UInt8)}
theorem nil (w : World) (base : Nat) : Rows w base (.slice none 0 0) 0 [] [] :=
  ⟨World.ownsRow_nil _ _ _ _, rfl, by simp, by simp, by simp⟩
theorem vlen (h : Rows w base V k vs bss) : vs.length = k := by have := h.own.1; omega
theorem keep (h : Rows w base V k vs bss) {B : Nat} (hb : Below B w w') (hB : w.heap.size ≤ B) : Rows w' base V k vs bss :=
  ⟨own_keep h.own hb hB, h.len, fun i v bs h1 h2 => own_keep (h.each i v bs h1 h2) hb hB, h.apart, h.outer⟩
theorem alloc (h : Rows w base V k vs bss) (o : Obj) : Rows (w.alloc o) base V k vs bss :=
  ⟨h.own.alloc _, h.len, fun i v bs h1 h2 => (h.each i v bs h1 h2).alloc _, h.apart, h.outer⟩
theorem get (h : Rows w base V k vs bss) {i : Nat} {v : Value} (hv : vs[i]? = some v) : ∃ bs, bss[i]? = some bs := by
  have := (List.getElem?_eq_some_iff.1 hv).1
  exact ⟨_, List.getElem?_eq_getElem (by rw [h.len, ← h.vlen]; exact this)⟩
theorem lt (h : Rows w base V k vs bss) {i : Nat} {v : Value} (hv : vs[i]? = some v) {g : Nat} (hg : v.ownBlock = some g) : base ≤ g ∧ g < w.heap.size := by
  obtain ⟨bs, hbs⟩ := h.get hv
  exact (h.each i v bs hv hbs).lt g hg
/-- Behind an append of one more. -/
theorem push (h : Rows w base V k vs bss) {u V' : Value} {bs : List UInt8} (hu : w.ownsRow base 5 1 u bs.length (bv bs)) (hbase : base ≤ w.heap.size)
    (hfr : ∀ g, u.ownBlock = some g → (∀ (i : Nat) (v : Value), vs[i]? = some v → v.ownBlock ≠ some g) ∧ V.ownBlock ≠ some g)
    (ho : w'.ownsRow base 22 1 V' (k + 1) (vs ++ [u])) (hg : w.grownBy w' V.ownBlock) (hV : V'.ownBlock = V.ownBlock ∨ V'.ownBlock = some w.heap.size) :
    Rows w' base V' (k + 1) (vs ++ [u]) (bss ++ [bs]) := by
  have hcase : ∀ (i : Nat) (v : Value), (vs ++ [u])[i]? = some v → (i < k ∧ vs[i]? = some v) ∨ (i = k ∧ v = u) := fun i v hv => by
    rcases Nat.lt_or_ge i k with h1 | h1
    · rw [List.getElem?_append_left (by rw [h.vlen]; exact h1)] at hv
      exact .inl ⟨h1, hv⟩
    · rw [List.getElem?_append_right (by rw [h.vlen]; exact h1), h.vlen] at hv
      have := (List.getElem?_eq_some_iff.1 hv).1
      simp at this
      have hi : i = k := by omega
      subst hi
      rw [Nat.sub_self] at hv
      simp at hv
      exact .inr ⟨rfl, hv.symm⟩
  have hbl : ∀ (i : Nat) (v : Value), (vs ++ [u])[i]? = some v → v.ownBlock = none ∨ (v.ownBlock ≠ V.ownBlock ∧ v.ownBlock ≠ some w.heap.size) := fun i v hv => by
    rcases hcase i v hv with ⟨h1, h2⟩ | ⟨h1, rfl⟩
    · cases hb : v.ownBlock with
      | none => exact .inl rfl
      | some g =>
        refine .inr ⟨?_, fun e => ?_⟩
        · rcases h.outer i v h2 with h3 | h3
          · rw [hb] at h3; exact absurd h3 (by simp)
          · rw [hb] at h3; exact h3
        · have := (h.lt h2 hb).2
          injection e with e
          omega
    · cases hb : v.ownBlock with
      | none => exact .inl rfl
      | some g =>
        refine .inr ⟨fun e => (hfr g hb).2 e.symm, fun e => ?_⟩
        have := (hu.lt g hb).2
        injection e with e
        omega
  refine ⟨ho, by rw [List.length_append, h.len]; rfl, fun i v b hv hb => ?_, fun i j v v' hij hv hv' => ?_, fun i v hv => ?_⟩
  · have hk : v.ownBlock = none ∨ v.ownBlock ≠ V.ownBlock := (hbl i v hv).imp id (·.1)
    rcases hcase i v hv with ⟨h1, h2⟩ | ⟨h1, rfl⟩
    · rw [List.getElem?_append_left (by rw [h.len]; exact h1)] at hb
      exact (h.each i v b h2 hb).kept hg hk
    · subst h1
      rw [List.getElem?_append_right (by rw [h.len]; exact Nat.le_refl _), h.len, Nat.sub_self] at hb
      simp at hb
      subst hb
      exact hu.kept hg hk
  · rcases hcase i v hv with ⟨h1, h2⟩ | ⟨h1, rfl⟩ <;> rcases hcase j v' hv' with ⟨h3, h4⟩ | ⟨h3, rfl⟩
    · exact h.apart i j v v' hij h2 h4
    · cases hb : v.ownBlock with
      | none => exact .inl rfl
      | some g => exact .inr (fun e => (hfr g e.symm).1 i v h2 hb)
    · cases hb : v.ownBlock with
      | none => exact .inl rfl
      | some g => exact .inr (fun e => (hfr g hb).1 j v' h4 e.symm)
    · omega
  · rcases hbl i v hv with h1 | ⟨h1, h2⟩
    · exact .inl h1
    · refine .inr ?_
      rcases hV with e | e
      · rw [e]; exact h1
      · rw [e]; exact h2
end Rows

/-- What scanning answers, with fuel. -/
def scan : Nat → List UInt8 → List (List UInt8) × Nat × Int
  | 0, _ => ([], 0, 0)
  | f + 1, bs => if bs = [] then ([], 0, 0) else if readE bs = 0 then (readL bs :: (scan f (bs.drop (readN bs))).1, readN bs + (scan f (bs.drop (readN bs))).2.1, (scan f (bs.drop (readN bs))).2.2) else ([], 0, readE bs)
def scanF (bs : List UInt8) : List (List UInt8) × Nat × Int := scan bs.length bs

theorem readN_ge {bs : List UInt8} (h : readE bs = 0) : 12 ≤ readN bs := by
  rw [readN, if_pos h]
  omega
theorem readN_le (bs : List UInt8) : readN bs ≤ bs.length := by
  unfold readN
  split
  · rename_i h
    unfold readE at h
    split at h
    · exact absurd h (by decide)
    · split at h
      · exact absurd h (by decide)
      · split at h
        · exact absurd h (by decide)
        · split at h
          · exact absurd h (by decide)
          · omega
  · exact Nat.zero_le _
theorem scan_fuel : ∀ (f g : Nat) (bs : List UInt8), bs.length ≤ f → bs.length ≤ g → scan f bs = scan g bs
  | 0, 0, bs, _, _ => rfl
  | 0, g + 1, bs, h, _ => by
    have : bs = [] := List.eq_nil_of_length_eq_zero (by omega)
    subst this
    rfl
  | f + 1, 0, bs, _, h => by
    have : bs = [] := List.eq_nil_of_length_eq_zero (by omega)
    subst this
    rfl
  | f + 1, g + 1, bs, h1, h2 => by
    unfold scan
    split
    · rfl
    · split
      · rename_i h
        have := readN_ge h
        have e := scan_fuel f g (bs.drop (readN bs)) (by rw [List.length_drop]; omega) (by rw [List.length_drop]; omega)
        rw [e]
      · rfl
theorem scanF_nil : scanF [] = ([], 0, 0) := rfl
theorem scanF_ok {bs : List UInt8} (h : readE bs = 0) : scanF bs = (readL bs :: (scanF (bs.drop (readN bs))).1, readN bs + (scanF (bs.drop (readN bs))).2.1, (scanF (bs.drop (readN bs))).2.2) := by
  have h12 := readN_ge h
  have hle := readN_le bs
  obtain ⟨n, hn⟩ : ∃ n, bs.length = n + 1 := ⟨bs.length - 1, by omega⟩
  unfold scanF
  rw [hn, scan, if_neg (by intro e; rw [e] at hn; simp at hn), if_pos h, scan_fuel n (bs.drop (readN bs)).length (bs.drop (readN bs)) (by rw [List.length_drop]; omega) (Nat.le_refl _)]
theorem scanF_no {bs : List UInt8} (h0 : bs ≠ []) (h : readE bs ≠ 0) : scanF bs = ([], 0, readE bs) := by
  obtain ⟨n, hn⟩ : ∃ n, bs.length = n + 1 := by
    cases bs with
    | nil => exact absurd rfl h0
    | cons a l => exact ⟨l.length, rfl⟩
  unfold scanF
  rw [hn, scan, if_neg h0, if_neg h]

/-- What the contract of both says. -/
def ScPost (bs : List UInt8) (w : World) (e : Ending) (w' : World) : Prop :=
  ∃ V vs, e = .returned (.tuple #[V, .int .i64 ((scanF bs).2.1 : Nat), .int .i64 (scanF bs).2.2]) ∧ Rows w' w.heap.size V (scanF bs).1.length vs (scanF bs).1 ∧ Below w.heap.size w w'
end Go.Proofs.Ytmfkngijgellhaa
