/- Plain law of the net: what its calls answer. -/
import Derived.Test.YtlpdihcgdgkkbaaSj
namespace Go.Proofs.Ytlpdihcgdgkkbaa
open Go.RowKit Go.St
set_option linter.unusedVariables false
set_option linter.unusedSimpArgs false
set_option maxRecDepth 100000

/-- A net's state: nodes, last number, letters in flight. -/
structure Nt where
  nodes : Int
  last : Int
  ks : List Key
/-- A letter's key may be sent so. -/
def okK (nodes fr to : Int) : Bool := decide (0 ≤ fr) && decide (fr < nodes) && (decide (0 ≤ to) && decide (to < nodes))
def sendE (s : Nt) (fr to : Int) : Int := if okK s.nodes fr to then (if 2048 ≤ s.ks.length then 3 else 0) else 2
def putS (s : Nt) (fr to : Int) (bs : List UInt8) : Nt := ⟨s.nodes, s.last + 1, s.ks ++ [⟨s.last + 1, fr, to, bs⟩]⟩
def sendS (s : Nt) (fr to : Int) (bs : List UInt8) : Nt := if sendE s fr to = 0 then putS s fr to bs else s
def sendV (s : Nt) (fr to : Int) : Int := if sendE s fr to = 0 then s.last + 1 else 0
/-- The letter of this number is in flight. -/
def hitB (s : Nt) (num : Int) : Bool := s.ks.any (fun k => k.num == num)
def hitI (s : Nt) (num : Int) : Nat := s.ks.findIdx (fun k => k.num == num)
def hitE (s : Nt) (num : Int) : Int := if hitB s num then 0 else 4
def nilK : Key := ⟨0, 0, 0, []⟩
def hitK (s : Nt) (num : Int) : Key := s.ks.getD (hitI s num) nilK
def outS (s : Nt) (num : Int) : Nt := if hitB s num then ⟨s.nodes, s.last, s.ks.eraseIdx (hitI s num)⟩ else s
def outK (s : Nt) (num : Int) : Key := if hitB s num then hitK s num else nilK
def againE (s : Nt) (num : Int) : Int := if hitB s num then (if 2048 ≤ s.ks.length then 3 else 0) else 4
def againS (s : Nt) (num : Int) : Nt := if againE s num = 0 then putS s (hitK s num).fr (hitK s num).to (hitK s num).bs else s
def againV (s : Nt) (num : Int) : Int := if againE s num = 0 then s.last + 1 else 0
/-- A net as New and its calls leave it. -/
structure Nt.WF (s : Nt) : Prop where
  nd : 1 ≤ s.nodes ∧ s.nodes ≤ 7
  ls : 0 ≤ s.last
  up : s.ks.Pairwise (fun a b => a.num < b.num)
  ks : ∀ k ∈ s.ks, 1 ≤ k.num ∧ k.num ≤ s.last ∧ okK s.nodes k.fr k.to = true ∧ k.bs.length ≤ 1000000
  len : s.ks.length ≤ 2048
theorem Nt.WF.put {s : Nt} (h : s.WF) {fr to : Int} {bs : List UInt8} (h1 : okK s.nodes fr to = true) (h2 : s.ks.length < 2048) (h3 : bs.length ≤ 1000000) : (putS s fr to bs).WF := by
  have hls := h.ls
  refine ⟨h.nd, by simp [putS]; omega, ?_, ?_, by simp [putS]; omega⟩
  · simp only [putS]
    rw [List.pairwise_append]
    refine ⟨h.up, by simp, fun a ha b hb => ?_⟩
    simp at hb
    subst hb
    have := (h.ks a ha).2.1
    simp; omega
  · intro k hk
    simp only [putS, List.mem_append, List.mem_singleton] at hk ⊢
    rcases hk with hk | rfl
    · obtain ⟨a, b, c⟩ := h.ks k hk
      exact ⟨a, by omega, c⟩
    · exact ⟨by simp; omega, by simp, h1, h3⟩
theorem Nt.WF.send {s : Nt} (h : s.WF) {fr to : Int} {bs : List UInt8} (h3 : bs.length ≤ 1000000) : (sendS s fr to bs).WF := by
  unfold sendS
  split
  · rename_i h0
    unfold sendE at h0
    split at h0
    · rename_i hk
      split at h0
      · simp at h0
      · exact h.put hk (by omega) h3
    · simp at h0
  · exact h
theorem hit_lt {s : Nt} {num : Int} (h : hitB s num = true) : hitI s num < s.ks.length := by
  unfold hitB at h
  exact List.findIdx_lt_length_of_exists (by simpa using h)
theorem hit_get {s : Nt} {num : Int} (h : hitB s num = true) : s.ks[hitI s num]? = some (hitK s num) := by
  unfold hitK
  rw [List.getD_eq_getElem?_getD, List.getElem?_eq_getElem (hit_lt h)]
  rfl
theorem hit_num {s : Nt} {num : Int} (h : hitB s num = true) : (hitK s num).num = num := by
  have h1 := List.findIdx_getElem (w := hit_lt h)
  have h2 := hit_get h
  rw [List.getElem?_eq_getElem (hit_lt h)] at h2
  injection h2 with h2
  unfold hitI at h2
  rw [h2] at h1
  simpa using h1
theorem hit_mem {s : Nt} {num : Int} (h : hitB s num = true) : hitK s num ∈ s.ks := List.mem_of_getElem? (hit_get h)
theorem Nt.WF.out {s : Nt} (h : s.WF) (num : Int) : (outS s num).WF := by
  unfold outS
  split
  · refine ⟨h.nd, h.ls, h.up.sublist (List.eraseIdx_sublist _ _), fun k hk => h.ks k (List.mem_of_mem_eraseIdx hk), ?_⟩
    have := List.length_eraseIdx_le s.ks (hitI s num)
    have := h.len
    simp only; omega
  · exact h
theorem Nt.WF.again {s : Nt} (h : s.WF) (num : Int) : (againS s num).WF := by
  unfold againS
  split
  · rename_i h0
    unfold againE at h0
    split at h0
    · rename_i hb
      split at h0
      · simp at h0
      · obtain ⟨_, _, h1, h2⟩ := h.ks _ (hit_mem hb)
        exact h.put h1 (by omega) h2
    · simp at h0
  · exact h
/-- The second call of Send says the same as Twice. -/
theorem again_send {s : Nt} (h : s.WF) {num : Int} (hb : hitB s num = true) : sendE s (hitK s num).fr (hitK s num).to = againE s num := by
  obtain ⟨_, _, h1, _⟩ := h.ks _ (hit_mem hb)
  unfold sendE againE
  rw [if_pos h1, if_pos hb]
/-- Where the numbers pass num. -/
def lowI (s : Nt) (num : Int) : Nat := s.ks.findIdx (fun k => decide (num ≤ k.num))
def numI (s : Nt) (t : Nat) : Int := (s.ks.map Key.num).getD t 0
theorem numI_get {s : Nt} {t : Nat} {k : Key} (h : s.ks[t]? = some k) : numI s t = k.num := by
  unfold numI
  rw [List.getD_eq_getElem?_getD, List.getElem?_map, h]
  rfl
theorem low_le (s : Nt) (num : Int) : lowI s num ≤ s.ks.length := List.findIdx_le_length
theorem low_lt {s : Nt} {num : Int} {t : Nat} (h : t < lowI s num) : numI s t < num := by
  have hl := low_le s num
  have ht : t < s.ks.length := by omega
  have := List.not_of_lt_findIdx h
  rw [numI_get (List.getElem?_eq_getElem ht)]
  simpa using this
theorem low_ge {s : Nt} (hw : s.WF) {num : Int} {t : Nat} (h : lowI s num ≤ t) (ht : t < s.ks.length) : num ≤ numI s t := by
  have hlt : lowI s num < s.ks.length := by omega
  have h1 : num ≤ s.ks[lowI s num].num := by
    have := List.findIdx_getElem (w := hlt)
    exact of_decide_eq_true this
  rw [numI_get (List.getElem?_eq_getElem ht)]
  rcases Nat.lt_or_ge (lowI s num) t with h2 | h2
  · have := List.pairwise_iff_getElem.1 hw.up _ _ hlt ht h2
    omega
  · obtain rfl : t = lowI s num := by omega
    exact h1
theorem low_hit {s : Nt} (hw : s.WF) {num : Int} (hb : hitB s num = true) : lowI s num = hitI s num := by
  have h1 := hit_lt hb
  have h2 := hit_get hb
  have h3 := hit_num hb
  have e1 : numI s (hitI s num) = num := by rw [numI_get h2, h3]
  rcases Nat.lt_trichotomy (lowI s num) (hitI s num) with h | h | h
  · exfalso
    have h4 := low_ge hw (Nat.le_refl _) (show lowI s num < s.ks.length by omega)
    have h5 := List.pairwise_iff_getElem.1 hw.up _ _ (show lowI s num < s.ks.length by omega) h1 h
    rw [numI_get (List.getElem?_eq_getElem (show lowI s num < s.ks.length by omega))] at h4
    rw [numI_get (List.getElem?_eq_getElem h1)] at e1
    omega
  · exact h
  · have := low_lt h
    omega
theorem low_iff {s : Nt} (hw : s.WF) (num : Int) : (lowI s num < s.ks.length ∧ numI s (lowI s num) = num) ↔ hitB s num = true := by
  constructor
  · rintro ⟨h1, h2⟩
    unfold hitB
    rw [List.any_eq_true]
    refine ⟨s.ks[lowI s num], List.getElem_mem _, ?_⟩
    rw [numI_get (List.getElem?_eq_getElem h1)] at h2
    simpa using h2
  · intro hb
    rw [low_hit hw hb]
    exact ⟨hit_lt hb, by rw [numI_get (hit_get hb), hit_num hb]⟩
theorem fndE_hit {s : Nt} (hw : s.WF) (num : Int) : fndE s.ks.length (lowI s num) (numI s) num = hitE s num := by
  unfold fndE hitE
  by_cases hb : hitB s num = true
  · rw [if_pos ((low_iff hw num).2 hb), if_pos hb]
  · rw [if_neg (fun h => hb ((low_iff hw num).1 h)), if_neg hb]
theorem fndV_hit {s : Nt} (hw : s.WF) {num : Int} (hb : hitB s num = true) : fndV s.ks.length (lowI s num) (numI s) num = (hitI s num : Int) := by
  unfold fndV
  rw [if_pos ((low_iff hw num).2 hb), low_hit hw hb]
theorem fndV_no {s : Nt} (hw : s.WF) {num : Int} (hb : hitB s num = false) : fndV s.ks.length (lowI s num) (numI s) num = 0 := by
  unfold fndV
  rw [if_neg (fun h => by rw [(low_iff hw num).1 h] at hb; cases hb)]
end Go.Proofs.Ytlpdihcgdgkkbaa
