/- Plain law of a net's numbers; a step of a net. -/
import Derived.Test.YtlpdihcgdgkkbaaSv
namespace Go.Proofs.Ytlpdihcgdgkkbaa
open Go.RowKit Go.St
set_option linter.unusedVariables false
set_option linter.unusedSimpArgs false
set_option maxRecDepth 100000

theorem hitB_iff (s : Nt) (num : Int) : hitB s num = true ↔ ∃ k ∈ s.ks, k.num = num := by
  unfold hitB
  rw [List.any_eq_true]
  simp
theorem hitB_put (s : Nt) (fr to : Int) (bs : List UInt8) (num : Int) : hitB (putS s fr to bs) num = (hitB s num || (s.last + 1 == num)) := by
  unfold hitB putS
  simp
theorem hitB_out_ne (s : Nt) {a num : Int} (h : num ≠ a) : hitB (outS s a) num = hitB s num := by
  unfold outS
  split
  · rename_i hb
    rw [Bool.eq_iff_iff, hitB_iff, hitB_iff]
    constructor
    · rintro ⟨k, hk, e⟩
      exact ⟨k, List.mem_of_mem_eraseIdx hk, e⟩
    · rintro ⟨k, hk, e⟩
      refine ⟨k, ?_, e⟩
      obtain ⟨i, hi, rfl⟩ := List.mem_iff_getElem.1 hk
      rw [List.mem_eraseIdx_iff_getElem]
      refine ⟨i, hi, fun e2 => ?_, rfl⟩
      subst e2
      have h1 := hit_num hb
      have h2 := hit_get hb
      rw [List.getElem?_eq_getElem hi] at h2
      injection h2 with h2
      rw [h2] at e
      omega
  · rfl
theorem hitB_out_same {s : Nt} (hw : s.WF) (num : Int) : hitB (outS s num) num = false := by
  unfold outS
  split
  · rename_i hb
    rw [Bool.eq_false_iff]
    intro h
    obtain ⟨k, hk, e⟩ := (hitB_iff _ _).1 h
    rw [List.mem_eraseIdx_iff_getElem] at hk
    obtain ⟨i, hi, hne, rfl⟩ := hk
    have h1 := hit_num hb
    have h2 := hit_get hb
    have h3 := hit_lt hb
    rw [List.getElem?_eq_getElem h3] at h2
    injection h2 with h2
    rw [← h2] at h1
    rcases Nat.lt_trichotomy i (hitI s num) with h4 | h4 | h4
    · have := List.pairwise_iff_getElem.1 hw.up _ _ hi h3 h4
      omega
    · exact hne h4
    · have := List.pairwise_iff_getElem.1 hw.up _ _ h3 hi h4
      omega
  · rename_i hb
    simpa using hb
theorem out_len {s : Nt} {num : Int} (h : hitB s num = true) : (outS s num).ks.length = s.ks.length - 1 := by
  unfold outS
  rw [if_pos h]
  simp only
  rw [List.length_eraseIdx, if_pos (hit_lt h)]
/-- A step of a net; what else is left alone. -/
theorem OutP.step {W w' : World} {base b : Nat} {v : Value} {F : Nat → Prop} {s s' : Nt} (h : NetP W base b v F s) (ho : OutP base b v.ownBlock F s' W w') :
    ∃ v' F', NetP w' base b v' F' s' ∧ Below base W w' ∧ ∀ k, k < W.heap.size → k ≠ b → v.ownBlock ≠ some k → w'.heap[k]? = W.heap[k]? ∧ v'.ownBlock ≠ some k := by
  have hb := h.fr_below ho.1
  have hf := ho.1
  obtain ⟨v', F', hN, -, hv, -⟩ := ho.net
  refine ⟨v', F', hN, hb, fun k hk h1 h2 => ⟨hf.block k hk h1 h2, fun e => ?_⟩⟩
  rcases hv with hv | hv
  · rw [hv] at e; exact h2 e
  · have := hv k e; omega
theorem ltB_nil (W : World) (F : Nat → Prop) (n fr to : Int) : LtB W F ⟨⟨n, fr, to, []⟩, none, 0, 0⟩ := ⟨rfl, Nat.zero_le _, fun h => absurd rfl h⟩
/-- The net as the loop's rounds leave it. -/
structure Full (W : World) (base b : Nat) (v : Value) (F : Nat → Prop) (s : Nt) (k : Nat) : Prop where
  net : NetP W base b v F s
  wf : s.WF
  nd : s.nodes = 2
  ls : s.last = k
  len : s.ks.length = k
  hit : ∀ i : Int, 1 ≤ i → i ≤ k → hitB s i = true
theorem Full.send {W w' : World} {base b : Nat} {v : Value} {F : Nat → Prop} {s : Nt} {k : Nat} (h : Full W base b v F s k) (hk : k < 2048) {fr to : Int} {bs : List UInt8} (hok : okK 2 fr to = true) (hl : bs.length ≤ 1000000)
    (ho : OutP base b v.ownBlock F (sendS s fr to bs) W w') : sendE s fr to = 0 ∧ sendV s fr to = (k : Int) + 1 ∧ Below base W w' ∧ ∃ v' F', Full w' base b v' F' (putS s fr to bs) (k + 1) := by
  have e1 : sendE s fr to = 0 := by unfold sendE; rw [h.nd, if_pos hok, if_neg (by rw [h.len]; omega)]
  have e2 : sendS s fr to bs = putS s fr to bs := by unfold sendS; rw [if_pos e1]
  have e3 : sendV s fr to = (k : Int) + 1 := by unfold sendV; rw [if_pos e1, h.ls]
  rw [e2] at ho
  obtain ⟨v', F', hN, hB, -⟩ := OutP.step h.net ho
  refine ⟨e1, e3, hB, v', F', hN, h.wf.put (by rw [h.nd]; exact hok) (by rw [h.len]; exact hk) hl, h.nd, by simp [putS, h.ls], by simp [putS, h.len], fun i h1 h2 => ?_⟩
  rw [hitB_put, h.ls]
  rcases Int.lt_or_le (k : Int) i with h3 | h3
  · have : (k : Int) + 1 = i := by omega
    simp [this]
  · rw [h.hit i h1 h3, Bool.true_or]
end Go.Proofs.Ytlpdihcgdgkkbaa
