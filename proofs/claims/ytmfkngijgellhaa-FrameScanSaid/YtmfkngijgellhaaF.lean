/- The walk of the reference's Opened. -/
import Derived.Test.YtmfkngijgellhaaE
namespace Go.Proofs.Ytmfkngijgellhaa
open Go.RowKit Go.St

set_option maxHeartbeats 400000 in
theorem ropened_short (A : Option Addr) (n c : Nat) (hn : n < 4) (w : World) :
    Calls Try.prog 22 #[.slice A n c] w fun e w' => e = .returned (.tuple #[.slice none 0 0, .bool false]) ∧ w = w' := by
  go_enter Try.func22, Try.ntmps22
  go_wp2
  go_ret2
  exact ⟨rfl, rfl⟩

set_option maxHeartbeats 1000000 in
theorem ropened_long (A : Option Addr) (m c B : Nat) (bs : List UInt8) (hl : bs.length = m + 4) (hn : m + 4 ≤ 140737488355328) (hc : m + 4 ≤ c) (w : World) (hr : Rd w B A (bv bs)) (hB : B ≤ w.heap.size) :
    Calls Try.prog 22 #[.slice A (m + 4) c] w fun e w' => (∃ v, e = .returned (.tuple #[v, .bool (decide (CrcM.sealed (bs.take m) = bs))]) ∧ (CrcM.sealed (bs.take m) = bs → w'.ownsRow w.heap.size 5 1 v m (bv (bs.take m))) ∧ (CrcM.sealed (bs.take m) ≠ bs → v = .slice none 0 0)) ∧ Below w.heap.size w w' := by
  have HL := Lib.hid hl; clear hl
  have HR := Lib.hid hr; clear hr
  have b1 : (0 : Int) ≤ (m : Int) := by omega
  have b2 : (m : Int) ≤ (c : Int) := by omega
  go_enter Try.func22, Try.ntmps22
  go_wp2_with (at_builtin; refine wpList_app sty22 (.tmp 10) (.tmp 15) rfl rfl w.heap.size (World.ownsRow_lit w #[] 0 (Nat.le_refl _) (by decide) rfl) rfl m c (news := bv (bs.take m)) (by have := (Rd.alloc HR.out hB (.cells #[] 5)).take m; rwa [bv, ← List.map_take] at this) rfl (by rw [bv_length]; simp [HL.out]) (bv_one _) (by unfold maxLen; omega) (by omega) (by simp) ?_; intro v1 w1 own1 gr1 nil1 at1)
  have hb1 : Below w.heap.size w w1 := ((Below.refl _ _).alloc (Nat.le_refl _) _).grown gr1 (by simp) (by simp [Value.ownBlock])
  have own1' := own_eq own1 (show 0 + m = m by omega) (show [] ++ bv (bs.take m) = bv (bs.take m) by simp)
  clear gr1 nil1 at1 own1
  obtain ⟨A1, c1, rfl, r1⟩ := own_rd own1'
  refine (rsealed_any A1 m c1 _ (bs.take m) (by simp [HL.out]) (by omega) _ r1 (Nat.le_refl _)).mono ?_
  rintro e w2 ⟨v2, rfl, own2, hb2⟩
  have own3 := own1'.kept (w' := w2) (row := none) ⟨hb2.os, hb2.tape, hb2.output, hb2.size, fun k hk _ => hb2.block k hk⟩ (by simp [Value.ownBlock]; cases A1 <;> simp)
  have hb3 : Below w.heap.size w w2 := hb1.trans (hb2.mono hb1.size)
  obtain ⟨A2, c2, rfl, r2⟩ := own_rd own2
  have R2 := Lib.hid r2
  have R3 := Lib.hid (HR.out.below (hb3.mono hB))
  have hsl : (CrcM.sealed (bs.take m)).length = m + 4 := by rw [CrcM.sealed_length]; simp [HL.out]
  have HSL := Lib.hid hsl
  clear own2 r1 r2 hb2 hb1 HR hsl own1'
  go_wp2
  go_loopw [6] (fun i wr => ∃ k q : Nat, k ≤ m + 4 ∧ i = .int .i64 k ∧ wr = w2.drewN q ∧ (CrcM.sealed (bs.take m)).take k = bs.take k) (fun i _ => m + 4 - (intOf i).toNat)
  case atStart => exact ⟨0, 0, Nat.zero_le _, rfl, rfl, rfl⟩
  case round =>
    obtain ⟨k, q, hk, rfl, rfl, htk⟩ := hrel
    have HT := Lib.hid htk; clear htk
    by_cases hlt : k < m + 4
    · obtain ⟨b, off, rfl, hb, hcell⟩ := R2.out.at_ (bv_get _ k (by rw [HSL.out]; exact hlt))
      obtain ⟨b', off', rfl, hb', hcell'⟩ := R3.out.at_ (bv_get bs k (by rw [HL.out]; exact hlt))
      have hsn := take_snoc (CrcM.sealed (bs.take m)) k (by rw [HSL.out]; exact hlt)
      have hsn' := take_snoc bs k (by rw [HL.out]; exact hlt)
      have HS := Lib.hid hsn; clear hsn
      have HS' := Lib.hid hsn'; clear hsn'
      unfold bt at hcell hcell'
      by_cases he : (CrcM.sealed (bs.take m))[k]'(by rw [HSL.out]; exact hlt) = bs[k]'(by rw [HL.out]; exact hlt)
      · have e0 := bt_eq he
        have HE := Lib.hid he; clear he
        go_wp2
        go_quiet (fail)
        go_wp2
        exact ⟨⟨k + 1, q + nq, by omega, by go_num, by simp, by rw [HS.out, HS'.out, HT.out, HE.out]⟩, by simp [intOf]; omega⟩
      · have e0 := bt_ne he
        have hne : CrcM.sealed (bs.take m) ≠ bs := fun h => he (by
          have : (CrcM.sealed (bs.take m))[k]? = bs[k]? := by rw [h]
          rw [List.getElem?_eq_getElem (by rw [HSL.out]; exact hlt), List.getElem?_eq_getElem (by rw [HL.out]; exact hlt)] at this
          exact Option.some.inj this)
        have HE := Lib.hid hne; clear hne he
        go_wp2
        go_quiet (fail)
        go_wp2
        go_ret2
        exact ⟨⟨_, (by rw [decide_eq_false HE.out]; rfl), fun h => absurd h HE.out, fun _ => rfl⟩, ⟨hb3.os, hb3.tape, hb3.output, hb3.size, hb3.block⟩⟩
    · obtain rfl : k = m + 4 := by omega
      have heq : CrcM.sealed (bs.take m) = bs := by
        have := HT.out
        rwa [List.take_of_length_le (l := CrcM.sealed (bs.take m)) (i := m + 4) (by rw [HSL.out]; exact Nat.le_refl _), List.take_of_length_le (l := bs) (i := m + 4) (by rw [HL.out]; exact Nat.le_refl _)] at this
      have HQ := Lib.hid heq; clear heq
      go_wp2
      go_ret2
      exact ⟨⟨_, (by rw [decide_eq_true HQ.out]; rfl), fun _ => own3, fun h => absurd HQ.out h⟩, ⟨hb3.os, hb3.tape, hb3.output, hb3.size, hb3.block⟩⟩
end Go.Proofs.Ytmfkngijgellhaa
