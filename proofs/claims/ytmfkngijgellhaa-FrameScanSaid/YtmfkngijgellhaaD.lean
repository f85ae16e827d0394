/- The walk of Opened: what was sealed is opened, all else is not. -/
import Derived.Test.YtmfkngijgellhaaC
namespace Go.Proofs.Ytmfkngijgellhaa
open Go.RowKit Go.St

set_option maxHeartbeats 1000000 in
theorem opened_yes (A : Option Addr) (m c B : Nat) (bs : List UInt8) (hl : bs.length = m + 4) (hn : m + 4 ≤ 140737488355328) (hc : m + 4 ≤ c) (hs : CrcM.sealed (bs.take m) = bs) (w : World) (hr : Rd w B A (bv bs)) (hB : B ≤ w.heap.size) :
    Calls Try.prog 19 #[.slice A (m + 4) c] w fun e w' => ∃ v, e = .returned (.tuple #[v, .bool true]) ∧ w'.ownsRow w.heap.size 5 1 v m (bv (bs.take m)) ∧ Below w.heap.size w w' := by
  have hbe : (CrcM.sealed (List.take m bs) == bs) = true := by rw [hs]; exact beq_self_eq_true _
  clear hs
  have HL := Lib.hid hl; clear hl
  have HR := Lib.hid hr; clear hr
  have b1 : (0 : Int) ≤ (m : Int) := by omega
  have b2 : (m : Int) ≤ (c : Int) := by omega
  have b3 : decide ((m : Int) < 0) = false := by simp
  go_enter Try.func19, Try.ntmps19
  go_wp2
  have hc0 := conv_str (w := w.drew) 22 9 5 (m + 4) c Try.underlying22 Try.underlying5 Try.underlying9 (show Rd w.drew B A (bv bs) from HR.out) HL.out
  go_region_with (first | (go_at_call 18; refine (sealed_any A m c B (bs.take m) (by simp [HL.out]) (by omega) _ (by have := HR.out.take m; rwa [bv, ← List.map_take] at this) (by simp; omega)).mono ?_; rintro e w2 ⟨v2, rfl, own2, hb2⟩; obtain ⟨A2, c2, rfl, hr2⟩ := own_rd own2; have hcv := conv_str 22 9 5 (m + 4) c2 Try.underlying22 Try.underlying5 Try.underlying9 hr2 (by rw [CrcM.sealed_length]; simp [HL.out]); have hcw := conv_str 22 9 5 (m + 4) c Try.underlying22 Try.underlying5 Try.underlying9 (Rd.below (show Rd w.drew B A (bv bs) from HR.out) (hb2.mono hB)) HL.out))
  all_goals
    clear hcv hcw hc0 hr2 own2
    have hb3 : Below w.heap.size w w2 := (Below.refl _ _).drew.trans hb2
    clear hb2
    go_wp2_with (at_builtin; refine wpList_app sty22 _ (.tmp 22) rfl rfl w.heap.size (World.ownsRow_nil w2 _ _ _) rfl m c (news := bv (bs.take m)) (by have := (HR.out.below (hb3.mono hB)).take m; rwa [bv, ← List.map_take] at this) rfl (by rw [bv_length]; simp [HL.out]) (bv_one _) (by unfold maxLen; omega) (by omega) hb3.size ?_; intro v4 w4 own4 gr4 nil4 at4)
    go_ret2
    exact ⟨v4, rfl, own_eq own4 (by omega) rfl, hb3.grown gr4 hb3.size (by simp [Value.ownBlock])⟩

set_option maxHeartbeats 1000000 in
theorem opened_no (A : Option Addr) (m c B : Nat) (bs : List UInt8) (hl : bs.length = m + 4) (hn : m + 4 ≤ 140737488355328) (hc : m + 4 ≤ c) (hs : CrcM.sealed (bs.take m) ≠ bs) (w : World) (hr : Rd w B A (bv bs)) (hB : B ≤ w.heap.size) :
    Calls Try.prog 19 #[.slice A (m + 4) c] w fun e w' => e = .returned (.tuple #[.slice none 0 0, .bool false]) ∧ Below w.heap.size w w' := by
  have hbe : (CrcM.sealed (List.take m bs) == bs) = false := beq_eq_false_iff_ne.2 hs
  clear hs
  have HL := Lib.hid hl; clear hl
  have HR := Lib.hid hr; clear hr
  have b1 : (0 : Int) ≤ (m : Int) := by omega
  have b2 : (m : Int) ≤ (c : Int) := by omega
  have b3 : decide ((m : Int) < 0) = false := by simp
  go_enter Try.func19, Try.ntmps19
  go_wp2
  have hc0 := conv_str (w := w.drew) 22 9 5 (m + 4) c Try.underlying22 Try.underlying5 Try.underlying9 (show Rd w.drew B A (bv bs) from HR.out) HL.out
  go_region_with (first | (go_at_call 18; refine (sealed_any A m c B (bs.take m) (by simp [HL.out]) (by omega) _ (by have := HR.out.take m; rwa [bv, ← List.map_take] at this) (by simp; omega)).mono ?_; rintro e w2 ⟨v2, rfl, own2, hb2⟩; obtain ⟨A2, c2, rfl, hr2⟩ := own_rd own2; have hcv := conv_str 22 9 5 (m + 4) c2 Try.underlying22 Try.underlying5 Try.underlying9 hr2 (by rw [CrcM.sealed_length]; simp [HL.out]); have hcw := conv_str 22 9 5 (m + 4) c Try.underlying22 Try.underlying5 Try.underlying9 (Rd.below (show Rd w.drew B A (bv bs) from HR.out) (hb2.mono hB)) HL.out))
  all_goals
    clear hcv hcw hc0 hr2 own2
    have hb3 : Below w.heap.size w w2 := (Below.refl _ _).drew.trans hb2
    clear hb2
    go_wp2
    go_ret2
    exact ⟨rfl, hb3⟩
end Go.Proofs.Ytmfkngijgellhaa
