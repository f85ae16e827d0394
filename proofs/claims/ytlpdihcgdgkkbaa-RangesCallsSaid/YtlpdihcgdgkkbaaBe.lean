/- Walks: the chapter's first example of filters; which keys are gone through. -/
import Derived.Test.YtlpdihcgdgkkbaaBd
import Derived.Test.YtlpdihcgdgkkbaaKit
namespace Go.Proofs.Ytlpdihcgdgkkbaa
open Go.RowKit Go.St
set_option linter.unusedVariables false
set_option linter.unusedSimpArgs false

theorem hash_a : bhash [97] = 12638187200555641996 := by decide +kernel
theorem bof_nil : bof (brounds 10) (bsize 0 10) (bl []) = [7, 0] := by decide +kernel

theorem rd_new (w : World) (xs : Array Value) (t : TypeId) : Rd (w.alloc (.cells xs t)) (w.heap.size + 1) (some ⟨w.heap.size, 0, none⟩) xs.toList := by
  intro _
  refine ⟨w.heap.size, 0, rfl, by omega, fun i v hv => ?_⟩
  rw [World.cell?_alloc_mark]
  simpa using hv

set_option maxHeartbeats 800000 in
set_option maxRecDepth 100000 in
theorem lives08_any (w : World) : Calls Try.prog 17 #[] w fun e w' => e = .returned (.bool true) ∧ Below w.heap.size w w' := by
  have hh := fun w => hash_any ⟨#[97]⟩ (by decide) w
  have e1 : ((bhash (⟨#[97]⟩ : ByteArray).data.toList : Nat) : Int) = 12638187200555641996 := by rw [show (⟨#[97]⟩ : ByteArray).data.toList = [97] from rfl, hash_a]; rfl
  rw [e1] at hh
  have HH := Lib.hid hh; clear hh e1
  go_enter Try.func17, Try.ntmps17
  go_wp2_with fail
  refine (of_any none 0 0 w.heap.size [] rfl (by omega) (by simp) 10 (by omega) (by omega) _ Rd.nil (Nat.le_refl _)).mono ?_
  rintro e w1 ⟨v1, rfl, own1, hb1⟩
  have e2 := bof_nil
  rw [e2] at own1
  obtain ⟨A1, c1, rfl, rd1⟩ := own_rd own1
  have RD1 := Lib.hid rd1; have HB1 := Lib.hid hb1
  clear own1 rd1 e2 hb1
  go_wp2_with fail
  refine (same_any A1 _ 2 2 c1 2 _ _ [7, 0] [7, 0] rfl rfl (by omega) _ (RD1.out.alloc (Nat.le_refl _) _) (rd_new w1 #[.int .u8 7, .int .u8 0] _)).mono ?_
  rintro e w2 ⟨rfl, q, rfl⟩
  rw [decide_eq_true rfl]
  go_wp2_with fail
  refine (HH.out _).mono ?_
  rintro e w' ⟨rfl, rfl⟩
  go_wp2
  go_ret
  refine ⟨rfl, ?_⟩
  have h := HB1.out.alloc HB1.out.size (.cells #[.int .u8 7, .int .u8 0] 5)
  exact ⟨h.os, h.tape, h.output, h.size, h.block⟩

def smallB (l : List ByteArray) : Bool := l.all (fun s => decide (s.size ≤ 600)) && decide (l.length ≤ 200)
set_option maxHeartbeats 400000 in
theorem small08_any (A : Option Addr) (n c B : Nat) (l : List ByteArray) (hl : l.length = n) (hn : n ≤ 9223372036854775807) (hs : ∀ s ∈ l, s.size ≤ 9223372036854775807) (w : World) (hr : Rd w B A (sv l)) :
    Calls Try.prog 20 #[.slice A n c] w fun e w' => e = .returned (.bool (smallB l)) ∧ w = w' := by
  have HL := Lib.hid hl; have HR := Lib.hid hr; have HS := Lib.hid hs
  clear hl hr hs
  go_enter Try.func20, Try.ntmps20
  go_wp2
  go_loop [3] (fun i => ∃ j : Nat, j ≤ n ∧ i = .int .i64 j ∧ Hid (∀ k s, k < j → l[k]? = some s → s.size ≤ 600)) (fun i => n - (intOf i).toNat)
  case atStart => exact ⟨0, Nat.zero_le _, rfl, fun k s h => absurd h (by omega)⟩
  case round =>
    obtain ⟨j, hj, rfl, hU⟩ := hrel
    by_cases hlt : j < n
    · have hjl : j < l.length := by rw [HL.out]; exact hlt
      obtain ⟨b, off, rfl, hb, hcell⟩ := HR.out.at_ (show (sv l)[j]? = some (.string l[j]) by simp [sv, hjl])
      have hlj : l[j]? = some l[j] := List.getElem?_eq_getElem hjl
      have hsz := HS.out l[j] (List.getElem_mem hjl)
      have HLJ := Lib.hid hlj; clear hlj
      generalize l[j] = s at *
      by_cases h6 : s.size ≤ 600
      · go_wp2
        refine ⟨⟨j + 1, by omega, by go_num, fun k t hk ht => ?_⟩, by simp [intOf]; omega⟩
        rcases Nat.lt_or_ge k j with h1 | h1
        · exact hU.out k t h1 ht
        · obtain rfl : k = j := by omega
          rw [HLJ.out] at ht
          injection ht with ht
          subst ht
          exact h6
      · have h7 : decide (600 < s.size) = true := decide_eq_true (by omega)
        have hf : smallB l = false := by
          unfold smallB
          rw [List.all_eq_false.2 ⟨s, List.mem_of_getElem? HLJ.out, by simpa using h6⟩]
          rfl
        have HF := Lib.hid hf; clear hf
        have h8 : 600 < s.size := by omega
        clear h6
        go_wp2
        go_ret
        exact ⟨ret_bool HF.out.symm, rfl⟩
    · obtain rfl : j = n := by omega
      have ha : l.all (fun s => decide (s.size ≤ 600)) = true := by
        rw [List.all_eq_true]
        intro s hs
        obtain ⟨k, hk, rfl⟩ := List.getElem_of_mem hs
        exact decide_eq_true (hU.out k _ (by rw [← HL.out]; exact hk) (List.getElem?_eq_getElem hk))
      have HA := Lib.hid ha; clear ha
      go_wp2
      go_ret
      refine ⟨ret_bool ?_, rfl⟩
      unfold smallB
      rw [HA.out, HL.out, Bool.true_and]
      rw [Bool.eq_iff_iff]
      simp
      omega
end Go.Proofs.Ytlpdihcgdgkkbaa
