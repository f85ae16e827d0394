/- Walks: copies, comparisons, sums and seals of bytes. -/
import Derived.Test.YtmfkngijgellhaaA
import Derived.BigQuiet
import Derived.Lib.QuietBelow
import Derived.Deep.RegionHeld3
import Derived.StillTailTactics
namespace Go.Proofs.Ytmfkngijgellhaa
open Go.RowKit Go.St

theorem sty22 : STy Try.prog 22 5 1 1 (.int .u8 0) := ⟨Try.underlying22, ⟨_, rfl, by kernel_rfl, by kernel_rfl, by kernel_rfl⟩, rfl, by decide⟩

set_option maxHeartbeats 400000 in
theorem copy_any (A : Option Addr) (n c B : Nat) (bs : List UInt8) (hl : bs.length = n) (hn : n ≤ 140737488355328) (w : World) (hr : Rd w B A (bv bs)) (hB : B ≤ w.heap.size) :
    Calls Try.prog 44 #[.slice A n c] w fun e w' => ∃ v, e = .returned v ∧ w'.ownsRow w.heap.size 5 1 v n (bv bs) ∧ Below w.heap.size w w' ∧ v ≠ .slice none 0 0 := by
  have HL := Lib.hid hl; clear hl
  have HR := Lib.hid hr; clear hr
  go_enter Try.func44, Try.ntmps44
  go_wp2_with (at_builtin; refine wpList_app sty22 (.tmp 3) (.tmp 4) rfl rfl w.heap.size (World.ownsRow_lit w #[] 0 (Nat.le_refl _) (by decide) rfl) rfl n c (Rd.alloc HR.out hB _) rfl (by rw [bv_length, HL.out]; omega) (bv_one _) (by unfold maxLen; omega) (by omega) (by simp) ?_; intro v1 w1 own1 gr1 nil1 at1)
  go_ret
  refine ⟨v1, rfl, by simpa using own1, ?_, fun h => by simpa using nil1.1 h⟩
  exact ((Below.refl _ _).alloc (Nat.le_refl _) _).grown gr1 (by simp) (by simp [Value.ownBlock])

theorem bt_ne {a b : UInt8} (h : a ≠ b) : (((a.toNat : Nat) : Int) != ((b.toNat : Nat) : Int)) = true := by
  rw [bne_iff_ne]
  intro e
  exact h (UInt8.toNat_inj.1 (by omega))
theorem bt_eq {a b : UInt8} (h : a = b) : (((a.toNat : Nat) : Int) != ((b.toNat : Nat) : Int)) = false := by
  subst h
  simp

set_option maxHeartbeats 400000 in
theorem same_any (A A' : Option Addr) (n n' c c' B B' : Nat) (bs bs' : List UInt8) (hl : bs.length = n) (hl' : bs'.length = n') (hn : n ≤ 9223372036854775807) (w : World)
    (hr : Rd w B A (bv bs)) (hr' : Rd w B' A' (bv bs')) :
    Calls Try.prog 20 #[.slice A n c, .slice A' n' c'] w fun e w' => e = .returned (.bool (decide (bs = bs'))) ∧ ∃ m, w' = w.drewN m := by
  have HL := Lib.hid hl; clear hl
  have HL' := Lib.hid hl'; clear hl'
  have HR := Lib.hid hr; clear hr
  have HR' := Lib.hid hr'; clear hr'
  by_cases hnn : n = n'
  · subst hnn
    go_enter Try.func20, Try.ntmps20
    go_wp2
    go_loopw [5] (fun i wr => ∃ k m : Nat, k ≤ n ∧ i = .int .i64 k ∧ wr = w.drewN m ∧ bs.take k = bs'.take k) (fun i _ => n - (intOf i).toNat)
    case atStart => exact ⟨0, 0, Nat.zero_le _, rfl, rfl, rfl⟩
    case round =>
      obtain ⟨k, m, hk, rfl, rfl, htk⟩ := hrel
      have HT := Lib.hid htk; clear htk
      by_cases hlt : k < n
      · obtain ⟨b, off, rfl, hb, hcell⟩ := HR.out.at_ (bv_get bs k (by rw [HL.out]; exact hlt))
        obtain ⟨b', off', rfl, hb', hcell'⟩ := HR'.out.at_ (bv_get bs' k (by rw [HL'.out]; exact hlt))
        have hsn := take_snoc bs k (by rw [HL.out]; exact hlt)
        have hsn' := take_snoc bs' k (by rw [HL'.out]; exact hlt)
        have HS := Lib.hid hsn; clear hsn
        have HS' := Lib.hid hsn'; clear hsn'
        unfold bt at hcell hcell'
        by_cases he : bs[k]'(by rw [HL.out]; exact hlt) = bs'[k]'(by rw [HL'.out]; exact hlt)
        · have e0 := bt_eq he
          have HE := Lib.hid he; clear he
          go_wp2
          go_quiet (fail)
          go_wp2
          exact ⟨⟨k + 1, m + nq, by omega, by go_num, by simp, by rw [HS.out, HS'.out, HT.out, HE.out]⟩, by simp [intOf]; omega⟩
        · have e0 := bt_ne he
          have HE := Lib.hid he; clear he
          go_wp2
          go_quiet (fail)
          go_wp2
          go_ret
          refine ⟨ret_bool ?_, m + nq, by simp⟩
          exact (decide_eq_false (fun h => HE.out (by subst h; rfl))).symm
      · obtain rfl : k = n := by omega
        go_wp2
        go_ret
        refine ⟨ret_bool ?_, m, rfl⟩
        have h1 := HT.out
        rw [List.take_of_length_le (by rw [HL.out]; exact Nat.le_refl _), List.take_of_length_le (by rw [HL'.out]; exact Nat.le_refl _)] at h1
        exact (decide_eq_true h1).symm
  · go_enter Try.func20, Try.ntmps20
    go_wp2
    go_ret
    exact ⟨ret_bool (decide_eq_false (fun h => hnn (by rw [← HL.out, ← HL'.out, h]))).symm, 0, rfl⟩

set_option maxHeartbeats 400000 in
theorem sum_any (A : Option Addr) (n c B : Nat) (bs : List UInt8) (hl : bs.length = n) (hn : n ≤ 9223372036854775807) (w : World) (hr : Rd w B A (bv bs)) :
    Calls Try.prog 17 #[.slice A n c] w fun e w' => e = .returned (.int .u32 (CrcM.cmore 0 bs : Nat)) ∧ w = w' := by
  have HL := Lib.hid hl; clear hl
  have HR := Lib.hid hr; clear hr
  go_enter Try.func17, Try.ntmps17
  go_wp2_with (go_at_call 16; refine (more_any 0 (by decide) A n c B bs HL.out hn _ HR.out).mono ?_; rintro e w' ⟨rfl, rfl⟩)
  go_ret
  exact ⟨rfl, rfl⟩

set_option maxHeartbeats 400000 in
theorem sealed_any (A : Option Addr) (n c B : Nat) (bs : List UInt8) (hl : bs.length = n) (hn : n + 4 ≤ 140737488355328) (w : World) (hr : Rd w B A (bv bs)) (hB : B ≤ w.heap.size) :
    Calls Try.prog 18 #[.slice A n c] w fun e w' => ∃ v, e = .returned v ∧ w'.ownsRow w.heap.size 5 1 v (n + 4) (bv (CrcM.sealed bs)) ∧ Below w.heap.size w w' := by
  have HL := Lib.hid hl; clear hl
  have HR := Lib.hid hr; clear hr
  go_enter Try.func18, Try.ntmps18
  go_wp2_with (first
    | (at_builtin; refine wpList_app sty22 _ (.tmp 6) rfl rfl w.heap.size (World.ownsRow_nil w _ _ _) rfl n c HR.out rfl (by rw [bv_length, HL.out]; omega) (bv_one _) (by unfold maxLen; omega) (by omega) (Nat.le_refl _) ?_; intro v1 w1 own1 gr1 nil1 at1)
    | (go_at_call 17; refine (sum_any A n c B bs HL.out (by omega) _ (HR.out.grown gr1 hB (by simp [Value.ownBlock]))).mono ?_; rintro e w' ⟨rfl, rfl⟩))
  have hs := CrcM.cmore_lt 0 bs
  have hb1 : Below w.heap.size w w1 := (Below.refl _ _).grown gr1 (Nat.le_refl _) (by simp [Value.ownBlock])
  clear nil1 at1
  have HO : Hid (w1.ownsRow w.heap.size 5 1 v1 (n + 0) (bv bs ++ bv ((CrcM.le32 (CrcM.cmore 0 bs)).take 0))) := own_eq own1 (by omega) (by simp [bv])
  clear own1
  generalize hsum : CrcM.cmore 0 bs = s at *
  have HS := Lib.hid hsum; clear hsum
  go_loopw [3, 5] (fun v i wr => ∃ k : Nat, k ≤ 4 ∧ i = .int .i64 k ∧ wr.ownsRow w.heap.size 5 1 v (n + k) (bv bs ++ bv ((CrcM.le32 s).take k)) ∧ Below w.heap.size w wr) (fun _ i _ => 4 - (intOf i).toNat)
  case atStart => exact ⟨0, Nat.zero_le _, rfl, HO.out, hb1⟩
  case round =>
    obtain ⟨k, hk, rfl, hown, hbw⟩ := hrel
    clear hb1 HO
    by_cases hk4 : k < 4
    · rcases (by omega : k = 0 ∨ k = 1 ∨ k = 2 ∨ k = 3) with rfl | rfl | rfl | rfl
      all_goals
        go_wp2_with (at_builtin; refine wpList_app sty22 (.tmp 14) (.tmp 20) rfl rfl w.heap.size (hown.alloc _) rfl 1 1 (rd_one _ _ _) rfl rfl (by simp [Value.oneCell']) (by unfold maxLen; omega) (by omega) (by have := hbw.size; simp; omega) ?_; intro v2 w2 own2 gr2 nil2 at2)
      · refine ⟨⟨0 + 1, by omega, by go_num, own_eq own2 (by omega) ?_, ((hbw.alloc hbw.size _).grown gr2 (by have := hbw.size; simp; omega) (fun g hg => (hown.lt g hg).1))⟩, by simp [intOf]⟩
        simp [bv, CrcM.le32, bt_ofNat]
      · refine ⟨⟨1 + 1, by omega, by go_num, own_eq own2 (by omega) ?_, ((hbw.alloc hbw.size _).grown gr2 (by have := hbw.size; simp; omega) (fun g hg => (hown.lt g hg).1))⟩, by simp [intOf]⟩
        simp [bv, CrcM.le32, bt_ofNat]
      · refine ⟨⟨2 + 1, by omega, by go_num, own_eq own2 (by omega) ?_, ((hbw.alloc hbw.size _).grown gr2 (by have := hbw.size; simp; omega) (fun g hg => (hown.lt g hg).1))⟩, by simp [intOf]⟩
        simp [bv, CrcM.le32, bt_ofNat]
      · refine ⟨⟨3 + 1, by omega, by go_num, own_eq own2 (by omega) ?_, ((hbw.alloc hbw.size _).grown gr2 (by have := hbw.size; simp; omega) (fun g hg => (hown.lt g hg).1))⟩, by simp [intOf]⟩
        simp [bv, CrcM.le32, bt_ofNat]
        omega
    · obtain rfl : k = 4 := by omega
      go_wp2
      go_ret
      exact ⟨_, rfl, own_eq hown (by omega) (by rw [← bv_append, ← HS.out]; rfl), hbw⟩
end Go.Proofs.Ytmfkngijgellhaa
