/- Walks: the reference's filters: which bits a key has; whether a filter may have it. -/
import Derived.Test.YtlpdihcgdgkkbaaBd
import Derived.Test.YtlpdihcgdgkkbaaBi
namespace Go.Proofs.Ytlpdihcgdgkkbaa
open Go.RowKit Go.St
set_option linter.unusedVariables false
set_option linter.unusedSimpArgs false
set_option maxRecDepth 100000

theorem sty64 : STy Try.prog 64 3 1 8 (.int .i64 0) := ⟨Try.underlying64, ⟨_, rfl, by kernel_rfl, by kernel_rfl, by kernel_rfl⟩, rfl, by decide⟩
/-- Numbers as cells. -/
def iv (l : List Nat) : List Value := l.map fun x => .int .i64 ((x : Nat) : Int)
theorem iv_get (l : List Nat) (i : Nat) (h : i < l.length) : (iv l)[i]? = some (.int .i64 ((l[i] : Nat) : Int)) := by simp [iv, h]
theorem bplaces_length (h k m : Nat) : (bplaces h k m).length = k := by simp [bplaces]
theorem bplaces_succ (h k m : Nat) : bplaces h (k + 1) m = bplaces h k m ++ [bplace h k m] := by unfold bplaces; rw [List.range_succ, List.map_append]; rfl

set_option maxHeartbeats 400000 in
theorem rcheck08_any (A : Option Addr) (n c B : Nat) (l : List UInt8) (hl : l.length = n) (w : World) (hr : Rd w B A (bv l)) :
    Calls Try.prog 28 #[.slice A n c] w fun e w' => e = .returned (.int .i64 (bchk l)) ∧ w = w' := by
  by_cases h2 : n < 2
  · have hc : bchk l = 5 := by unfold bchk; rw [if_neg (by omega)]
    have HC := Lib.hid hc; clear hc hl
    go_enter Try.func28, Try.ntmps28
    go_wp2
    go_ret
    exact ⟨ret_int HC.out.symm, rfl⟩
  · obtain ⟨b, off, rfl, hb, hcell⟩ := hr.at_ (bv_getD l 0 (by omega))
    rw [Nat.add_zero] at hcell
    have hc : bchk l = if 1 ≤ (l.getD 0 0).toNat ∧ (l.getD 0 0).toNat ≤ 12 then 0 else 5 := by
      unfold bchk
      by_cases h : 1 ≤ (l.getD 0 0).toNat ∧ (l.getD 0 0).toNat ≤ 12
      · rw [if_pos ⟨by omega, h⟩, if_pos h]
      · rw [if_neg (fun k => h k.2), if_neg h]
    generalize (l.getD 0 0).toNat = x at *
    have HC := Lib.hid hc; clear hc hr hl
    have h3 : 2 ≤ n := by omega
    clear h2
    go_enter Try.func28, Try.ntmps28
    go_wp2
    all_goals
      go_ret
      refine ⟨ret_int ?_, rfl⟩
      rw [HC.out]
      split <;> first | rfl | omega

set_option maxHeartbeats 800000 in
theorem places_any (s : ByteArray) (hs : s.size ≤ 9223372036854775807) (k m : Nat) (hk : k < 256) (hm : 0 < m) (hm2 : m < 4294967296) (w : World) :
    Calls Try.prog 71 #[.string s, .int .i64 (k : Int), .int .i64 (m : Int)] w fun e w' => ∃ v, e = .returned v ∧ w'.ownsRow w.heap.size 3 1 v k (iv (bplaces (bhash s.data.toList) k m)) ∧ Below w.heap.size w w' := by
  have hh := rhash_any s hs
  have hlt := bhash_lt s.data.toList
  generalize bhash s.data.toList = h at *
  have e1 := or1_val h hlt
  have e2 : (h : Int) % 4294967296 = ((h % 4294967296 : Nat) : Int) := by omega
  have E1 := Lib.hid e1; have E2 := Lib.hid e2; have HH := Lib.hid hh; have HLT := Lib.hid hlt
  clear hh hlt e1 e2
  go_enter Try.func71, Try.ntmps71
  go_wp2_with fail
  refine (HH.out _).mono ?_
  rintro e w' ⟨rfl, rfl⟩
  go_wp2_with fail
  rw [E1.out]
  go_loopw [10, 11] (fun v i wr => ∃ j : Nat, j ≤ k ∧ i = .int .i64 j ∧ Hid (wr.ownsRow w.heap.size 3 1 v j (iv (bplaces h j m))) ∧ Hid (Below w.heap.size w wr)) (fun _ i _ => k - (intOf i).toNat)
  case atStart => exact ⟨0, Nat.zero_le _, rfl, World.ownsRow_nil w _ _ _, Below.refl _ _⟩
  case round =>
    obtain ⟨j, hj, rfl, O2, B2⟩ := hrel
    by_cases hlt : j < k
    · have hbv := bit_val h j m hm hm2
      rw [← E2.out] at hbv
      have HBV := Lib.hid hbv; clear hbv
      go_wp2_with (at_builtin; refine wpList_app sty64 (.tmp 24) (.tmp 35) rfl rfl w.heap.size (O2.out.alloc _) rfl 1 1 (rd_one _ _ _) rfl rfl (by simp [Value.oneCell']) (by unfold maxLen; omega) (by omega) (by have := B2.out.size; simp; omega) ?_; intro v2 w2 own2 gr2 nil2 at2)
      exact ⟨⟨j + 1, by omega, by go_num, own_eq own2 rfl (by rw [bplaces_succ, HBV.out]; simp [iv]), ((B2.out.alloc B2.out.size _).grown gr2 (by have := B2.out.size; simp; omega) (fun g hg => (O2.out.lt g hg).1))⟩, by simp [intOf]; omega⟩
    · obtain rfl : j = k := by omega
      go_wp2
      go_ret
      exact ⟨_, rfl, O2.out, B2.out⟩
end Go.Proofs.Ytlpdihcgdgkkbaa
