/- Walks: numbers of a few bytes, written. -/
import Derived.Test.YtmcpjpkidcbgiaaEa
import Derived.Test.YtmcpjpkidcbgiaaEu
import Derived.Deep.Cut
import Derived.Laws.BitsLemmas
namespace Go.Proofs.Ytmcpjpkidcbgiaa
open Go.RowKit Go.St Go.Maps
set_option linter.unusedVariables false
set_option linter.unusedSimpArgs false
set_option maxRecDepth 100000

theorem styB : STy Try.prog 23 5 1 1 (.int .u8 0) := ⟨Try.underlying23, ⟨_, rfl, by kernel_rfl, by kernel_rfl, by kernel_rfl⟩, rfl, by decide⟩

theorem or128_dec : ∀ z : Nat, z < 256 → z ||| 128 = z % 128 + 128 := by decide
theorem or128 (y : Nat) : bits .or .u8 ((y : Int) % 256) 128 = ((y % 128 + 128 : Nat) : Int) := by
  have h := u8_or_nat (y % 256) 128 (by omega) (by omega)
  rw [or128_dec _ (by omega)] at h
  have e : ((y % 256 : Nat) : Int) = (y : Int) % 256 := by omega
  rw [← e, show (128 : Int) = ((128 : Nat) : Int) by rfl, h]
  congr 1
  omega
theorem bt_more (y : Nat) : bt (UInt8.ofNat (y % 128 + 128)) = .int .u8 ((y % 128 + 128 : Nat) : Int) := by
  unfold bt
  rw [UInt8.toNat_ofNat']
  congr 1
  omega
theorem bt_last {y : Nat} (h : y < 128) : bt (UInt8.ofNat y) = .int .u8 (y : Int) := by
  unfold bt
  rw [UInt8.toNat_ofNat']
  congr 1
  omega
set_option maxHeartbeats 1600000 in
theorem appU_any (A : Option Addr) (n c B : Nat) (bs : List UInt8) (hl : bs.length = n) (hn : n ≤ 100000000) (x : Nat) (hx : x < 18446744073709551616) (w : World) (hr : Rd w B A (bv bs)) (hB : B ≤ w.heap.size) :
    Calls Try.prog 40 #[.slice A n c, .int .u64 (x : Int)] w fun e w' => ∃ v, e = .returned v ∧ w'.ownsRow w.heap.size 5 1 v (n + (uv x).length) (bv (bs ++ uv x)) ∧ Below w.heap.size w w' := by
  have HL := Lib.hid hl; clear hl
  have HR := Lib.hid hr; clear hr
  have HX := Lib.hid hx; clear hx
  go_enter Try.func40, Try.ntmps40
  go_wp2_with (at_builtin; refine wpList_app styB (.const (.slice none 0 0)) (.tmp 6) rfl rfl w.heap.size (World.ownsRow_nil w _ _ _) rfl n c HR.out rfl (by rw [bv_length, HL.out]; omega) (bv_one _) (by unfold maxLen; omega) (by omega) (Nat.le_refl _) ?_; intro v1 w1 own1 gr1 nil1 at1)
  have HB : Hid (Below w.heap.size w w1) := Lib.hid ((Below.refl _ _).grown gr1 (Nat.le_refl _) (by simp [Value.ownBlock]))
  have HO : Hid (w1.ownsRow w.heap.size 5 1 v1 (n + ([] : List UInt8).length) (bv (bs ++ []))) := Lib.hid (own_eq own1 (by simp) (by simp))
  clear own1 gr1 nil1 at1
  go_loopw [1, 5] (fun s1 s5 wr => ∃ (y : Nat) (pre : List UInt8), s1 = .int .u64 (y : Int) ∧ Hid (uv x = pre ++ uv y ∧ y < 18446744073709551616) ∧ Hid (wr.ownsRow w.heap.size 5 1 s5 (n + pre.length) (bv (bs ++ pre))) ∧ Hid (Below w.heap.size w wr)) (fun s1 _ _ => (intOf s1).toNat)
  case atStart => exact ⟨x, [], rfl, Lib.hid ⟨rfl, HX.out⟩, HO, HB⟩
  case round =>
    clear HO HB
    obtain ⟨y, pre, rfl, HY, OW, B2⟩ := hrel
    obtain ⟨w2, rfl⟩ : ∃ x, x = wr := ⟨_, rfl⟩
    have hy := HY.out.2
    have hpl : pre.length ≤ 10 := by
      have h1 := congrArg List.length HY.out.1
      have h2 := uv_len10 HX.out
      rw [List.length_append] at h1
      omega
    obtain ⟨A5, c5, rfl, -, -⟩ := own_sl OW.out
    by_cases hge : 128 ≤ y
    · have i1 : (128 : Int) ≤ (y : Int) := by omega
      have e1 := or128 y
      have hs2 := B2.out.size
      have HU := Lib.hid (uv_ge (show ¬ y < 128 by omega))
      go_wp2_with (at_builtin; refine wpList_app styB (.tmp 12) (.tmp 16) rfl rfl w.heap.size (OW.out.alloc _) rfl 1 1 (rd_frC _ _ _ _) rfl rfl (by simp [Value.oneCell']) (by unfold maxLen; omega) (by omega) (by rw [World.size_alloc]; omega) ?_; intro v5 w5 own5 gr5 nil5 at5; obtain ⟨A6, c6, rfl, -, -⟩ := own_sl own5)
      have B5 := Lib.hid ((B2.out.alloc hs2 _).grown gr5 (by rw [World.size_alloc]; omega) (fun g e => (OW.out.lt g e).1))
      have O5 : Hid (w5.ownsRow w.heap.size 5 1 (.slice A6 (n + pre.length + 1) c6) (n + (pre ++ [UInt8.ofNat (y % 128 + 128)]).length) (bv (bs ++ (pre ++ [UInt8.ofNat (y % 128 + 128)])))) := Lib.hid (own_eq own5 (by rw [List.length_append]; simp only [List.length_cons, List.length_nil]; omega) (by rw [← List.append_assoc, bv_append (bs ++ pre)]; simp only [bv, List.map_cons, List.map_nil, bt_more]; rw [show ((y % 128 + 128 : Nat) : Int) = (y : Int) % 128 + 128 by omega]))
      have H5 : Hid (uv x = (pre ++ [UInt8.ofNat (y % 128 + 128)]) ++ uv (y / 128) ∧ y / 128 < 18446744073709551616) := Lib.hid ⟨by rw [HY.out.1, HU.out]; simp, by omega⟩
      clear own5 gr5 nil5 at5 HU
      go_roundw
      case rel => exact ⟨y / 128, _, by simp, H5, O5, B5⟩
      case measure => simp [intOf]; omega
    · have i1 : ¬ (128 : Int) ≤ (y : Int) := by omega
      have e1 : (y : Int) % 256 = (y : Int) := by omega
      have hs2 := B2.out.size
      have HU := Lib.hid (uv_lt (show y < 128 by omega))
      have HBT := Lib.hid (bt_last (show y < 128 by omega))
      go_wp2_with (at_builtin; refine wpList_app styB (.tmp 18) (.tmp 21) rfl rfl w.heap.size (OW.out.alloc _) rfl 1 1 (rd_frC _ _ _ _) rfl rfl (by simp [Value.oneCell']) (by unfold maxLen; omega) (by omega) (by rw [World.size_alloc]; omega) ?_; intro v5 w5 own5 gr5 nil5 at5; obtain ⟨A6, c6, rfl, -, -⟩ := own_sl own5)
      have B5 := Lib.hid ((B2.out.alloc hs2 _).grown gr5 (by rw [World.size_alloc]; omega) (fun g e => (OW.out.lt g e).1))
      go_ret
      exact ⟨_, rfl, own_eq own5 (by rw [HY.out.1, HU.out, List.length_append]; simp only [List.length_cons, List.length_nil]; omega) (by rw [HY.out.1, HU.out, ← List.append_assoc, bv_append (bs ++ pre)]; simp only [bv, List.map_cons, List.map_nil]; rw [HBT.out]), B5.out⟩
end Go.Proofs.Ytmcpjpkidcbgiaa
