/- The walk of frame.Each. -/
import Derived.Test.YtmfkngijgellhaaSc
namespace Go.Proofs.Ytmfkngijgellhaa
open Go.RowKit Go.St
set_option linter.unusedVariables false

theorem each_any (A : Option Addr) (n c B : Nat) (bs : List UInt8) (hl : bs.length = n) (hn : n ≤ 1000000) (w : World) (hr : Rd w B A (bv bs)) (hB : B ≤ w.heap.size) :
    Calls Try.prog 43 #[.slice A n c] w fun e w' => ∃ Bx A' c', e = .returned (.func (.func 49) #[] #[.pointer (some ⟨Bx, 0, none⟩)]) ∧ w.heap.size ≤ Bx ∧ Bx < w'.heap.size ∧ w'.cell? ⟨Bx, 0, none⟩ = some (.slice A' n c') ∧ n ≤ c' ∧ Rd w' w'.heap.size A' (bv bs) ∧ Below w.heap.size w w' := by
  have HL := Lib.hid hl; clear hl
  have HR := Lib.hid hr; clear hr
  go_enter Try.func43, Try.ntmps43
  go_wp2_with (at_builtin; refine wpList_app sty22 (.const (.slice none 0 0)) (.tmp 4) rfl rfl w.heap.size (World.ownsRow_nil _ _ _ _) rfl n c HR.out rfl (by rw [bv_length, HL.out]; omega) (bv_one _) (by unfold maxLen; omega) (by omega) (by simp) ?_; intro v1 w1 own1 gr1 nil1 at1; obtain ⟨A1, c1, rfl, hc1, _, rd1⟩ := own_rd4 own1)
  have hb1 : Below w.heap.size w w1 := (Below.refl _ _).grown gr1 (Nat.le_refl _) (by simp [Value.ownBlock])
  go_ret
  simp only [Nat.zero_add, List.nil_append] at hc1 rd1
  have q := World.cell?_alloc_mark w1 #[.slice A1 n c1] 22 (0, 0) 0
  refine ⟨w1.heap.size, rfl, hb1.size, by simp, A1, c1, q, hc1, (rd1.alloc (Nat.le_refl _) (.cells #[.slice A1 n c1] 22)).more (by simp), hb1.alloc hb1.size (.cells #[.slice A1 n c1] 22)⟩
end Go.Proofs.Ytmfkngijgellhaa
