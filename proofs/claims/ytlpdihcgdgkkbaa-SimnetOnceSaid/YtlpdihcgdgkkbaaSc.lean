/- Walks: bytes copied by slices.Clone. -/
import Derived.Test.YtlpdihcgdgkkbaaSb
import Derived.Test.YtlpdihcgdgkkbaaKit
namespace Go.Proofs.Ytlpdihcgdgkkbaa
open Go.RowKit Go.St
set_option linter.unusedVariables false
set_option linter.unusedSimpArgs false
set_option maxRecDepth 100000

set_option maxHeartbeats 800000 in
theorem bclone_any (A : Option Addr) (n c B : Nat) (bs : List UInt8) (hl : bs.length = n) (hn : n ≤ 140737488351232) (w : World) (hr : Rd w B A (bv bs)) (hB : B ≤ w.heap.size) :
    Calls Try.prog 84 #[.slice A n c] w fun e w' => ∃ v, e = .returned v ∧ w'.ownsRow w.heap.size 5 1 v n (bv bs) ∧ Below w.heap.size w w' := by
  cases A with
  | none =>
    have h0 : bs = [] := by
      cases bs with
      | nil => rfl
      | cons x r =>
        obtain ⟨_, _, e, _⟩ := hr.at_ (bv_get (x :: r) 0 (by simp))
        cases e
    subst h0
    have hq := fun W => Lib.run_eql_slice_nil (P := Try.prog) W 22 5 none n c 0 0 Try.underlying22
    have hn0 : n = 0 := hl.symm
    subst hn0
    clear hr hl
    go_enter Try.func84, Try.ntmps84
    go_wp2
    go_ret
    exact ⟨_, rfl, ⟨rfl, .inl ⟨rfl, rfl⟩⟩, Below.refl _ _⟩
  | some a =>
    have HR := Lib.hid hr; have HL := Lib.hid hl
    have hq := fun W => Lib.run_eql_slice_nil (P := Try.prog) W 22 5 (some a) n c 0 0 Try.underlying22
    clear hr hl
    go_enter Try.func84, Try.ntmps84
    go_wp2_with (at_builtin; refine wpList_app sty22 (.tmp 5) (.tmp 6) rfl rfl w.heap.size (World.ownsRow_lit w #[] 0 (Nat.le_refl _) (by decide) rfl) rfl n c (HR.out.alloc hB _) rfl (by simp [bv, HL.out]) (by simp [bv, bt, Value.oneCell']) (by unfold maxLen; omega) (by omega) (by simp) ?_; intro v1 w1 own1 gr1 nil1 at1)
    have hb1 : Hid (Below w.heap.size w w1) := ((Below.refl _ _).alloc (Nat.le_refl _) _).grown gr1 (by simp) (by simp [Value.ownBlock])
    go_ret
    exact ⟨_, rfl, own_eq own1 (by omega) (by simp), hb1.out⟩
end Go.Proofs.Ytlpdihcgdgkkbaa
