/- Walks: letters copied by slices.Clone. -/
import Derived.Test.YtlpdihcgdgkkbaaSf
namespace Go.Proofs.Ytlpdihcgdgkkbaa
open Go.RowKit Go.St
set_option linter.unusedVariables false
set_option linter.unusedSimpArgs false
set_option maxRecDepth 100000

theorem styL : STy Try.prog 58 51 4 48 (.agg #[.int .i64 0, .int .i64 0, .int .i64 0, .slice none 0 0]) := ⟨Try.underlying58, ⟨_, rfl, by kernel_rfl, by kernel_rfl, by kernel_rfl⟩, rfl, by decide⟩
set_option maxHeartbeats 800000 in
theorem lclone_any (A : Option Addr) (n c B : Nat) (cs : List Value) (hl : cs.length = n * 4) (h1 : ∀ u ∈ cs, u.oneCell' = true) (hn : n ≤ 100000) (w : World) (hr : Rd w B A cs) (hB : B ≤ w.heap.size) :
    Calls Try.prog 83 #[.slice A n c] w fun e w' => ∃ v, e = .returned v ∧ w'.ownsRow w.heap.size 51 4 v n cs ∧ Below w.heap.size w w' := by
  cases A with
  | none =>
    have h0 : cs = [] := by
      cases cs with
      | nil => rfl
      | cons x r =>
        obtain ⟨_, _, e, _⟩ := hr.at_ (i := 0) (v := x) rfl
        cases e
    subst h0
    have hq := fun W => Lib.run_eql_slice_nil (P := Try.prog) W 58 51 none n c 0 0 Try.underlying58
    have hn0 : n = 0 := by simp at hl; omega
    subst hn0
    clear hr hl h1
    go_enter Try.func83, Try.ntmps83
    go_wp2
    go_ret
    exact ⟨_, rfl, ⟨rfl, .inl ⟨rfl, rfl⟩⟩, Below.refl _ _⟩
  | some a =>
    have HR := Lib.hid hr; have HL := Lib.hid hl; have H1 := Lib.hid h1
    have hq := fun W => Lib.run_eql_slice_nil (P := Try.prog) W 58 51 (some a) n c 0 0 Try.underlying58
    clear hr hl h1
    go_enter Try.func83, Try.ntmps83
    go_wp2_with (at_builtin; refine wpList_app styL (.tmp 5) (.tmp 6) rfl rfl w.heap.size (World.ownsRow_lit w #[] 0 (Nat.le_refl _) (by decide) rfl) rfl n c (HR.out.alloc hB _) rfl HL.out H1.out (by unfold maxLen; omega) (by omega) (by simp) ?_; intro v1 w1 own1 gr1 nil1 at1)
    have hb1 : Hid (Below w.heap.size w w1) := ((Below.refl _ _).alloc (Nat.le_refl _) _).grown gr1 (by simp) (by simp [Value.ownBlock])
    go_ret
    exact ⟨_, rfl, own_eq own1 (by omega) (by simp), hb1.out⟩
end Go.Proofs.Ytlpdihcgdgkkbaa
