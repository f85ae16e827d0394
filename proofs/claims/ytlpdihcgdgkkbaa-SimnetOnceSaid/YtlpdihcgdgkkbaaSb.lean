/- Walks: a net that is made. -/
import Derived.Test.YtlpdihcgdgkkbaaSa
namespace Go.Proofs.Ytlpdihcgdgkkbaa
open Go.RowKit Go.St
set_option linter.unusedVariables false
set_option linter.unusedSimpArgs false
set_option maxRecDepth 100000

/-- A net in a block: its nodes, its last number, its letters' slice; it may be written. -/
structure NetB (W : World) (b : Nat) (nodes last : Int) (A : Option Addr) (n c : Nat) : Prop where
  lt : b < W.heap.size
  fz : ∀ o, W.frozen? ⟨b, o, none⟩ = false
  c0 : W.cell? ⟨b, 0, none⟩ = some (.int .i64 nodes)
  c1 : W.cell? ⟨b, 1, none⟩ = some (.int .i64 last)
  c2 : W.cell? ⟨b, 2, none⟩ = some (.slice A n c)
theorem NetB.next {W W' : World} {b : Nat} {nodes last : Int} {A : Option Addr} {n c : Nat} (h : NetB W b nodes last A n c) (hb : Below W.heap.size W W') : NetB W' b nodes last A n c :=
  ⟨Nat.lt_of_lt_of_le h.lt hb.size, fun o => (hb.frozen (p := ⟨b, o, none⟩) h.lt).trans (h.fz o), (hb.cell (p := ⟨b, 0, none⟩) h.lt).trans h.c0, (hb.cell (p := ⟨b, 1, none⟩) h.lt).trans h.c1, (hb.cell (p := ⟨b, 2, none⟩) h.lt).trans h.c2⟩
theorem snew_no (k : Int) (hk : k < 1 ∨ 7 < k) (w : World) : Calls Try.prog 34 #[.int .i64 k] w fun e w' => e = .returned (.tuple #[.pointer none, .int .i64 2]) ∧ w = w' := by
  rcases hk with h | h
  · go_enter Try.func34, Try.ntmps34
    go_wp2
    go_ret2
    exact ⟨rfl, rfl⟩
  · go_enter Try.func34, Try.ntmps34
    go_wp2
    go_ret2
    exact ⟨rfl, rfl⟩
theorem snew_ok (k : Int) (h1 : 1 ≤ k) (h7 : k ≤ 7) (w : World) : Calls Try.prog 34 #[.int .i64 k] w fun e w' => e = .returned (.tuple #[.pointer (some ⟨w.heap.size, 0, none⟩), .int .i64 0]) ∧ NetB w' w.heap.size k 0 none 0 0 ∧ Below w.heap.size w w' := by
  have a1 : ¬ k < 1 := by omega
  have a7 : ¬ 7 < k := by omega
  go_enter Try.func34, Try.ntmps34
  go_wp2
  go_ret2
  refine ⟨rfl, ?_, by go_grown⟩
  constructor <;> first | (intro o; simp) | simp
end Go.Proofs.Ytlpdihcgdgkkbaa
