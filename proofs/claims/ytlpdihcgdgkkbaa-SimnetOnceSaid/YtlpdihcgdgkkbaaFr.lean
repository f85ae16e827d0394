/- Only a block and a row's block of the old ones may have changed. -/
import Derived.Test.YtlpdihcgdgkkbaaBase
namespace Go.St
open Go.RowKit
set_option linter.unusedVariables false
set_option linter.unusedSimpArgs false

/-- Only a block and a row's block may have changed. -/
structure Fr (b : Nat) (row : Option Nat) (w w' : World) : Prop where
  os : w'.os = w.os
  tape : w'.tape = w.tape
  output : w'.output = w.output
  size : w.heap.size ≤ w'.heap.size
  block : ∀ k, k < w.heap.size → k ≠ b → row ≠ some k → w'.heap[k]? = w.heap[k]?
theorem Fr.of_below {b : Nat} {row : Option Nat} {w w' : World} (h : Below w.heap.size w w') : Fr b row w w' := ⟨h.os, h.tape, h.output, h.size, fun k hk _ _ => h.block k hk⟩
theorem Fr.refl (b : Nat) (row : Option Nat) (w : World) : Fr b row w w := Fr.of_below (Below.refl _ _)
theorem Fr.trans {b : Nat} {row row' : Option Nat} {x y z : World} (h : Fr b row x y) (k : Fr b row' y z) (hr : row' = row ∨ ∀ g, row' = some g → x.heap.size ≤ g) : Fr b row x z :=
  ⟨k.os.trans h.os, k.tape.trans h.tape, k.output.trans h.output, Nat.le_trans h.size k.size, fun i hi hb hg => (k.block i (Nat.lt_of_lt_of_le hi h.size) hb (by
    rcases hr with rfl | hr
    · exact hg
    · intro e
      have := hr i e
      omega)).trans (h.block i hi hb hg)⟩
theorem Fr.below {b : Nat} {row : Option Nat} {x w w' : World} (h : Fr b row x w) (k : Below w.heap.size w w') : Fr b row x w' := h.trans (Fr.of_below (row := row) k) (.inl rfl)
theorem Fr.pre {b : Nat} {row : Option Nat} {x w w' : World} (h : Below x.heap.size x w) (k : Fr b row w w') : Fr b row x w' := (Fr.of_below h).trans k (.inl rfl)
/-- The new block of x may change too. -/
theorem Fr.sub {b b' : Nat} {row row' : Option Nat} {x y z : World} (h : Below x.heap.size x y) (k : Fr b' row' y z) (hb : b' = b ∨ x.heap.size ≤ b') (hr : row' = row ∨ ∀ g, row' = some g → x.heap.size ≤ g) : Fr b row x z :=
  ⟨k.os.trans h.os, k.tape.trans h.tape, k.output.trans h.output, Nat.le_trans h.size k.size, fun i hi hn hg => (k.block i (Nat.lt_of_lt_of_le hi h.size) (by omega) (by
    rcases hr with rfl | hr
    · exact hg
    · intro e
      have := hr i e
      omega)).trans (h.block i hi)⟩
theorem Fr.setCell {b : Nat} {row : Option Nat} {x w : World} (h : Fr b row x w) {p : Addr} (hp : p.block = b ∨ row = some p.block ∨ x.heap.size ≤ p.block) (u : Value) : Fr b row x (w.setCell p u) := by
  refine ⟨h.os, h.tape, h.output, by simpa [World.setCell] using h.size, fun k hk hb hg => (Below.heap_setCell _ _ _ _ ?_).trans (h.block k hk hb hg)⟩
  rcases hp with h1 | h1 | h1
  · omega
  · intro e; subst e; exact hg h1
  · omega
theorem Fr.grown {b : Nat} {row row' : Option Nat} {x w w' : World} (h : Fr b row x w) (hg : w.grownBy w' row') (hr : row' = row ∨ row' = none ∨ ∀ g, row' = some g → x.heap.size ≤ g) : Fr b row x w' :=
  ⟨hg.os.trans h.os, hg.tape.trans h.tape, hg.output.trans h.output, Nat.le_trans h.size hg.size, fun k hk hb hn => (hg.block k (Nat.lt_of_lt_of_le hk h.size) (by
    intro e
    rcases hr with rfl | rfl | hr
    · exact hn e.symm
    · cases e
    · have := hr k e.symm; omega)).trans (h.block k hk hb hn)⟩
theorem Fr.cell {b : Nat} {row : Option Nat} {w w' : World} (h : Fr b row w w') {p : Addr} (hp : p.block < w.heap.size) (hb : p.block ≠ b) (hr : row ≠ some p.block) : w'.cell? p = w.cell? p := World.cell?_of_block (w := w) (h.block p.block hp hb hr)
theorem Fr.frozen {b : Nat} {row : Option Nat} {w w' : World} (h : Fr b row w w') {p : Addr} (hp : p.block < w.heap.size) (hb : p.block ≠ b) (hr : row ≠ some p.block) : w'.frozen? p = w.frozen? p := World.frozen?_of_block (w := w) (h.block p.block hp hb hr)
theorem Fr.to_below {b B : Nat} {row : Option Nat} {w w' : World} (h : Fr b row w w') (hB : B ≤ w.heap.size) (hb : B ≤ b) (hr : ∀ g, row = some g → B ≤ g) : Below B w w' :=
  ⟨h.os, h.tape, h.output, h.size, fun k hk => h.block k (by omega) (by omega) (fun e => by have := hr k e; omega)⟩

end Go.St
