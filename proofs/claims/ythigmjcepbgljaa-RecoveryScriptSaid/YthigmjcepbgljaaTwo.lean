/- Only two of the old blocks may have changed. -/
import Derived.WalkKit
import Derived.Below
import Derived.Deep.Draws
namespace Go.St
open Go.RowKit

structure Two (B b g : Nat) (w w' : World) : Prop where
  os : w'.os = w.os
  tape : w'.tape = w.tape
  output : w'.output = w.output
  size : w.heap.size ≤ w'.heap.size
  block : ∀ k, k < B → k ≠ b → k ≠ g → w'.heap[k]? = w.heap[k]?

theorem Two.refl (B b g : Nat) (w : World) : Two B b g w w := ⟨rfl, rfl, rfl, Nat.le_refl _, fun _ _ _ _ => rfl⟩
theorem Two.of_below {B b g : Nat} {w w' : World} (h : Below B w w') : Two B b g w w' := ⟨h.os, h.tape, h.output, h.size, fun k hk _ _ => h.block k hk⟩
theorem Two.trans {B b g : Nat} {x y z : World} (h : Two B b g x y) (k : Two B b g y z) : Two B b g x z :=
  ⟨k.os.trans h.os, k.tape.trans h.tape, k.output.trans h.output, Nat.le_trans h.size k.size, fun i hi hb hg => (k.block i hi hb hg).trans (h.block i hi hb hg)⟩
theorem Two.mono {B B' b g : Nat} {w w' : World} (h : Two B b g w w') (hB : B' ≤ B) : Two B' b g w w' := ⟨h.os, h.tape, h.output, h.size, fun k hk => h.block k (Nat.lt_of_lt_of_le hk hB)⟩
theorem Two.alloc {B b g : Nat} {x w : World} (h : Two B b g x w) (hB : B ≤ w.heap.size) (o : Obj) : Two B b g x (w.alloc o) :=
  h.trans (Two.of_below ((Below.refl _ _).alloc hB o))
theorem Two.setCell {B b g : Nat} {x w : World} (h : Two B b g x w) {p : Addr} (hp : p.block = b ∨ p.block = g ∨ B ≤ p.block) (u : Value) : Two B b g x (w.setCell p u) :=
  h.trans ⟨rfl, rfl, rfl, by simp [World.setCell], fun k hk hb hg => Below.heap_setCell _ _ _ _ (by omega)⟩
theorem Two.drewN {B b g : Nat} {x w : World} (h : Two B b g x w) (n : Nat) : Two B b g x (w.drewN n) := ⟨h.os, h.tape, h.output, h.size, h.block⟩
theorem Two.below {B b g : Nat} {x w w' : World} (h : Two B b g x w) (k : Below w.heap.size w w') (hB : B ≤ w.heap.size) : Two B b g x w' := h.trans (Two.of_below (k.mono hB))
theorem Two.cell {B b g : Nat} {w w' : World} (h : Two B b g w w') {p : Addr} (hp : p.block < B) (hb : p.block ≠ b) (hg : p.block ≠ g) : w'.cell? p = w.cell? p := World.cell?_of_block (w := w) (h.block p.block hp hb hg)
theorem Two.frozen {B b g : Nat} {w w' : World} (h : Two B b g w w') {p : Addr} (hp : p.block < B) (hb : p.block ≠ b) (hg : p.block ≠ g) : w'.frozen? p = w.frozen? p := World.frozen?_of_block (w := w) (h.block p.block hp hb hg)
theorem Two.to_below {B b g : Nat} {w w' : World} (h : Two B b g w w') (hb : B ≤ b) (hg : B ≤ g) : Below B w w' := ⟨h.os, h.tape, h.output, h.size, fun k hk => h.block k hk (by omega) (by omega)⟩
/-- A row that grows: its block is one of the two. -/
theorem Two.grown {B b g : Nat} {x w w' : World} (h : Two B b g x w) {row : Option Nat} (hg : w.grownBy w' row) (hB : B ≤ w.heap.size) (hr : ∀ k, row = some k → k = b ∨ k = g ∨ B ≤ k) : Two B b g x w' :=
  h.trans ⟨hg.os, hg.tape, hg.output, hg.size, fun k hk hb hgg => hg.block k (Nat.lt_of_lt_of_le hk hB) (fun e => by rcases hr k e.symm with h1 | h1 | h1 <;> omega)⟩
end Go.St
