/- Only one of the old blocks may have changed. -/
import Derived.WalkKit
import Derived.Below
import Derived.Deep.Draws
namespace Go.St
open Go.RowKit

structure Only (B b : Nat) (w w' : World) : Prop where
  os : w'.os = w.os
  tape : w'.tape = w.tape
  output : w'.output = w.output
  size : w.heap.size ≤ w'.heap.size
  block : ∀ k, k < B → k ≠ b → w'.heap[k]? = w.heap[k]?

theorem Only.refl (B b : Nat) (w : World) : Only B b w w := ⟨rfl, rfl, rfl, Nat.le_refl _, fun _ _ _ => rfl⟩
theorem Only.of_below {B b : Nat} {w w' : World} (h : Below B w w') : Only B b w w' := ⟨h.os, h.tape, h.output, h.size, fun k hk _ => h.block k hk⟩
theorem Only.trans {B b : Nat} {x y z : World} (h : Only B b x y) (k : Only B b y z) : Only B b x z :=
  ⟨k.os.trans h.os, k.tape.trans h.tape, k.output.trans h.output, Nat.le_trans h.size k.size, fun i hi hb => (k.block i hi hb).trans (h.block i hi hb)⟩
theorem Only.mono {B B' b : Nat} {w w' : World} (h : Only B b w w') (hB : B' ≤ B) : Only B' b w w' := ⟨h.os, h.tape, h.output, h.size, fun k hk => h.block k (Nat.lt_of_lt_of_le hk hB)⟩
theorem Only.alloc {B b : Nat} {x w : World} (h : Only B b x w) (hB : B ≤ w.heap.size) (o : Obj) : Only B b x (w.alloc o) :=
  h.trans (Only.of_below ((Below.refl _ _).alloc hB o))
theorem Only.setCell {B b : Nat} {x w : World} (h : Only B b x w) {p : Addr} (hp : p.block = b ∨ B ≤ p.block) (u : Value) : Only B b x (w.setCell p u) :=
  h.trans ⟨rfl, rfl, rfl, by simp [World.setCell], fun k hk hb => Below.heap_setCell _ _ _ _ (by omega)⟩
theorem Only.drew {B b : Nat} {x w : World} (h : Only B b x w) : Only B b x w.drew := ⟨h.os, h.tape, h.output, h.size, h.block⟩
theorem Only.drewN {B b : Nat} {x w : World} (h : Only B b x w) (n : Nat) : Only B b x (w.drewN n) := ⟨h.os, h.tape, h.output, h.size, h.block⟩
theorem Only.below {B b : Nat} {x w w' : World} (h : Only B b x w) (k : Below w.heap.size w w') (hB : B ≤ w.heap.size) : Only B b x w' := h.trans (Only.of_below (k.mono hB))
theorem Only.cell {B b : Nat} {w w' : World} (h : Only B b w w') {p : Addr} (hp : p.block < B) (hb : p.block ≠ b) : w'.cell? p = w.cell? p := World.cell?_of_block (w := w) (h.block p.block hp hb)
theorem Only.frozen {B b : Nat} {w w' : World} (h : Only B b w w') {p : Addr} (hp : p.block < B) (hb : p.block ≠ b) : w'.frozen? p = w.frozen? p := World.frozen?_of_block (w := w) (h.block p.block hp hb)
theorem Only.to_below {B b : Nat} {w w' : World} (h : Only B b w w') (hb : B ≤ b) : Below B w w' := ⟨h.os, h.tape, h.output, h.size, fun k hk => h.block k hk (by omega)⟩
theorem Below.onto {B b : Nat} {x w w' : World} (h : Below B x w) (k : Only w.heap.size b w w') (hb : B ≤ b) (hB : B ≤ w.heap.size) : Below B x w' := h.trans ((k.mono hB).to_below hb)
end Go.St
