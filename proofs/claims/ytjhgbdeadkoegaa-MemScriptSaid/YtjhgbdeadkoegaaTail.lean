/- A region that draws its order: all but its last operations only read; the world behind the draw under one name. -/
import Derived.StillTailTactics
import Derived.Lib.QuietBelow
import Derived.WalkKit
import Derived.Deep.RegionHeld
import Derived.Test.YtjhgbdeadkoegaaQTail
namespace Go.St
open Go.RowKit

theorem wp_tail {P : Program} {id : Nat} {Q : Exit → Act → World → Prop} {a : Act} {w : World} {l : List Oper} (n : Nat) (hm : P.follows .mixedOrders = true) (hB : Region.lexTailB .any l.toArray n = true)
    (h : ∀ W : World, (∀ p, W.cell? p = w.cell? p) → (∀ p, W.frozen? p = w.frozen? p) → W.heap.size = w.heap.size → (∀ B w0, Below B w0 w → Below B w0 W) → wpStill P l.toArray W (fun a' => wpList P l.toArray Q (l.drop n) a' W) (l.take n) a) : (Code.region id l.toArray true).wp P Q a w :=
  wp_region_still_tail n hm hB (h { w with drawn := w.drawn + 1 } (fun _ => rfl) (fun _ => rfl) rfl (fun _ _ h => ⟨h.os, h.tape, h.output, h.size, h.block⟩))

theorem Below.goq {B : Nat} {w W : World} (h : Below B w W) (d : Nat) (os : Array Obj) (hB : B ≤ W.heap.size) : Below B w (Go.Sort.grow (redrawn W d) os) := h.trans ((below_regrown W d os).mono hB)
/-- A store into another block, unconditionally. -/
theorem far_store {p q : Nat} (h : p ≠ q) : ∀ (W : World) (i j : Nat) (v : Value), (W.setCell ⟨p, i, none⟩ v).cell? ⟨q, j, none⟩ = W.cell? ⟨q, j, none⟩ := fun W i j v => World.cell?_setCell_far W ⟨p, i, none⟩ ⟨q, j, none⟩ v h
theorem ret_pair {a b v : Value} (h : a = b) : Ending.returned (.tuple #[v, a]) = .returned (.tuple #[v, b]) := by rw [h]
end Go.St
