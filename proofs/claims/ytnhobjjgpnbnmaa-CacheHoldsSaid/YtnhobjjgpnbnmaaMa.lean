/- A read cache in its block, its marks in a block of their own; what is not touched. -/
import Derived.Test.YtnhobjjgpnbnmaaR0
import Derived.Test.YtnhobjjgpnbnmaaMm
import Derived.Test.YtnhobjjgpnbnmaaCut
import Derived.Test.YtnhobjjgpnbnmaaOpen
import Derived.Deep.RegionHeld3
namespace Go.Proofs.Ytnhobjjgpnbnmaa
open Go.RowKit Go.St
set_option linter.unusedVariables false
set_option linter.unusedSimpArgs false
set_option maxRecDepth 100000

/-- Only a block and a row's block may have changed. -/
structure Fr (b : Nat) (row : Option Nat) (w w' : World) : Prop where
  os : w'.os = w.os
  tape : w'.tape = w.tape
  output : w'.output = w.output
  size : w.heap.size ≤ w'.heap.size
  block : ∀ k, k < w.heap.size → k ≠ b → row ≠ some k → w'.heap[k]? = w.heap[k]?
theorem Fr.of_below {b : Nat} {row : Option Nat} {w w' : World} (h : Below w.heap.size w w') : Fr b row w w' := ⟨h.os, h.tape, h.output, h.size, fun k hk _ _ => h.block k hk⟩
theorem Fr.refl (b : Nat) (row : Option Nat) (w : World) : Fr b row w w := Fr.of_below (Below.refl _ _)
theorem Fr.trans {b : Nat} {row row' : Option Nat} {x y z : World} (h : Fr b row x y) (k : Fr b row' y z) (hr : row' = row ∨ ∀ g, row' = some g → x.heap.size ≤ g) : Fr b row x z :=
  ⟨k.os.trans h.os, k.tape.trans h.tape, k.output.trans h.output, Nat.le_trans h.size k.size, fun i hi hb hg => (k.block i (Nat.lt_of_lt_of_le hi h.size) hb (by
    rcases hr with rfl | hr
    · exact hg
    · intro e
      have := hr i e
      omega)).trans (h.block i hi hb hg)⟩
theorem Fr.below {b : Nat} {row : Option Nat} {x w w' : World} (h : Fr b row x w) (k : Below w.heap.size w w') : Fr b row x w' := h.trans (Fr.of_below (row := row) k) (.inl rfl)
theorem Fr.pre {b : Nat} {row : Option Nat} {x w w' : World} (h : Below x.heap.size x w) (k : Fr b row w w') : Fr b row x w' := (Fr.of_below h).trans k (.inl rfl)
/-- The new block of x may change too. -/
theorem Fr.sub {b b' : Nat} {row row' : Option Nat} {x y z : World} (h : Below x.heap.size x y) (k : Fr b' row' y z) (hb : b' = b ∨ x.heap.size ≤ b') (hr : row' = row ∨ ∀ g, row' = some g → x.heap.size ≤ g) : Fr b row x z :=
  ⟨k.os.trans h.os, k.tape.trans h.tape, k.output.trans h.output, Nat.le_trans h.size k.size, fun i hi hn hg => (k.block i (Nat.lt_of_lt_of_le hi h.size) (by omega) (by
    rcases hr with rfl | hr
    · exact hg
    · intro e
      have := hr i e
      omega)).trans (h.block i hi)⟩
theorem Fr.setCell {b : Nat} {row : Option Nat} {x w : World} (h : Fr b row x w) {p : Addr} (hp : p.block = b ∨ row = some p.block ∨ x.heap.size ≤ p.block) (u : Value) : Fr b row x (w.setCell p u) := by
  refine ⟨h.os, h.tape, h.output, by simpa [World.setCell] using h.size, fun k hk hb hg => (Below.heap_setCell _ _ _ _ ?_).trans (h.block k hk hb hg)⟩
  rcases hp with h1 | h1 | h1
  · omega
  · intro e; subst e; exact hg h1
  · omega
theorem Fr.grown {b : Nat} {row row' : Option Nat} {x w w' : World} (h : Fr b row x w) (hg : w.grownBy w' row') (hr : row' = row ∨ row' = none ∨ ∀ g, row' = some g → x.heap.size ≤ g) : Fr b row x w' :=
  ⟨hg.os.trans h.os, hg.tape.trans h.tape, hg.output.trans h.output, Nat.le_trans h.size hg.size, fun k hk hb hn => (hg.block k (Nat.lt_of_lt_of_le hk h.size) (by
    intro e
    rcases hr with rfl | rfl | hr
    · exact hn e.symm
    · cases e
    · have := hr k e.symm; omega)).trans (h.block k hk hb hn)⟩
theorem Fr.cell {b : Nat} {row : Option Nat} {w w' : World} (h : Fr b row w w') {p : Addr} (hp : p.block < w.heap.size) (hb : p.block ≠ b) (hr : row ≠ some p.block) : w'.cell? p = w.cell? p := World.cell?_of_block (w := w) (h.block p.block hp hb hr)
theorem Fr.frozen {b : Nat} {row : Option Nat} {w w' : World} (h : Fr b row w w') {p : Addr} (hp : p.block < w.heap.size) (hb : p.block ≠ b) (hr : row ≠ some p.block) : w'.frozen? p = w.frozen? p := World.frozen?_of_block (w := w) (h.block p.block hp hb hr)
theorem Fr.to_below {b B : Nat} {row : Option Nat} {w w' : World} (h : Fr b row w w') (hB : B ≤ w.heap.size) (hb : B ≤ b) (hr : ∀ g, row = some g → B ≤ g) : Below B w w' :=
  ⟨h.os, h.tape, h.output, h.size, fun k hk => h.block k (by omega) (by omega) (fun e => by have := hr k e; omega)⟩

/-- A mark's cells. -/
def mkCells (m : Mk) : List Value := [.string m.f, .string m.t, .int .i64 m.a.wall, .int .i32 m.a.logic, .int .i32 m.a.tag, .int .i32 m.nd, .int .i32 m.nu]
def mkV (m : Mk) : Value := .agg #[.string m.f, .string m.t, .int .i64 m.a.wall, .int .i32 m.a.logic, .int .i32 m.a.tag, .int .i32 m.nd, .int .i32 m.nu]
def mv (l : List Mk) : List Value := (l.map mkCells).flatten
theorem mv_length (l : List Mk) : (mv l).length = l.length * 7 := by
  unfold mv
  induction l with
  | nil => rfl
  | cons x l ih => simp only [List.map_cons, List.flatten_cons, List.length_append, ih, List.length_cons]; simp [mkCells]; omega
theorem mv_append (a b : List Mk) : mv (a ++ b) = mv a ++ mv b := by simp [mv]
theorem mv_one (l : List Mk) : ∀ u ∈ mv l, u.oneCell' = true := by
  intro u hu
  simp only [mv, List.mem_flatten, List.mem_map] at hu
  obtain ⟨c, ⟨m, _, rfl⟩, hu⟩ := hu
  simp [mkCells] at hu
  rcases hu with rfl | rfl | rfl | rfl | rfl | rfl | rfl <;> rfl
theorem mv_get (l : List Mk) (j i : Nat) (m : Mk) (v : Value) (hj : l[j]? = some m) (hv : (mkCells m)[i]? = some v) : (mv l)[j * 7 + i]? = some v :=
  flatten_get (n := 7) (l.map mkCells) (fun c hc => by obtain ⟨x, _, rfl⟩ := List.mem_map.1 hc; rfl) j i (mkCells m) v (by rw [List.getElem?_map, hj]; rfl) hv
theorem styM : STy Try.prog 56 63 7 56 (.agg #[.string { data := #[] }, .string { data := #[] }, .int .i64 0, .int .i32 0, .int .i32 0, .int .i32 0, .int .i32 0]) := ⟨Try.underlying56, ⟨_, rfl, by kernel_rfl, by kernel_rfl, by kernel_rfl⟩, rfl, by decide⟩
theorem styR : STy Try.prog 70 74 7 56 (.agg #[.string { data := #[] }, .string { data := #[] }, .int .i64 0, .int .i32 0, .int .i32 0, .int .i32 0, .int .i32 0]) := ⟨Try.underlying70, ⟨_, rfl, by kernel_rfl, by kernel_rfl, by kernel_rfl⟩, rfl, by decide⟩
/-- A cache at block b, its marks' slice v. -/
structure CaB (E : TypeId) (W : World) (base b : Nat) (v : Value) (s : Stp) (l : List Mk) : Prop where
  lt : b < W.heap.size
  lo : base ≤ b
  fz : ∀ o, W.frozen? ⟨b, o, none⟩ = false
  c0 : W.cell? ⟨b, 0, none⟩ = some (.bool true)
  c1 : W.cell? ⟨b, 1, none⟩ = some (.int .i64 s.wall)
  c2 : W.cell? ⟨b, 2, none⟩ = some (.int .i32 s.logic)
  c3 : W.cell? ⟨b, 3, none⟩ = some (.int .i32 s.tag)
  c4 : W.cell? ⟨b, 4, none⟩ = some v
  own : W.ownsRow base E 7 v l.length (mv l)
  ne : v.ownBlock ≠ some b
  len : l.length ≤ 1025
theorem CaB.fr {E : TypeId} {W W' : World} {base b : Nat} {v : Value} {s : Stp} {l : List Mk} (h : CaB E W base b v s l) {b' : Nat} {row : Option Nat} (hf : Fr b' row W W') (h1 : b ≠ b') (h2 : row ≠ some b) (h3 : v.ownBlock ≠ some b') (h4 : v.ownBlock = none ∨ v.ownBlock ≠ row) : CaB E W' base b v s l := by
  have hc := fun o => hf.cell (p := ⟨b, o, none⟩) h.lt h1 h2
  have hz := fun o => hf.frozen (p := ⟨b, o, none⟩) h.lt h1 h2
  refine ⟨Nat.lt_of_lt_of_le h.lt hf.size, h.lo, fun o => (hz o).trans (h.fz o), (hc 0).trans h.c0, (hc 1).trans h.c1, (hc 2).trans h.c2, (hc 3).trans h.c3, (hc 4).trans h.c4, ?_, h.ne, h.len⟩
  refine ⟨h.own.1, ?_⟩
  rcases h.own.2 with hn | ⟨g, cap, cur, e0, hg, hh, rest⟩
  · exact .inl hn
  · refine .inr ⟨g, cap, cur, e0, hg, ?_, rest⟩
    subst e0
    have hlt := (h.own.lt g rfl).2
    rw [hf.block g hlt (fun e => h3 (by rw [← e]; rfl)) (fun e => by
      rcases h4 with h4 | h4
      · cases h4
      · exact h4 e.symm)]
    exact hh
theorem CaB.next {E : TypeId} {W W' : World} {base b : Nat} {v : Value} {s : Stp} {l : List Mk} (h : CaB E W base b v s l) (hb : Below W.heap.size W W') : CaB E W' base b v s l := by
  have hc := fun o => hb.cell (p := ⟨b, o, none⟩) h.lt
  have hz := fun o => hb.frozen (p := ⟨b, o, none⟩) h.lt
  exact ⟨Nat.lt_of_lt_of_le h.lt hb.size, h.lo, fun o => (hz o).trans (h.fz o), (hc 0).trans h.c0, (hc 1).trans h.c1, (hc 2).trans h.c2, (hc 3).trans h.c3, (hc 4).trans h.c4, own_keep h.own hb (Nat.le_refl _), h.ne, h.len⟩
/-- What the marks' slice is. -/
theorem CaB.row {E : TypeId} {W : World} {base b : Nat} {v : Value} {s : Stp} {l : List Mk} (h : CaB E W base b v s l) : ∃ A c, v = .slice A l.length c ∧ l.length ≤ c ∧ c ≤ maxLen ∧ Rd W W.heap.size A (mv l) := by
  rcases h.own.2 with ⟨hv, h0⟩ | ⟨g, cap, cur, e0, _, _, h1, h2, _⟩
  · have : l = [] := List.eq_nil_of_length_eq_zero h0
    subst this hv
    exact ⟨none, 0, rfl, Nat.le_refl _, Nat.zero_le _, Rd.nil⟩
  · subst e0
    refine ⟨_, cap, rfl, h1, h2, fun hn => ⟨g, 0, rfl, (h.own.lt g rfl).2, fun i u hu => ?_⟩⟩
    have := h.own.cells (g := g) rfl i u hu
    unfold Addr.add at this
    split at this
    · rename_i hi; subst hi; simpa using this
    · simpa using this
end Go.Proofs.Ytnhobjjgpnbnmaa
