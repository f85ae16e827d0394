/- Boxes: a block that holds the cells of one value; stores of whole values; rows that stay. -/
import Derived.Test.YtdmpimgbnhgiaaaZBase
import Derived.Laws.IdiomCopy

namespace Go.St
open Go.RowKit
set_option linter.unusedVariables false
set_option linter.unusedSimpArgs false

/-- A block that holds these cells. -/
structure BxV (W : World) (b : Nat) (xs : List Value) : Prop where
  lt : b < W.heap.size
  fz : ∀ o, W.frozen? ⟨b, o, none⟩ = false
  c : ∀ i v, xs[i]? = some v → W.cell? ⟨b, i, none⟩ = some v
theorem BxV.below {W W' : World} {b B : Nat} {xs : List Value} (h : BxV W b xs) (hb : Below B W W') (hB : b < B) : BxV W' b xs :=
  ⟨Nat.lt_of_lt_of_le h.lt hb.size, fun o => (hb.frozen (p := ⟨b, o, none⟩) hB).trans (h.fz o), fun i v hv => (hb.cell (p := ⟨b, i, none⟩) hB).trans (h.c i v hv)⟩
theorem BxV.next {W W' : World} {b : Nat} {xs : List Value} (h : BxV W b xs) (hb : Below W.heap.size W W') : BxV W' b xs := h.below hb h.lt
theorem BxV.alloc {W : World} {b : Nat} {xs : List Value} (h : BxV W b xs) (o : Obj) : BxV (W.alloc o) b xs := h.next ((Below.refl _ _).alloc (Nat.le_refl _) o)
theorem BxV.new (W : World) (C : Array Value) (t : TypeId) : BxV (W.alloc (.cells C t)) W.heap.size C.toList :=
  ⟨by simp, fun o => by simp, fun i v hv => by rw [World.cell?_alloc_mark]; simpa using hv⟩
theorem setCells_size (b : Nat) : ∀ (vs : List Value) (o : Nat) (w : World), (w.setCells b o vs).heap.size = w.heap.size
  | [], _, _ => rfl
  | v :: r, o, w => by rw [World.setCells, setCells_size b r]; simp
theorem setCells_heap (b k : Nat) (hk : k ≠ b) : ∀ (vs : List Value) (o : Nat) (w : World), (w.setCells b o vs).heap[k]? = w.heap[k]?
  | [], _, _ => rfl
  | v :: r, o, w => by rw [World.setCells, setCells_heap b k hk r]; exact Below.heap_setCell _ _ _ _ hk
theorem bel_setCells {B b : Nat} (hb : B ≤ b) {w0 : World} : ∀ (vs : List Value) (o : Nat) (w : World), Below B w0 w → Below B w0 (w.setCells b o vs)
  | [], _, _, h => h
  | v :: r, o, w, h => by rw [World.setCells]; exact bel_setCells hb r _ _ (h.setCell hb _)
theorem BxV.set {W : World} {b : Nat} {xs : List Value} (h : BxV W b xs) (ys : List Value) (hl : ys.length = xs.length) : BxV (W.setCells b 0 ys) b ys := by
  refine ⟨by rw [setCells_size]; exact h.lt, fun o => by rw [World.frozen?_setCells]; exact h.fz o, fun i v hv => ?_⟩
  have hi : i < ys.length := (List.getElem?_eq_some_iff.1 hv).1
  have := World.cell?_setCells_in b ys 0 W (fun j hj => by rw [Nat.zero_add, h.c j _ (List.getElem?_eq_getElem (by omega))]; rfl) i hi
  rw [Nat.zero_add] at this
  rw [this]
  first | exact hv | (rw [← hv]; simp [hi])
theorem BxV.other {W : World} {b p : Nat} {xs : List Value} (h : BxV W b xs) (hp : p ≠ b) (o : Nat) (ys : List Value) : BxV (W.setCells p o ys) b xs :=
  ⟨by rw [setCells_size]; exact h.lt, fun o => by rw [World.frozen?_setCells]; exact h.fz o, fun i v hv => by
    rw [World.cell?_setCells_out]
    · exact h.c i v hv
    · intro e
      exact absurd e.symm hp⟩
/-- A part of a value stored. -/
theorem BxV.mid {W : World} {b : Nat} {xs : List Value} (h : BxV W b xs) (o : Nat) (ys : List Value) (hl : o + ys.length ≤ xs.length) : BxV (W.setCells b o ys) b (xs.take o ++ ys ++ xs.drop (o + ys.length)) := by
  refine ⟨by rw [setCells_size]; exact h.lt, fun o => by rw [World.frozen?_setCells]; exact h.fz o, fun i v hv => ?_⟩
  have ht : (xs.take o).length = o := by rw [List.length_take]; omega
  rcases Nat.lt_or_ge i o with h1 | h1
  · rw [World.cell?_setCells_out b ys o W _ (fun _ _ => .inl h1)]
    rw [List.append_assoc, List.getElem?_append_left (by omega), List.getElem?_take, if_pos h1] at hv
    exact h.c i v hv
  · rcases Nat.lt_or_ge i (o + ys.length) with h2 | h2
    · rw [List.append_assoc, List.getElem?_append_right (by omega), ht, List.getElem?_append_left (by omega)] at hv
      have := World.cell?_setCells_in b ys o W (fun j hj => by rw [h.c (o + j) _ (List.getElem?_eq_getElem (by omega))]; rfl) (i - o) (by omega)
      rw [show o + (i - o) = i by omega] at this
      rw [this]
      first | exact hv | (rw [← hv]; simp [show i - o < ys.length by omega])
    · rw [World.cell?_setCells_out b ys o W _ (fun _ _ => .inr h2)]
      rw [List.getElem?_append_right (by rw [List.length_append]; omega), List.length_append, ht, List.getElem?_drop, show o + ys.length + (i - (o + ys.length)) = i by omega] at hv
      exact h.c i v hv
theorem ownsRow_of {W W' : World} {base n size : Nat} {e : TypeId} {v : Value} {xs : List Value} (h : W.ownsRow base e size v n xs) (hk : ∀ g, v.ownBlock = some g → W'.heap[g]? = W.heap[g]?) : W'.ownsRow base e size v n xs := by
  refine ⟨h.1, ?_⟩
  rcases h.2 with hn | ⟨g, cap, cur, e0, hg, hh, rest⟩
  · exact .inl hn
  · refine .inr ⟨g, cap, cur, e0, hg, ?_, rest⟩
    subst e0
    rw [hk g rfl]
    exact hh
theorem own_setCells {W : World} {base n size p : Nat} {e : TypeId} {v : Value} {xs : List Value} (h : W.ownsRow base e size v n xs) (hp : p < base) (o : Nat) (ys : List Value) : (W.setCells p o ys).ownsRow base e size v n xs :=
  ownsRow_of h (fun g hg => setCells_heap p g (by have := (h.lt g hg).1; omega) ys o W)
theorem own_base {w : World} {base base' : Nat} {e : TypeId} {size : Nat} {v : Value} {n : Nat} {xs : List Value} (h : w.ownsRow base e size v n xs) (hb : base' ≤ base) : w.ownsRow base' e size v n xs := by
  refine ⟨h.1, ?_⟩
  rcases h.2 with hn | ⟨g, cap, cur, e0, hg, rest⟩
  · exact .inl hn
  · exact .inr ⟨g, cap, cur, e0, Nat.le_trans hb hg, rest⟩
/-- A row as a slice; it reads. -/
theorem own_sl {w : World} {base : Nat} {e : TypeId} {v : Value} {n : Nat} {xs : List Value} {s : Nat} (h : w.ownsRow base e s v n xs) : ∃ A c, v = .slice A n c ∧ n ≤ c ∧ Rd w w.heap.size A xs := by
  rcases h.2 with ⟨rfl, rfl⟩ | ⟨g, cap, cur, rfl, _, _, h1, _⟩
  · have : xs = [] := List.eq_nil_of_length_eq_zero (by simpa using h.1)
    subst this
    exact ⟨none, 0, rfl, Nat.le_refl _, Rd.nil⟩
  · refine ⟨_, cap, rfl, h1, fun hn => ?_⟩
    have hlt := h.lt g rfl
    refine ⟨g, 0, rfl, hlt.2, fun i v hv => ?_⟩
    have := h.cells (g := g) rfl i v hv
    unfold Addr.add at this
    split at this
    · rename_i h0
      subst h0
      exact this
    · simpa using this
theorem rd_frC (w : World) (C : Array Value) (t : TypeId) (fr : Nat × Nat) : Rd (w.alloc (.cells C t fr)) (w.alloc (.cells C t fr)).heap.size (some ⟨w.heap.size, 0, none⟩) C.toList := fun _ => ⟨w.heap.size, 0, rfl, by simp, fun i u hu => by rw [World.cell?_alloc_mark, Nat.zero_add]; simpa using hu⟩
end Go.St
