/- Rows of one's own: where they lie. -/
import Derived.Test.YtdmpimgbnhgiaaaZBox

namespace Go.St
open Go.RowKit
set_option linter.unusedVariables false
theorem own_blkC {w : World} {base n cap size : Nat} {A : Option Addr} {e : TypeId} {xs : List Value} (h : w.ownsRow base e size (.slice A n cap) n xs) (hc : 0 < cap) : ∃ g, A = some ⟨g, 0, none⟩ := by
  rcases h.2 with ⟨h', _⟩ | ⟨g, cap', cur, h', _⟩
  · injection h' with e1 e2 e3
    omega
  · injection h' with e1 _
    exact ⟨g, e1⟩
theorem rd_grown {W W' : World} {A : Option Addr} {xs : List Value} {row : Option Nat} (h : Rd W W.heap.size A xs) (hg : W.grownBy W' row) (hne : ∀ g o, A = some ⟨g, o, none⟩ → row ≠ some g) : Rd W' W'.heap.size A xs := fun hn => by
  obtain ⟨b, o, e, hb, hc⟩ := h hn
  exact ⟨b, o, e, Nat.lt_of_lt_of_le hb hg.size, fun i v hv => (World.cell?_of_block (a := ⟨b, o + i, none⟩) (hg.block b hb (fun e2 => hne b o e e2.symm))).trans (hc i v hv)⟩
end Go.St
