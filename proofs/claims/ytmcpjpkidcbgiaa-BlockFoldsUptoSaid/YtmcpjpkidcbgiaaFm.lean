/- What fits a smaller bound fits a greater one. -/
import Derived.Test.YtmcpjpkidcbgiaaOpen
namespace Go.St
open Go.RowKit
set_option linter.unusedVariables false
theorem fits_more {P : Program} {w : World} {B N N' : Nat} (hN : N ≤ N') : ∀ (d : Nat) (t : TypeId) (cs : List Value), fits P w B N d t cs → fits P w B N' d t cs
  | 0, _, _, _ => trivial
  | d + 1, t, cs, h => by
    unfold fits at h ⊢
    cases hu : P.underlying t with
    | none => trivial
    | some u =>
      rw [hu] at h
      cases u with
      | string => obtain ⟨s, h1, h2⟩ := h; exact ⟨s, h1, Nat.le_trans h2 hN⟩
      | slice e =>
        obtain ⟨A, len, cap, h1, h2, h3, css, h4, h5, h6⟩ := h
        exact ⟨A, len, cap, h1, h2, Nat.le_trans h3 hN, css, h4, fun c hc => ⟨(h5 c hc).1, fits_more hN d e c (h5 c hc).2⟩, h6⟩
      | struct fs => exact ⟨h.1, fun i f hf => fits_more hN d _ _ (h.2 i f hf)⟩
      | array n e => exact ⟨h.1, fun i hi => fits_more hN d _ _ (h.2 i hi)⟩
      | _ => exact h
end Go.St
