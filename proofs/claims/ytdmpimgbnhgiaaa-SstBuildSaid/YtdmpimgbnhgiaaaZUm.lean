/- Plain model: how a table is built. -/
import Derived.Test.YtdmpimgbnhgiaaaZB
import Derived.Test.YtdmpimgbnhgiaaaZEt
import Derived.Test.YtdmpimgbnhgiaaaZUa

namespace Go.Proofs.Ytdmpimgbnhgiaaa
open Go.RowKit Go.St
set_option linter.unusedVariables false
set_option linter.unusedSimpArgs false
set_option maxRecDepth 100000

/-- The j-th of the pieces of p. -/
def chk (p : Nat) (l : List Ent) (j : Nat) : List Ent := (l.drop (j * p)).take p
def nch (p : Nat) (l : List Ent) : Nat := (l.length + p - 1) / p
def lstE (c : List Ent) : Ent := c.getLast?.getD Ent.z
def blkF (c : List Ent) : List UInt8 := frameL (encL c)
def ixE (c : List Ent) : List UInt8 := uv (blkF c).length ++ uv (lstE c).key.size ++ (lstE c).key.data.toList ++ uv (lstE c).seq.toNat
def outP (p : Nat) (l : List Ent) : Nat → List UInt8
  | 0 => []
  | j + 1 => outP p l j ++ blkF (chk p l j)
def idxP (p : Nat) (l : List Ent) : Nat → List UInt8
  | 0 => []
  | j + 1 => idxP p l j ++ ixE (chk p l j)
def keysE (l : List Ent) : List ByteArray := l.map Ent.key
def fltB (b : Nat) (l : List Ent) : List UInt8 := bof (brounds b) (bsize l.length b) (bl (keysE l))
def idxB (p : Nat) (l : List Ent) : List UInt8 := uv (nch p l) ++ idxP p l (nch p l)
def footB (a b n : Nat) : List UInt8 := le8 a ++ le8 b ++ le8 n
/-- A table's bytes. -/
def bldB (p b : Nat) (l : List Ent) : List UInt8 :=
  outP p l (nch p l) ++ frameL (fltB b l) ++ frameL (idxB p l) ++ frameL (footB (outP p l (nch p l)).length ((outP p l (nch p l)).length + (frameL (fltB b l)).length) l.length)
def bldE (per bits : Int) (l : List Ent) : Int :=
  if per < 1 ∨ 64 < per ∨ bits < 1 ∨ 16 < bits ∨ l.length = 0 then 2 else if l.all okE then (if risE l then 0 else 10) else 2
def bldL (per bits : Int) (l : List Ent) : List UInt8 := if bldE per bits l = 0 then bldB per.toNat bits.toNat l else []
theorem chk_len (p : Nat) (l : List Ent) (j : Nat) : (chk p l j).length = min p (l.length - j * p) := by unfold chk; rw [List.length_take, List.length_drop]
theorem nch_lt {p : Nat} (hp : 0 < p) (l : List Ent) (j : Nat) : j < nch p l ↔ j * p < l.length := by
  unfold nch
  rw [Nat.lt_div_iff_mul_lt hp]
  omega
theorem chk_get {p : Nat} {l : List Ent} {j i : Nat} {x : Ent} (h : (chk p l j)[i]? = some x) : i < p ∧ l[j * p + i]? = some x := by
  unfold chk at h
  rw [List.getElem?_take] at h
  split at h
  · rename_i hi
    rw [List.getElem?_drop] at h
    exact ⟨hi, h⟩
  · cases h
theorem chk_ok {p : Nat} {l : List Ent} (j : Nat) (hl : ∀ x ∈ l, okE x = true) : ∀ x ∈ chk p l j, okE x = true := fun x hx => by
  obtain ⟨i, hi⟩ := List.mem_iff_getElem?.1 hx
  exact hl x (List.mem_of_getElem? (chk_get hi).2)
theorem chk_ris {p : Nat} {l : List Ent} (j : Nat) (h : risE l = true) : risE (chk p l j) = true := by
  unfold risE at h ⊢
  rw [ris_iff] at h ⊢
  intro i a b ha hb
  have h1 := (chk_get ha).2
  have h2 := (chk_get hb).2
  exact h _ a b h1 (by rw [Nat.add_assoc]; exact h2)
theorem chk_chkL {p : Nat} {l : List Ent} {j : Nat} (hp : 1 ≤ p ∧ p ≤ 64) (hj : j * p < l.length) (hl : ∀ x ∈ l, okE x = true) : chkL (chk p l j) = if risE (chk p l j) then 0 else 10 := by
  have h1 := chk_len p l j
  unfold chkL
  rw [if_neg (by omega), if_neg (by omega), if_pos (List.all_eq_true.2 (chk_ok j hl))]
theorem blkF_len (c : List Ent) : (blkF c).length = (encL c).length + 12 := frameL_length _
theorem lstE_get {c : List Ent} {x : Ent} (h : c[c.length - 1]? = some x) : lstE c = x := by
  unfold lstE
  rw [List.getLast?_eq_getElem?, h]
  rfl
theorem lstE_mem {c : List Ent} (h : 0 < c.length) : lstE c ∈ c := by
  obtain ⟨x, hx⟩ : ∃ x, c[c.length - 1]? = some x := ⟨_, List.getElem?_eq_getElem (by omega)⟩
  rw [lstE_get hx]
  exact List.mem_of_getElem? hx
theorem ixE_len {c : List Ent} (h : 0 < c.length) (hl : ∀ x ∈ c, okE x = true) : (ixE c).length ≤ 550 := by
  obtain ⟨q1, q2, q3, q4, q5, q6⟩ := okE_b (hl _ (lstE_mem h))
  have e := encL_len c
  have e2 := blkF_len c
  have u1 := uv_len10 (x := (blkF c).length) (by omega)
  have u2 := uv_len10 (x := (lstE c).key.size) (by omega)
  have u3 := uv_len10 (x := (lstE c).seq.toNat) (by omega)
  have k1 : (lstE c).key.data.toList.length = (lstE c).key.size := by rw [Array.length_toList]; rfl
  unfold ixE
  rw [List.length_append, List.length_append, List.length_append, k1]
  omega
theorem outP_len (p : Nat) (l : List Ent) : ∀ j, (outP p l j).length ≤ j * 400012
  | 0 => by simp [outP]
  | j + 1 => by
    have h1 := outP_len p l j
    have h2 := encL_len (chk p l j)
    rw [outP, List.length_append, blkF_len]
    omega
theorem idxP_len {p : Nat} {l : List Ent} (hp : 1 ≤ p) (hl : ∀ x ∈ l, okE x = true) : ∀ j, j ≤ nch p l → (idxP p l j).length ≤ j * 550
  | 0, _ => by simp [idxP]
  | j + 1, hj => by
    have h1 := idxP_len hp hl j (by omega)
    have h3 := (nch_lt (p := p) (by omega) l j).1 (by omega)
    have h4 := chk_len p l j
    have h2 := ixE_len (c := chk p l j) (by omega) (chk_ok j hl)
    rw [idxP, List.length_append]
    omega
theorem nch_le {p : Nat} (hp : 1 ≤ p) (l : List Ent) : nch p l ≤ l.length := by
  rcases Nat.lt_or_ge l.length (nch p l) with h | h
  · have h1 := (nch_lt (p := p) (by omega) l l.length).1 h
    have : l.length ≤ l.length * p := Nat.le_mul_of_pos_right _ (by omega)
    omega
  · exact h
end Go.Proofs.Ytdmpimgbnhgiaaa
