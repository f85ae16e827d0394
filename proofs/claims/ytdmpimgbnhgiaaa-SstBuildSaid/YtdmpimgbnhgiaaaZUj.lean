/- Plain law: a table's index, piece by piece. -/
import Derived.Test.YtdmpimgbnhgiaaaZEh
import Derived.Test.YtdmpimgbnhgiaaaZEo
import Derived.Test.YtdmpimgbnhgiaaaZEt
import Derived.Test.YtdmpimgbnhgiaaaZUf
import Derived.Test.YtdmpimgbnhgiaaaZUh
import Derived.Laws.EntriesVeiled

namespace Go.Proofs.Ytdmpimgbnhgiaaa
open Go.RowKit Go.St Go.Shelf Go.Maps
set_option linter.unusedVariables false
set_option linter.unusedSimpArgs false
set_option maxRecDepth 100000

/-- The bytes that are left to read, in the box p. -/
structure IxS (w : World) (p : Nat) (A : Option Addr) (n c : Nat) (bs : List UInt8) : Prop where
  x : BxV w p [.slice A n c]
  rd : Rd w p A (bv bs)
  hl : bs.length = n
  nc : n ≤ c
  hn : n ≤ 100000000
  hc : c ≤ 9223372036854775807
theorem IxS.next {w w' : World} {p : Nat} {A : Option Addr} {n c : Nat} {bs : List UInt8} (h : IxS w p A n c bs) (hb : Below w.heap.size w w') : IxS w' p A n c bs :=
  ⟨h.x.next hb, h.rd.below (hb.mono (Nat.le_of_lt h.x.lt)), h.hl, h.nc, h.hn, h.hc⟩
theorem IxS.belowB {B : Nat} {w w' : World} {p : Nat} {A : Option Addr} {n c : Nat} {bs : List UInt8} (h : IxS w p A n c bs) (hb : Below B w w') (hB : p < B) : IxS w' p A n c bs :=
  ⟨h.x.below hb hB, h.rd.below (hb.mono (Nat.le_of_lt hB)), h.hl, h.nc, h.hn, h.hc⟩
theorem IxS.put {w : World} {p : Nat} {A : Option Addr} {n c : Nat} {bs : List UInt8} (h : IxS w p A n c bs) {b : Nat} (hb : p < b) (o : Nat) (v : Value) : IxS (w.setCell ⟨b, o, none⟩ v) p A n c bs :=
  ⟨bxv_far h.x (by omega) o v, h.rd.setCell (Nat.le_of_lt hb) _, h.hl, h.nc, h.hn, h.hc⟩
theorem IxS.cut {w : World} {p : Nat} {A A' : Option Addr} {n c k : Nat} {bs : List UInt8} (h : IxS w p A n c bs) (hk : k ≤ n) (hA : A' = if c = k then A else A.map (·.add k)) : IxS (w.setCell ⟨p, 0, none⟩ (.slice A' (n - k) (c - k))) p A' (n - k) (c - k) (bs.drop k) := by
  have n1 := h.nc
  have n2 := h.hn
  have n3 := h.hc
  refine ⟨bxv_put h.x 0 (by simp) _, ?_, by rw [List.length_drop, h.hl], by omega, by omega, by omega⟩
  have h1 := h.rd.drop k (cap := c) (by rw [bv_length, h.hl]; exact h.nc)
  rw [← hA] at h1
  have e : (bv bs).drop k = bv (bs.drop k) := by simp [bv]
  rw [e] at h1
  exact h1.setCell (Nat.le_refl _) _
theorem OthB.of_below {g : Nat} {w w' : World} (h : Below w.heap.size w w') : OthB w.heap.size g w w' := ⟨h.os, h.tape, h.output, h.size, fun b hb _ => h.block b hb⟩
theorem OthB.mono {z z' g : Nat} {w w' : World} (h : OthB z g w w') (hz : z' ≤ z) : OthB z' g w w' := ⟨h.os, h.tape, h.output, h.size, fun b hb hn => h.block b (by omega) hn⟩
theorem OthB.trans {z g : Nat} {w w' w'' : World} (h : OthB z g w w') (k : OthB z g w' w'') : OthB z g w w'' := ⟨k.os.trans h.os, k.tape.trans h.tape, k.output.trans h.output, Nat.le_trans h.size k.size, fun b hb hn => (k.block b hb hn).trans (h.block b hb hn)⟩
set_option maxHeartbeats 1600000 in
theorem ixsmall_any (lo most : Int) (hm : most ≤ 9223372036854775807) (x k p : Nat) (A : Option Addr) (n c : Nat) (bs : List UInt8) (hs : smU bs most = some (x, k)) (hlo : lo ≤ (x : Int)) (w : World) (H : IxS w p A n c bs) :
    Calls Try.prog 80 #[.int .i64 lo, .int .i64 most, .pointer (some ⟨p, 0, none⟩)] w fun e w' => e = .returned (.tuple #[.int .i64 (x : Int), .bool true]) ∧ (∃ A' c', IxS w' p A' (n - k) c' (bs.drop k)) ∧ OthB w.heap.size p w w' := by
  have HS := Lib.hid (small_any A n c p bs H.hl H.hn most hm w H.rd (Nat.le_of_lt H.x.lt))
  rw [smV_some hs] at HS
  have hx := (smU_sound hs).2.2
  have hu := rdU_sound (smU_sound hs).1
  have hkn : k ≤ n := by have := H.hl; omega
  have x1 : ¬ (x : Int) < lo := by omega
  have hc4 := H.x.c 0 _ rfl
  have hl := H.x.lt
  have HH := Lib.hid H
  clear H hs hu
  go_enter Try.func80, Try.ntmps80
  go_wp2_with fail
  refine HS.out.mono ?_
  rintro e w2 ⟨rfl, hb⟩
  have H2 := Lib.hid (HH.out.next hb)
  have T2 : Hid (OthB w.heap.size p w w2) := Lib.hid (OthB.of_below hb)
  clear hb hc4 HS HH hl
  have d4 := H2.out.x.c 0 _ rfl
  have hl := H2.out.x.lt
  have g4 := H2.out.x.fz
  have hnc := H2.out.nc
  have hcc := H2.out.hc
  have k0 : (0 : Int) ≤ (k : Int) := by omega
  have k1 : (k : Int) ≤ (n : Int) := by omega
  have k2 : (n : Int) ≤ (c : Int) := by omega
  have D := H2.out.cut hkn (A' := if c = k then A else A.map (·.add k)) rfl
  by_cases hck : c = k
  · rw [if_pos hck] at D
    subst hck
    obtain rfl : n = c := by omega
    have DD := Lib.hid D
    have TT := Lib.hid (T2.out.set 0 (.slice A (n - n) (n - n)))
    rw [Nat.sub_self] at DD TT
    clear D
    go_wp2_with fail
    go_ret2
    exact ⟨rfl, ⟨A, 0, by rw [Nat.sub_self]; exact DD.out⟩, TT.out⟩
  · rw [if_neg hck] at D
    have DD := Lib.hid D
    clear D
    go_wp2_with fail
    go_ret2
    exact ⟨rfl, ⟨_, _, DD.out⟩, T2.out.set 0 _⟩
end Go.Proofs.Ytdmpimgbnhgiaaa

namespace Go.Proofs.Ytdmpimgbnhgiaaa
open Go.RowKit Go.St Go.Shelf
set_option linter.unusedVariables false
set_option linter.unusedSimpArgs false
set_option maxRecDepth 100000

/-- The last entry of a piece, as the index has it. -/
def lxE (p : Nat) (l : List Ent) (j : Nat) : Ent := ⟨(lstE (chk p l j)).key, zB, (lstE (chk p l j)).seq, false⟩
def plE (p : Nat) (l : List Ent) (j : Nat) : List Value := [.int .i64 ((outP p l j).length : Nat), .int .i64 ((blkF (chk p l j)).length : Nat), .string (lstE (chk p l j)).key, .string zB, .int .i64 (lstE (chk p l j)).seq, .bool false]
def plv (p : Nat) (l : List Ent) : Nat → List Value
  | 0 => []
  | k + 1 => plv p l k ++ plE p l k
theorem plv_len (p : Nat) (l : List Ent) : ∀ k, (plv p l k).length = k * 6
  | 0 => rfl
  | k + 1 => by rw [plv, List.length_append, plv_len p l k]; show k * 6 + 6 = _; omega
theorem plv_get {p : Nat} {l : List Ent} {j i : Nat} {v : Value} (hv : (plE p l j)[i]? = some v) : ∀ k, j < k → (plv p l k)[j * 6 + i]? = some v
  | 0, h => by omega
  | k + 1, h => by
    have hi : i < 6 := (List.getElem?_eq_some_iff.1 hv).1
    have hl := plv_len p l k
    rw [plv]
    by_cases hjk : j < k
    · rw [List.getElem?_append_left (by omega)]
      exact plv_get hv k hjk
    · obtain rfl : j = k := by omega
      rw [List.getElem?_append_right (by omega), hl, show j * 6 + i - j * 6 = i by omega]
      exact hv
theorem plE_one (p : Nat) (l : List Ent) (j : Nat) : ∀ u ∈ plE p l j, u.oneCell' = true := by
  intro u hu
  unfold plE at hu
  simp only [List.mem_cons, List.not_mem_nil, or_false] at hu
  rcases hu with rfl | rfl | rfl | rfl | rfl | rfl <;> rfl
/-- A place where it lies. -/
structure PlI (w : World) (b o : Nat) (p : Nat) (l : List Ent) (j : Nat) : Prop where
  c0 : w.cell? ⟨b, o, none⟩ = some (.int .i64 ((outP p l j).length : Nat))
  c1 : w.cell? ⟨b, o + 1, none⟩ = some (.int .i64 ((blkF (chk p l j)).length : Nat))
  c2 : w.cell? ⟨b, o + 2, none⟩ = some (.string (lstE (chk p l j)).key)
  c3 : w.cell? ⟨b, o + 3, none⟩ = some (.string zB)
  c4 : w.cell? ⟨b, o + 4, none⟩ = some (.int .i64 (lstE (chk p l j)).seq)
  c5 : w.cell? ⟨b, o + 5, none⟩ = some (.bool false)
theorem pl_at {w : World} {B : Nat} {A : Option Addr} {p : Nat} {l : List Ent} {k : Nat} (h : Rd w B A (plv p l k)) {j : Nat} (hj : j < k) : ∃ b off, A = some ⟨b, off, none⟩ ∧ b < B ∧ PlI w b (off + j * 6) p l j := by
  have hl := plv_len p l k
  obtain ⟨b, off, e, hb, hc⟩ := h (fun e => by rw [e] at hl; simp at hl; omega)
  refine ⟨b, off, e, hb, ⟨?_, ?_, ?_, ?_, ?_, ?_⟩⟩
  all_goals (try rw [Nat.add_assoc])
  · exact hc _ _ (plv_get (i := 0) rfl k hj)
  · exact hc _ _ (plv_get (i := 1) rfl k hj)
  · exact hc _ _ (plv_get (i := 2) rfl k hj)
  · exact hc _ _ (plv_get (i := 3) rfl k hj)
  · exact hc _ _ (plv_get (i := 4) rfl k hj)
  · exact hc _ _ (plv_get (i := 5) rfl k hj)

/-- Where the last entry of a piece stands. -/
theorem lst_at {p : Nat} (hp : 1 ≤ p) {l : List Ent} {j : Nat} (hj : j < nch p l) : l[min ((j + 1) * p) l.length - 1]? = some (lstE (chk p l j)) := by
  have h3 := (nch_lt (p := p) (by omega) l j).1 hj
  have h4 := chk_len p l j
  obtain ⟨x, hx⟩ : ∃ x, (chk p l j)[(chk p l j).length - 1]? = some x := ⟨_, List.getElem?_eq_getElem (by omega)⟩
  rw [lstE_get hx]
  have := (chk_get hx).2
  rw [h4] at this
  have e : (j + 1) * p = j * p + p := by rw [Nat.add_mul, Nat.one_mul]
  rw [show min ((j + 1) * p) l.length - 1 = j * p + (min p (l.length - j * p) - 1) by rw [e]; omega]
  exact this
theorem lst_lt {p : Nat} (hp : 1 ≤ p) {l : List Ent} (hr : risE l = true) {i j : Nat} (hij : i < j) (hj : j < nch p l) : ltE (lstE (chk p l i)) (lstE (chk p l j)) = true := by
  have h3 := (nch_lt (p := p) (by omega) l j).1 hj
  refine risE_pw hr _ _ _ _ ?_ (lst_at hp (by omega : i < nch p l)) (lst_at hp hj)
  have e : (i + 1) * p ≤ j * p := Nat.mul_le_mul_right _ (by omega)
  have e1 : (j + 1) * p = j * p + p := by rw [Nat.add_mul, Nat.one_mul]
  have e2 : (i + 1) * p = i * p + p := by rw [Nat.add_mul, Nat.one_mul]
  rw [e1]
  omega
theorem lx_lt {p : Nat} (hp : 1 ≤ p) {l : List Ent} (hr : risE l = true) {i j : Nat} (hij : i < j) (hj : j < nch p l) : ltE (lxE p l i) (lxE p l j) = true := lst_lt hp hr hij hj
theorem lst_ok {p : Nat} (hp : 1 ≤ p) {l : List Ent} (hl : ∀ x ∈ l, okE x = true) {j : Nat} (hj : j < nch p l) : okE (lstE (chk p l j)) = true := hl _ (List.mem_of_getElem? (lst_at hp hj))

theorem idx_more (p : Nat) (l : List Ent) (i : Nat) : ∀ k, i ≤ k → ∃ s, idxP p l k = idxP p l i ++ s
  | 0, h => ⟨[], by rw [show i = 0 by omega]; rfl⟩
  | k + 1, h => by
    rcases Nat.lt_or_ge i (k + 1) with h1 | h1
    · obtain ⟨s, hs⟩ := idx_more p l i k (by omega)
      exact ⟨s ++ ixE (chk p l k), by rw [idxP, hs, List.append_assoc]⟩
    · exact ⟨[], by rw [show i = k + 1 by omega, List.append_nil]⟩
theorem out_more (p : Nat) (l : List Ent) (i : Nat) : ∀ k, i ≤ k → ∃ s, outP p l k = outP p l i ++ s
  | 0, h => ⟨[], by rw [show i = 0 by omega]; rfl⟩
  | k + 1, h => by
    rcases Nat.lt_or_ge i (k + 1) with h1 | h1
    · obtain ⟨s, hs⟩ := out_more p l i k (by omega)
      exact ⟨s ++ blkF (chk p l k), by rw [outP, hs, List.append_assoc]⟩
    · exact ⟨[], by rw [show i = k + 1 by omega, List.append_nil]⟩
/-- What is left of the index behind i pieces. -/
def ixR (p : Nat) (l : List Ent) (i : Nat) : List UInt8 := (idxP p l (nch p l)).drop (idxP p l i).length
theorem ixR_zero (p : Nat) (l : List Ent) : ixR p l 0 = idxP p l (nch p l) := rfl
theorem ixR_end (p : Nat) (l : List Ent) : ixR p l (nch p l) = [] := List.drop_eq_nil_of_le (Nat.le_refl _)
theorem ixR_step {p : Nat} {l : List Ent} {i : Nat} (h : i < nch p l) : ixR p l i = uv (blkF (chk p l i)).length ++ (uv (lstE (chk p l i)).key.size ++ ((lstE (chk p l i)).key.data.toList ++ (uv (lstE (chk p l i)).seq.toNat ++ ixR p l (i + 1)))) := by
  obtain ⟨s, hs⟩ := idx_more p l (i + 1) (nch p l) h
  have e1 : ixR p l (i + 1) = s := by unfold ixR; rw [hs, List.drop_left]
  rw [e1]
  unfold ixR
  rw [hs, idxP, List.append_assoc, List.drop_left, ixE]
  simp only [List.append_assoc]
theorem ixR_len (p : Nat) (l : List Ent) (i : Nat) : (ixR p l i).length ≤ (idxP p l (nch p l)).length := by unfold ixR; rw [List.length_drop]; omega
theorem keyB (k : ByteArray) : (⟨(k.data.toList).toArray⟩ : ByteArray) = k := by simp
theorem idxB_len {p : Nat} {l : List Ent} (hp : 1 ≤ p) (hl : ∀ x ∈ l, okE x = true) (hn : l.length ≤ 150) : (idxB p l).length ≤ 82510 := by
  have h1 := idxP_len hp hl (nch p l) (Nat.le_refl _)
  have h2 := nch_le hp l
  have h3 := uv_len10 (x := nch p l) (by omega)
  unfold idxB
  rw [List.length_append]
  omega
/-- A round of the index's reading. -/
theorem ix_round {p : Nat} {l : List Ent} (hp : 1 ≤ p ∧ p ≤ 64) (hl : ∀ x ∈ l, okE x = true) (hr : risE l = true) {i : Nat} (h : i < nch p l) :
    ∃ (sn k1 k2 k4 : Nat) (r1 r2 r3 : List UInt8), (lstE (chk p l i)).seq = (sn : Int) ∧ 1 ≤ sn ∧ sn ≤ 1073741824 ∧ 13 ≤ (blkF (chk p l i)).length ∧ (blkF (chk p l i)).length ≤ 400012 ∧ 1 ≤ (lstE (chk p l i)).key.size ∧ (lstE (chk p l i)).key.size ≤ 512
      ∧ Hid (smU (ixR p l i) 1048588 = some ((blkF (chk p l i)).length, k1) ∧ (ixR p l i).drop k1 = r1) ∧ Hid (smU r1 512 = some ((lstE (chk p l i)).key.size, k2) ∧ r1.drop k2 = r2)
      ∧ Hid (r2.take (lstE (chk p l i)).key.size = (lstE (chk p l i)).key.data.toList ∧ r2.drop (lstE (chk p l i)).key.size = r3) ∧ (lstE (chk p l i)).key.size < r2.length ∧ Hid (smU r3 1073741824 = some (sn, k4) ∧ r3.drop k4 = ixR p l (i + 1)) := by
  obtain ⟨q1, q2, q3, q4, q5, q6⟩ := okE_b (lst_ok hp.1 hl h)
  have hj := (nch_lt (p := p) (by omega) l i).1 h
  have hcc := chk_chkL (p := p) (l := l) (j := i) hp hj hl
  rw [if_pos (chk_ris i hr)] at hcc
  have e0 := encL_pos hcc
  have e1 := encL_len (chk p l i)
  have e2 := blkF_len (chk p l i)
  obtain ⟨sn, hsn⟩ := Int.eq_ofNat_of_zero_le (show 0 ≤ (lstE (chk p l i)).seq by omega)
  have hst : (lstE (chk p l i)).seq.toNat = sn := by rw [hsn]; rfl
  have st := ixR_step h
  rw [hst] at st
  have kl : (lstE (chk p l i)).key.data.toList.length = (lstE (chk p l i)).key.size := by rw [Array.length_toList]; rfl
  obtain ⟨a1, a2⟩ := smU_at (v := (blkF (chk p l i)).length) (by omega) (most := 1048588) (by omega) _ _ st
  obtain ⟨b1, b2⟩ := smU_at (v := (lstE (chk p l i)).key.size) (by omega) (most := 512) (by omega) ((lstE (chk p l i)).key.data.toList ++ (uv sn ++ ixR p l (i + 1))) _ rfl
  obtain ⟨c1, c2⟩ := smU_at (v := sn) (by omega) (most := 1073741824) (by omega) (ixR p l (i + 1)) _ rfl
  refine ⟨sn, _, _, _, _, _, _, hsn, by omega, by omega, by omega, by omega, by omega, by omega, Lib.hid ⟨a1, a2⟩, Lib.hid ⟨b1, b2⟩, Lib.hid ⟨?_, ?_⟩, ?_, Lib.hid ⟨c1, c2⟩⟩
  · rw [← kl, List.take_left]
  · rw [← kl, List.drop_left]
  · rw [List.length_append, List.length_append, kl]
    have := uv_pos sn
    omega
end Go.Proofs.Ytdmpimgbnhgiaaa
