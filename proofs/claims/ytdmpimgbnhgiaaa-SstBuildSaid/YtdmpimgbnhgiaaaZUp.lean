/- Walk: a block of a table is read. -/
import Derived.Test.YtdmpimgbnhgiaaaZC
import Derived.Test.YtdmpimgbnhgiaaaZEq
import Derived.Test.YtdmpimgbnhgiaaaZEt
import Derived.Test.YtdmpimgbnhgiaaaZUn

namespace Go.Proofs.Ytdmpimgbnhgiaaa
open Go.RowKit Go.St Go.Shelf Go.Maps
set_option linter.unusedVariables false
set_option linter.unusedSimpArgs false
set_option maxRecDepth 100000

/-- A table that nobody made. -/
inductive NoS (w : World) : Value → Prop where
  | nil : NoS w (.pointer none)
  | at (tb : Nat) (h : BxV w tb [.slice none 0 0, .slice none 0 0, .slice none 0 0, .int .i64 0, .int .i64 0, .bool false]) : NoS w (.pointer (some ⟨tb, 0, none⟩))
theorem NoS.next {w w' : World} {v : Value} (h : NoS w v) (hb : Below w.heap.size w w') : NoS w' v := by
  cases h with
  | nil => exact .nil
  | «at» tb h => exact .at tb (h.next hb)
theorem none_no (v : Value) (w : World) (h : NoS w v) : Calls Try.prog 54 #[v] w fun e w' => e = .returned (.bool true) ∧ Below w.heap.size w w' := by
  cases h with
  | nil =>
    go_enter Try.func54, Try.ntmps54
    go_wp2
    go_ret
    exact ⟨rfl, Below.refl _ _⟩
  | «at» tb h =>
    have c5 := h.c 5 _ rfl
    have hl := h.lt
    clear h
    go_enter Try.func54, Try.ntmps54
    go_wp2
    go_ret
    exact ⟨rfl, Below.refl _ _⟩
theorem len_no (v : Value) (w : World) (h : NoS w v) : Calls Try.prog 23 #[v] w fun e w' => e = .returned (.int .i64 0) ∧ Below w.heap.size w w' := by
  cases h with
  | nil =>
    go_enter Try.func23, Try.ntmps23
    go_wp2
    go_ret
    exact ⟨rfl, Below.refl _ _⟩
  | «at» tb h =>
    have c5 := h.c 5 _ rfl
    have hl := h.lt
    clear h
    go_enter Try.func23, Try.ntmps23
    go_wp2
    go_ret
    exact ⟨rfl, Below.refl _ _⟩
theorem blocks_no (v : Value) (w : World) (h : NoS w v) : Calls Try.prog 24 #[v] w fun e w' => e = .returned (.int .i64 0) ∧ Below w.heap.size w w' := by
  cases h with
  | nil =>
    go_enter Try.func24, Try.ntmps24
    go_wp2
    go_ret
    exact ⟨rfl, Below.refl _ _⟩
  | «at» tb h =>
    have c5 := h.c 5 _ rfl
    have hl := h.lt
    clear h
    go_enter Try.func24, Try.ntmps24
    go_wp2
    go_ret
    exact ⟨rfl, Below.refl _ _⟩
theorem last_no (v : Value) (w : World) (h : NoS w v) : Calls Try.prog 25 #[v] w fun e w' => e = .returned (.string { data := #[] }) ∧ Below w.heap.size w w' := by
  cases h with
  | nil =>
    go_enter Try.func25, Try.ntmps25
    go_wp2
    go_ret
    exact ⟨rfl, Below.refl _ _⟩
  | «at» tb h =>
    have c5 := h.c 5 _ rfl
    have hl := h.lt
    clear h
    go_enter Try.func25, Try.ntmps25
    go_wp2
    go_ret
    exact ⟨rfl, Below.refl _ _⟩
theorem reads_no (v : Value) (w : World) (h : NoS w v) : Calls Try.prog 19 #[v] w fun e w' => e = .returned (.int .i64 0) ∧ Below w.heap.size w w' := by
  cases h with
  | nil =>
    go_enter Try.func19, Try.ntmps19
    go_wp2
    go_ret
    exact ⟨rfl, Below.refl _ _⟩
  | «at» tb h =>
    have c5 := h.c 5 _ rfl
    have hl := h.lt
    clear h
    go_enter Try.func19, Try.ntmps19
    go_wp2
    go_ret
    exact ⟨rfl, Below.refl _ _⟩
section
variable {w : World} {tb : Nat} {Ab : Option Addr} {cb : Nat} {Ai : Option Addr} {ci : Nat} {Af : Option Addr} {cf : Nat} {p b : Nat} {l : List Ent} {X : List UInt8} {k : Nat}
theorem none_yes (h : TbS w tb Ab cb Ai ci Af cf p b l X k) : Calls Try.prog 54 #[.pointer (some ⟨tb, 0, none⟩)] w fun e w' => e = .returned (.bool false) ∧ Below w.heap.size w w' := by
  have c1 := h.x.c 1 _ rfl
  have c3 := h.x.c 3 _ rfl
  have c4 := h.x.c 4 _ rfl
  have c5 := h.x.c 5 _ rfl
  have hl := h.x.lt
  clear h
  go_enter Try.func54, Try.ntmps54
  go_wp2
  go_ret
  exact ⟨rfl, Below.refl _ _⟩
theorem len_yes (h : TbS w tb Ab cb Ai ci Af cf p b l X k) : Calls Try.prog 23 #[.pointer (some ⟨tb, 0, none⟩)] w fun e w' => e = .returned (.int .i64 (l.length : Nat)) ∧ Below w.heap.size w w' := by
  have c1 := h.x.c 1 _ rfl
  have c3 := h.x.c 3 _ rfl
  have c4 := h.x.c 4 _ rfl
  have c5 := h.x.c 5 _ rfl
  have hl := h.x.lt
  clear h
  go_enter Try.func23, Try.ntmps23
  go_wp2
  go_ret
  exact ⟨rfl, Below.refl _ _⟩
theorem blocks_yes (h : TbS w tb Ab cb Ai ci Af cf p b l X k) : Calls Try.prog 24 #[.pointer (some ⟨tb, 0, none⟩)] w fun e w' => e = .returned (.int .i64 (nch p l : Nat)) ∧ Below w.heap.size w w' := by
  have c1 := h.x.c 1 _ rfl
  have c3 := h.x.c 3 _ rfl
  have c4 := h.x.c 4 _ rfl
  have c5 := h.x.c 5 _ rfl
  have hl := h.x.lt
  clear h
  go_enter Try.func24, Try.ntmps24
  go_wp2
  go_ret
  exact ⟨rfl, Below.refl _ _⟩
theorem reads_yes (h : TbS w tb Ab cb Ai ci Af cf p b l X k) : Calls Try.prog 19 #[.pointer (some ⟨tb, 0, none⟩)] w fun e w' => e = .returned (.int .i64 (k : Nat)) ∧ Below w.heap.size w w' := by
  have c1 := h.x.c 1 _ rfl
  have c3 := h.x.c 3 _ rfl
  have c4 := h.x.c 4 _ rfl
  have c5 := h.x.c 5 _ rfl
  have hl := h.x.lt
  clear h
  go_enter Try.func19, Try.ntmps19
  go_wp2
  go_ret
  exact ⟨rfl, Below.refl _ _⟩
set_option maxHeartbeats 1600000 in
theorem last_yes (h : TbS w tb Ab cb Ai ci Af cf p b l X k) (m : Nat) (hm : nch p l = m + 1) (hm2 : m ≤ 150) : Calls Try.prog 25 #[.pointer (some ⟨tb, 0, none⟩)] w fun e w' => e = .returned (.string (lstE (chk p l m)).key) ∧ Below w.heap.size w w' := by
  have c1 := h.x.c 1 _ rfl
  have c5 := h.x.c 5 _ rfl
  have hl := h.x.lt
  have HN := Lib.hid (none_yes h)
  have hri := h.ri.rd
  rw [hm] at c1 hri
  obtain ⟨lb, lo, rfl, hlb, hpl⟩ := pl_at hri (show m < m + 1 by omega)
  have f2 := hpl.c2
  generalize (lstE (chk p l m)).key = Km at *
  have hw1 : IntKind.i64.wrap (((m + 1 : Nat) : Int) - 1) = (m : Int) := by rw [IntWalk.i64_in _ (by omega)]; omega
  have hw2 : wrap64 (((m + 1 : Nat) : Int) - 1) = (m : Int) := by rw [IntWalk.wrap64_in _ ⟨by omega, by omega⟩]; omega
  have m0 : (0 : Int) ≤ (m : Int) := by omega
  have m1 : (m : Int) < ((m + 1 : Nat) : Int) := by omega
  have e5 : ((m + 1 : Nat) : Int) ≠ 0 := by omega
  have e6 : (((m + 1 : Nat) : Int) == 0) = false := by rw [beq_eq_false_iff_ne]; omega
  clear h hm hri hpl
  go_enter Try.func25, Try.ntmps25
  go_wp2_with fail
  refine HN.out.mono ?_
  rintro e w2 ⟨rfl, hb⟩
  have c1' := (hb.cell (p := ⟨tb, 1, none⟩) hl).trans c1
  have f2' := (hb.cell (p := ⟨lb, _, none⟩) hlb).trans f2
  have hl' : tb < w2.heap.size := Nat.lt_of_lt_of_le hl hb.size
  have hlb' : lb < w2.heap.size := Nat.lt_of_lt_of_le hlb hb.size
  have B2 := Lib.hid hb
  clear hb c1 c5 f2 hl hlb
  go_wp2_with fail
  refine wp_qall (by kernel_rfl) (by kernel_rfl) ?_
  intro hcg
  repeat (first | go_big_quiet_step ((fail)) | quiet_step ((fail)))
  refine wpQuiet_nil ?_
  intro wq hbwq hcwq hfwq
  clear hcg
  have B3 := Lib.hid (B2.out.trans (hbwq.mono B2.out.size))
  clear hbwq hcwq hfwq
  go_wp2_with fail
  go_ret
  exact ⟨rfl, B3.out⟩
end
end Go.Proofs.Ytdmpimgbnhgiaaa

namespace Go.Proofs.Ytdmpimgbnhgiaaa
open Go.RowKit Go.St Go.Shelf Go.Maps
set_option linter.unusedVariables false
set_option linter.unusedSimpArgs false
set_option maxRecDepth 100000

/-- A block's bytes. -/
def pcX (p : Nat) (l : List Ent) (X : List UInt8) (i : Nat) : List UInt8 := (X.drop (outP p l i).length).take (blkF (chk p l i)).length
/-- Which blocks are bad. -/
def BkS (bad : Nat → Bool) (p : Nat) (l : List Ent) (X : List UInt8) : Prop := ∀ i, i < nch p l → (pcX p l X i).length = (blkF (chk p l i)).length ∧ (bad i = true → recB (pcX p l X i) = false) ∧ (bad i = false → pcX p l X i = blkF (chk p l i))
def rdK (bad : Nat → Bool) (p : Nat) (l : List Ent) (i : Nat) : List Ent := if bad i then [] else chk p l i
def rdKE (bad : Nat → Bool) (i : Nat) : Int := if bad i then 6 else 0
theorem out_le (p : Nat) (l : List Ent) {i : Nat} (h : i < nch p l) : (outP p l i).length + (blkF (chk p l i)).length ≤ (outP p l (nch p l)).length := by
  obtain ⟨s, hs⟩ := out_more p l (i + 1) (nch p l) h
  rw [hs, List.length_append, outP, List.length_append]
  omega
section
variable {w : World} {tb : Nat} {Ab : Option Addr} {cb : Nat} {Ai : Option Addr} {ci : Nat} {Af : Option Addr} {cf : Nat} {p b : Nat} {l : List Ent} {X : List UInt8} {k : Nat}
set_option maxHeartbeats 6400000 in
theorem tread_any (bad : Nat → Bool) (hp : 1 ≤ p ∧ p ≤ 64) (hl1 : 1 ≤ l.length) (hl2 : l.length ≤ 150) (hok : ∀ x ∈ l, okE x = true) (hris : risE l = true) (hbk : BkS bad p l X) (i : Nat) (hi : i < nch p l) (hk : k ≤ 1000000) (h : TbS w tb Ab cb Ai ci Af cf p b l X k) :
    Calls Try.prog 58 #[.pointer (some ⟨tb, 0, none⟩), .int .i64 (i : Int)] w fun e w' => ∃ A c, e = .returned (.tuple #[.slice A (rdK bad p l i).length c, .int .i64 (rdKE bad i)]) ∧ w'.ownsRow w.heap.size 40 4 (.slice A (rdK bad p l i).length c) (rdK bad p l i).length (env (rdK bad p l i)) ∧ TbS w' tb Ab cb Ai ci Af cf p b l X (k + 1) ∧ OthB w.heap.size tb w w' := by
  obtain ⟨hq1, hq2, hq3⟩ := hbk i hi
  have hnl := nch_le hp.1 l
  have hcb := h.cb
  have hxl := h.xl
  have hj := (nch_lt (p := p) (by omega) l i).1 hi
  have hcl := chk_len p l i
  have hcc := chk_chkL (p := p) (l := l) (j := i) hp hj hok
  rw [if_pos (chk_ris i hris)] at hcc
  have e1 := encL_len (chk p l i)
  have e2 := blkF_len (chk p l i)
  have hqt : (outP p l i).length + (blkF (chk p l i)).length ≤ X.length := by
    have h1 := hq1
    unfold pcX at h1
    rw [List.length_take, List.length_drop] at h1
    omega
  have HP := Lib.hid (show pcX p l X i = (X.drop (outP p l i).length).take (blkF (chk p l i)).length from rfl)
  have HDE : Hid (recB (pcX p l X i) = true → bad i = false ∧ decL (readL (pcX p l X i)) = chk p l i ∧ decE (readL (pcX p l X i)) = 0 ∧ (readL (pcX p l X i)).length ≤ 1000000) := Lib.hid (fun hr => by
    cases hb : bad i
    · have h1 := hq3 hb
      rw [h1]
      have h2 := rec_frame (r := encL (chk p l i)) (by omega)
      have h3 : readL (blkF (chk p l i)) = encL (chk p l i) := h2.2
      rw [h3]
      have h4 := dec_some (dec_enc hcc)
      exact ⟨rfl, h4.1, h4.2, by omega⟩
    · rw [hq2 hb] at hr
      cases hr)
  have HDN : Hid (recB (pcX p l X i) = false → bad i = true) := Lib.hid (fun hr => by
    cases hb : bad i
    · rw [hq3 hb] at hr
      have h2 := (rec_frame (r := encL (chk p l i)) (by omega)).1
      have h3 : recB (blkF (chk p l i)) = true := h2
      rw [h3] at hr
      cases hr
    · rfl)
  obtain ⟨fr, hfr⟩ : ∃ fr, fr = (outP p l i).length := ⟨_, rfl⟩
  obtain ⟨sz, hsz⟩ : ∃ sz, sz = (blkF (chk p l i)).length := ⟨_, rfl⟩
  obtain ⟨Kx, hKx⟩ : ∃ Kx, Kx = (lstE (chk p l i)).key := ⟨_, rfl⟩
  obtain ⟨sq, hsq⟩ : ∃ sq, sq = (lstE (chk p l i)).seq := ⟨_, rfl⟩
  obtain ⟨ec, hec⟩ : ∃ ec, ec = (chk p l i).length := ⟨_, rfl⟩
  have hec1 : 1 ≤ ec ∧ ec ≤ 64 := by omega
  have hsz12 : 12 ≤ (blkF (chk p l i)).length := by omega
  obtain ⟨lb, lo, hAi, hlb, hpl⟩ := pl_at h.ri.rd hi
  have hltb : lb ≠ tb := by
    have hpv := plv_len p l (nch p l)
    obtain ⟨b', off', e', h1, -⟩ := h.ri (fun e => by rw [e] at hpv; simp at hpv; omega)
    rw [hAi] at e'
    injection e' with e'
    injection e' with e'
    omega
  have HPV := Lib.hid hpl
  subst hAi
  rw [← hfr, ← hsz] at hqt HP
  rw [← hsz] at hq1 hsz12
  obtain ⟨P, hP⟩ : ∃ P, P = pcX p l X i := ⟨_, rfl⟩
  rw [← hP] at HP HDE HDN hq1
  have HLST : Hid (∃ x, (chk p l i)[ec - 1]? = some x ∧ x.key = Kx ∧ x.seq = sq) := Lib.hid (by
    obtain ⟨x, hx⟩ : ∃ x, (chk p l i)[(chk p l i).length - 1]? = some x := ⟨_, List.getElem?_eq_getElem (by omega)⟩
    rw [hec, hKx, hsq, lstE_get hx]
    exact ⟨x, hx, rfl, rfl⟩)
  have c0 := h.x.c 0 _ rfl
  have c1 := h.x.c 1 _ rfl
  have c4 := h.x.c 4 _ rfl
  have cf' := h.x.fz
  have hl := h.x.lt
  have f0 := hpl.c0
  have f1 := hpl.c1
  have f2 := hpl.c2
  have f3 := hpl.c3
  have f4 := hpl.c4
  have f5 := hpl.c5
  rw [← hfr] at f0
  rw [← hsz] at f1
  rw [← hKx] at f2
  rw [← hsq] at f4
  unfold zB at f3
  have hw1 : IntKind.i64.wrap ((k : Int) + 1) = (k : Int) + 1 := by exact IntWalk.i64_in _ (by omega)
  have hw2 : wrap64 ((k : Int) + 1) = (k : Int) + 1 := by exact IntWalk.wrap64_in _ ⟨by omega, by omega⟩
  have i0 : (0 : Int) ≤ (i : Int) := by omega
  have i1 : (i : Int) < (nch p l : Nat) := by omega
  have T1 := Lib.hid (h.oth ((OthB.refl w.heap.size tb w).set 4 (.int .i64 ((k : Int) + 1))) (k' := k + 1) (bxv_put h.x 4 (by simp) (.int .i64 ((k : Int) + 1))))
  have OT1 := Lib.hid ((OthB.refl w.heap.size tb w).set 4 (.int .i64 ((k : Int) + 1)))
  have HIN := Lib.hid hi
  have HEC := Lib.hid hec
  have HSZ := Lib.hid hq1
  clear h hpl hok hris hbk hq1 hq2 hq3 hcc e1 e2 hcl hj hfr hsz hKx hsq hec hP hi
  go_enter Try.func58, Try.ntmps58
  go_upto_region 2 with (fail)
  have hcell : ∀ o, (w.setCell ⟨tb, 4, none⟩ (.int .i64 ((k : Int) + 1))).cell? ⟨lb, o, none⟩ = w.cell? ⟨lb, o, none⟩ := fun o => World.cell?_setCell_far _ _ _ _ (show (⟨tb, 4, none⟩ : Addr).block ≠ (⟨lb, o, none⟩ : Addr).block by show tb ≠ lb; omega)
  replace f0 := (hcell _).trans f0
  replace f1 := (hcell _).trans f1
  replace f2 := (hcell _).trans f2
  replace f3 := (hcell _).trans f3
  replace f4 := (hcell _).trans f4
  replace f5 := (hcell _).trans f5
  have c1' := T1.out.x.c 1 _ rfl
  have hl1 := T1.out.x.lt
  have hlb1 : lb < (w.setCell ⟨tb, 4, none⟩ (.int .i64 ((k : Int) + 1))).heap.size := by rw [World.size_setCell]; exact hlb
  have hz1 : w.heap.size ≤ (w.setCell ⟨tb, 4, none⟩ (.int .i64 ((k : Int) + 1))).heap.size := by simp
  clear hcell c0 c1 c4 cf' hl
  generalize w.setCell ⟨tb, 4, none⟩ (.int .i64 ((k : Int) + 1)) = w1 at *
  go_upto_region 3 with (fail)
  have ha : Below w1.heap.size w1 (w1.alloc (.cells #[.int .i64 (fr : Nat), .int .i64 (sz : Nat), .string Kx, .string { data := #[] }, .int .i64 sq, .bool false] 93)) := (Below.refl _ _).alloc (Nat.le_refl _) _
  have PB2 : Hid (BxV (w1.alloc (.cells #[.int .i64 (fr : Nat), .int .i64 (sz : Nat), .string Kx, .string { data := #[] }, .int .i64 sq, .bool false] 93)) w1.heap.size [.int .i64 (fr : Nat), .int .i64 (sz : Nat), .string Kx, .string { data := #[] }, .int .i64 sq, .bool false]) := Lib.hid (BxV.new w1 _ _)
  have T2 := Lib.hid (T1.out.next ha)
  have OT2 := Lib.hid (OT1.out.next (ha.mono (by omega)))
  have hz2 : w1.heap.size < (w1.alloc (.cells #[.int .i64 (fr : Nat), .int .i64 (sz : Nat), .string Kx, .string { data := #[] }, .int .i64 sq, .bool false] 93)).heap.size := PB2.out.lt
  clear ha T1 OT1 f0 f1 f2 f3 f4 f5 c1' hl1 hlb1
  generalize w1.alloc (.cells #[.int .i64 (fr : Nat), .int .i64 (sz : Nat), .string Kx, .string { data := #[] }, .int .i64 sq, .bool false] 93) = w2 at *
  generalize w1.heap.size = pb at *
  clear hw1 hw2
  have j0 : (0 : Int) ≤ (fr : Int) := by omega
  have j1 : (fr : Int) ≤ (fr : Int) + (sz : Int) := by omega
  have j2 : (fr : Int) + (sz : Int) ≤ (cb : Int) := by omega
  have j3 : (X.length : Int) ≤ (cb : Int) := by omega
  have j4 : (fr : Int) + (sz : Int) - (fr : Int) = (sz : Int) := by omega
  have j5 : ((fr : Int) + (sz : Int)).toNat = fr + sz := by omega
  have hadd : IntKind.i64.wrap ((fr : Int) + (sz : Int)) = (fr : Int) + (sz : Int) := IntWalk.i64_in _ (by omega)
  have hadd2 : wrap64 ((fr : Int) + (sz : Int)) = (fr : Int) + (sz : Int) := IntWalk.wrap64_in _ ⟨by omega, by omega⟩
  have hdr : Below w2.heap.size w2 w2.drew := Below.drew (Below.refl _ _)
  refine wp_heldall (S := fun W => TbS W tb Ab cb (some ⟨lb, lo, none⟩) ci Af cf p b l X (k + 1) ∧ BxV W pb [.int .i64 (fr : Nat), .int .i64 (sz : Nat), .string Kx, .string { data := #[] }, .int .i64 sq, .bool false]) 18 (by kernel_rfl) rfl ⟨T2.out.next hdr, PB2.out.next hdr⟩ (fun hHeld => ?_)
  refine takeL (i := 0) (v := ?_) rfl (by kernel_rfl) (by kernel_rfl) (by kernel_rfl) (fun _ _ _ h => h) ⟨by rfl, ?_⟩ (by first | assumption | trivial) ?_
  rotate_left
  · intro W9 hSw
    (try dsimp only at hSw)
    go_simp
    try with_reducible rfl
  (try simp only [Act.put, List.setIfInBounds_toArray, List.set_cons_zero, List.set_cons_succ])
  refine takeL (i := 1) (v := ?_) rfl (by kernel_rfl) (by kernel_rfl) (by kernel_rfl) (fun _ _ _ h => h) ⟨by rfl, ?_⟩ (by first | assumption | trivial) ?_
  rotate_left
  · intro W9 hSw
    (try dsimp only at hSw)
    (have yl := hSw.1.x.lt)
    go_simp
    try with_reducible rfl
  (try simp only [Act.put, List.setIfInBounds_toArray, List.set_cons_zero, List.set_cons_succ])
  refine takeL (i := 2) (v := ?_) rfl (by kernel_rfl) (by kernel_rfl) (by kernel_rfl) (fun _ _ _ h => h) ⟨by rfl, ?_⟩ (by first | assumption | trivial) ?_
  rotate_left
  · intro W9 hSw
    (try dsimp only at hSw)
    (have yl := hSw.1.x.lt)
    go_simp
    try with_reducible rfl
  (try simp only [Act.put, List.setIfInBounds_toArray, List.set_cons_zero, List.set_cons_succ])
  refine takeL (i := 3) (v := ?_) rfl (by kernel_rfl) (by kernel_rfl) (by kernel_rfl) (fun _ _ _ h => h) ⟨by rfl, ?_⟩ (by first | assumption | trivial) ?_
  rotate_left
  · intro W9 hSw
    (try dsimp only at hSw)
    (have y := hSw.1.x.c 0 _ rfl; have yl := hSw.1.x.lt)
    go_simp
    try with_reducible rfl
  (try simp only [Act.put, List.setIfInBounds_toArray, List.set_cons_zero, List.set_cons_succ])
  refine takeL (i := 4) (v := ?_) rfl (by kernel_rfl) (by kernel_rfl) (by kernel_rfl) (fun _ _ _ h => h) ⟨by rfl, ?_⟩ (by first | assumption | trivial) ?_
  rotate_left
  · intro W9 hSw
    (try dsimp only at hSw)
    go_simp
    try with_reducible rfl
  (try simp only [Act.put, List.setIfInBounds_toArray, List.set_cons_zero, List.set_cons_succ])
  refine takeL (i := 5) (v := ?_) rfl (by kernel_rfl) (by kernel_rfl) (by kernel_rfl) (fun _ _ _ h => h) ⟨by rfl, ?_⟩ (by first | assumption | trivial) ?_
  rotate_left
  · intro W9 hSw
    (try dsimp only at hSw)
    (have y := hSw.2.c 0 _ rfl; have yl := hSw.2.lt)
    go_simp
    try with_reducible rfl
  (try simp only [Act.put, List.setIfInBounds_toArray, List.set_cons_zero, List.set_cons_succ])
  refine takeL (i := 6) (v := ?_) rfl (by kernel_rfl) (by kernel_rfl) (by kernel_rfl) (fun _ _ _ h => h) ⟨by rfl, ?_⟩ (by first | assumption | trivial) ?_
  rotate_left
  · intro W9 hSw
    (try dsimp only at hSw)
    go_simp
    try with_reducible rfl
  (try simp only [Act.put, List.setIfInBounds_toArray, List.set_cons_zero, List.set_cons_succ])
  refine takeL (i := 7) (v := ?_) rfl (by kernel_rfl) (by kernel_rfl) (by kernel_rfl) (fun _ _ _ h => h) ⟨by rfl, ?_⟩ (by first | assumption | trivial) ?_
  rotate_left
  · intro W9 hSw
    (try dsimp only at hSw)
    (have y := hSw.2.c 0 _ rfl; have yl := hSw.2.lt)
    go_simp
    try with_reducible rfl
  (try simp only [Act.put, List.setIfInBounds_toArray, List.set_cons_zero, List.set_cons_succ])
  refine takeL (i := 8) (v := ?_) rfl (by kernel_rfl) (by kernel_rfl) (by kernel_rfl) (fun _ _ _ h => h) ⟨by rfl, ?_⟩ (by first | assumption | trivial) ?_
  rotate_left
  · intro W9 hSw
    (try dsimp only at hSw)
    go_simp
    try with_reducible rfl
  (try simp only [Act.put, List.setIfInBounds_toArray, List.set_cons_zero, List.set_cons_succ])
  refine takeL (i := 9) (v := ?_) rfl (by kernel_rfl) (by kernel_rfl) (by kernel_rfl) (fun _ _ _ h => h) ⟨by rfl, ?_⟩ (by first | assumption | trivial) ?_
  rotate_left
  · intro W9 hSw
    (try dsimp only at hSw)
    (have y := hSw.2.c 1 _ rfl; have yl := hSw.2.lt)
    go_simp
    try with_reducible rfl
  (try simp only [Act.put, List.setIfInBounds_toArray, List.set_cons_zero, List.set_cons_succ])
  refine takeL (i := 10) (v := ?_) rfl (by kernel_rfl) (by kernel_rfl) (by kernel_rfl) (fun _ _ _ h => h) ⟨by rfl, ?_⟩ (by first | assumption | trivial) ?_
  rotate_left
  · intro W9 hSw
    (try dsimp only at hSw)
    go_simp
    try with_reducible rfl
  (try simp only [Act.put, List.setIfInBounds_toArray, List.set_cons_zero, List.set_cons_succ])
  refine takeL (i := 11) (v := ?_) rfl (by kernel_rfl) (by kernel_rfl) (by kernel_rfl) (fun _ _ _ h => h) ⟨by rfl, ?_⟩ (by first | assumption | trivial) ?_
  rotate_left
  · intro W9 hSw
    (try dsimp only at hSw)
    go_simp
    try with_reducible rfl
  (try simp only [Act.put, List.setIfInBounds_toArray, List.set_cons_zero, List.set_cons_succ])
  clear hHeld hadd hadd2
  have T3 := Lib.hid (T2.out.next hdr)
  have PB3 := Lib.hid (PB2.out.next hdr)
  have OT3 := Lib.hid (OT2.out.next (hdr.mono (by have := OT2.out.size; omega)))
  have hz3 : pb < w2.drew.heap.size := PB3.out.lt
  clear hdr T2 PB2 OT2
  generalize w2.drew = w3 at *
  have hcf : ¬ cb = fr := by omega
  have RP := (T3.out.rb.rd.drop fr (cap := cb) (by rw [bv_length]; omega)).take sz
  rw [if_neg hcf, show ((bv X).drop fr).take sz = bv P by rw [HP.out]; simp [bv, List.map_take, List.map_drop]] at RP
  have HRP := Lib.hid (record_any (Ab.map (·.add fr)) sz (cb - fr) w3.heap.size P HSZ.out (by omega) (by omega) w3 RP (Nat.le_refl _))
  obtain ⟨bP, hbP⟩ : ∃ bP, bP = recB P := ⟨_, rfl⟩
  obtain ⟨LP, hLP⟩ : ∃ LP, LP = readL P := ⟨_, rfl⟩
  rw [← hLP] at HDE
  rw [← hbP, ← hLP] at HRP
  rw [← hbP] at HDE HDN
  clear hbP hLP RP
  refine wpAnyH_ready (rs := [12]) (by kernel_rfl) (by simp) ?_
  refine consL rfl (by rfl) (fun K hK => ?_) ?_
  · go_simp
    go_at_call 49
    refine HRP.out.mono ?_
    rintro r w4 ⟨v4, rfl, own4, hb⟩
    obtain ⟨A4, c4, rfl, hc4, r4⟩ := own_sl own4
    have R4 := Lib.hid r4
    have hcI : c4 ≤ 9223372036854775807 := by
      rcases own4.2 with ⟨h', _⟩ | ⟨g, cap, cur, h', _, _, _, h2, _⟩
      · injection h' with _ _ h3
        omega
      · injection h' with _ _ h3
        unfold maxLen at h2
        omega
    have T4 := Lib.hid (T3.out.next hb)
    have PB4 := Lib.hid (PB3.out.next hb)
    have OT4 := Lib.hid (OT3.out.next (hb.mono (by have := OT3.out.size; omega)))
    have hz34 := hb.size
    refine hK.out _ _ ⟨T4.out, PB4.out⟩ (fun _ => ?_)
    clear hK K own4 r4 hb HRP T3 PB3 OT3 hcf j0 j1 j2 j3 j4 j5
    (try simp only [Act.put, List.setIfInBounds_toArray, List.set_cons_zero, List.set_cons_succ])
    refine takeL (i := 13) (v := ?_) rfl (by kernel_rfl) (by kernel_rfl) (by kernel_rfl) (fun _ _ _ h => h) ⟨by rfl, ?_⟩ (by first | assumption | trivial) ?_
    rotate_left
    · intro W9 hSw
      (try dsimp only at hSw)
      go_simp
      try with_reducible rfl
    (try simp only [Act.put, List.setIfInBounds_toArray, List.set_cons_zero, List.set_cons_succ])
    refine takeL (i := 14) (v := ?_) rfl (by kernel_rfl) (by kernel_rfl) (by kernel_rfl) (fun _ _ _ h => h) ⟨by rfl, ?_⟩ (by first | assumption | trivial) ?_
    rotate_left
    · intro W9 hSw
      (try dsimp only at hSw)
      go_simp
      try with_reducible rfl
    (try simp only [Act.put, List.setIfInBounds_toArray, List.set_cons_zero, List.set_cons_succ])
    refine takeL (i := 15) (v := ?_) rfl (by kernel_rfl) (by kernel_rfl) (by kernel_rfl) (fun _ _ _ h => h) ⟨by rfl, ?_⟩ (by first | assumption | trivial) ?_
    rotate_left
    · intro W9 hSw
      (try dsimp only at hSw)
      go_simp
      try with_reducible rfl
    (try simp only [Act.put, List.setIfInBounds_toArray, List.set_cons_zero, List.set_cons_succ])
    refine takeL (i := 16) (v := ?_) rfl (by kernel_rfl) (by kernel_rfl) (by kernel_rfl) (fun _ _ _ h => h) ⟨by rfl, ?_⟩ (by first | assumption | trivial) ?_
    rotate_left
    · intro W9 hSw
      (try dsimp only at hSw)
      go_simp
      try with_reducible rfl
    (try simp only [Act.put, List.setIfInBounds_toArray, List.set_cons_zero, List.set_cons_succ])
    refine takeL (i := 17) (v := ?_) rfl (by kernel_rfl) (by kernel_rfl) (by kernel_rfl) (fun _ _ _ h => h) ⟨by rfl, ?_⟩ (by first | assumption | trivial) ?_
    rotate_left
    · intro W9 hSw
      (try dsimp only at hSw)
      go_simp
      try with_reducible rfl
    (try simp only [Act.put, List.setIfInBounds_toArray, List.set_cons_zero, List.set_cons_succ])
    refine wpAnyH_done (by kernel_rfl) ?_ _
    cases bP
    · have SEQ : Hid (bad i = true) := Lib.hid (HDN.out rfl)
      go_wp2_with fail
      go_ret2
      unfold rdK rdKE
      rw [if_pos SEQ.out, if_pos SEQ.out]
      exact ⟨none, 0, rfl, World.ownsRow_nil _ _ _ _, T4.out, OT4.out⟩
    obtain ⟨hbi, hd1, hd2, hd3⟩ := HDE.out rfl
    have HBI := Lib.hid hbi
    have HD := Lib.hid (decode_any A4 LP.length c4 w4.heap.size LP rfl hc4 hcI hd3 w4 R4.out (Nat.le_refl _))
    rw [hd1, hd2] at HD
    clear hbi hd1 hd2 hd3 HDE HDN
    go_wp2_with fail
    refine HD.out.mono ?_
    rintro r w5 ⟨v5, rfl, own5, hb⟩
    rw [← HEC.out] at own5
    obtain ⟨A5, c5, rfl, hc5, r5⟩ := own_sl own5
    obtain ⟨x, hx, hxk, hxs⟩ := HLST.out
    obtain ⟨xb, xo, rfl, hxb, hxe⟩ := en_at r5 hx
    have O5 := Lib.hid own5
    have T5 := Lib.hid (T4.out.next hb)
    have PB5 := Lib.hid (PB4.out.next hb)
    have OT5 := Lib.hid (OT4.out.next (hb.mono (by have := OT4.out.size; omega)))
    have hz45 := hb.size
    obtain ⟨f0, f1, f2, f3⟩ := hxe
    have ew1 : wrap64 ((ec : Int) - 1) = ((ec - 1 : Nat) : Int) := by rw [IntWalk.wrap64_in _ ⟨by omega, by omega⟩]; omega
    have ew2 : IntKind.i64.wrap ((ec : Int) - 1) = ((ec - 1 : Nat) : Int) := by rw [IntWalk.i64_in _ (by omega)]; omega
    subst hxk hxs
    have p2 := PB5.out.c 2 _ rfl
    have p4 := PB5.out.c 4 _ rfl
    have pl := PB5.out.lt
    have m0 : (0 : Int) ≤ ((ec - 1 : Nat) : Int) := by omega
    have m1 : ((ec - 1 : Nat) : Int) < (ec : Int) := by omega
    clear own5 r5 hb hx HD T4 PB4 OT4 R4
    have HXB := Lib.hid hxb
    clear hxb
    have zxb : xb < w5.heap.size := HXB.out
    go_upto_region 10 with (fail)
    have ha : Below w5.heap.size w5 (w5.alloc (.cells #[.string x.key, .string x.val, .int .i64 x.seq, .bool x.del] 40)) := (Below.refl _ _).alloc (Nat.le_refl _) _
    have XB6 : Hid (BxV (w5.alloc (.cells #[.string x.key, .string x.val, .int .i64 x.seq, .bool x.del] 40)) w5.heap.size [.string x.key, .string x.val, .int .i64 x.seq, .bool x.del]) := Lib.hid (BxV.new w5 _ _)
    have T6 := Lib.hid (T5.out.next ha)
    have PB6 := Lib.hid (PB5.out.next ha)
    have O6 := Lib.hid (own_keep O5.out ha (Nat.le_refl _))
    have OT6 := Lib.hid (OT5.out.next (ha.mono (by have := OT5.out.size; omega)))
    clear ha T5 PB5 O5 OT5 f0 f1 f2 f3 p2 p4 pl zxb HXB
    generalize w5.alloc (.cells #[.string x.key, .string x.val, .int .i64 x.seq, .bool x.del] 40) = w6 at *
    have p2 := PB6.out.c 2 _ rfl
    have p4 := PB6.out.c 4 _ rfl
    have pl := PB6.out.lt
    have f0 := XB6.out.c 0 _ rfl
    have f2 := XB6.out.c 2 _ rfl
    have fl := XB6.out.lt
    go_wp2_with fail
    go_ret2
    unfold rdK rdKE
    rw [HBI.out, if_neg (by decide), if_neg (by decide), ← HEC.out]
    refine ⟨_, _, rfl, own_base O6.out ?_, T6.out, OT6.out⟩
    omega
  · exact AllReadyH.nil
end
end Go.Proofs.Ytdmpimgbnhgiaaa
