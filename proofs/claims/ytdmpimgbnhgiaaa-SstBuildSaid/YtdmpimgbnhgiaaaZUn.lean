/- Walk: a table is opened, or refused. -/
import Derived.Test.YtdmpimgbnhgiaaaZB
import Derived.Test.YtdmpimgbnhgiaaaZBox
import Derived.Test.YtdmpimgbnhgiaaaZK
import Derived.Test.YtdmpimgbnhgiaaaZKr
import Derived.Test.YtdmpimgbnhgiaaaZUl

namespace Go.Proofs.Ytdmpimgbnhgiaaa
open Go.RowKit Go.St
set_option linter.unusedVariables false
set_option linter.unusedSimpArgs false
set_option maxRecDepth 100000

set_option maxHeartbeats 800000 in
theorem bclone_any (A : Option Addr) (n c B : Nat) (bs : List UInt8) (hl : bs.length = n) (hn : n ≤ 140737488351232) (w : World) (hr : Rd w B A (bv bs)) (hB : B ≤ w.heap.size) :
    Calls Try.prog 51 #[.slice A n c] w fun e w' => ∃ v, e = .returned v ∧ w'.ownsRow w.heap.size 5 1 v n (bv bs) ∧ Below w.heap.size w w' := by
  cases A with
  | none =>
    have h0 : bs = [] := by
      cases bs with
      | nil => rfl
      | cons x r =>
        obtain ⟨_, _, e, _⟩ := hr.at_ (bv_get (x :: r) 0 (by simp))
        cases e
    subst h0
    have hq := fun W => Lib.run_eql_slice_nil (P := Try.prog) W 26 5 none n c 0 0 Try.underlying26
    have hn0 : n = 0 := hl.symm
    subst hn0
    clear hr hl
    go_enter Try.func51, Try.ntmps51
    go_wp2
    go_ret
    exact ⟨_, rfl, ⟨rfl, .inl ⟨rfl, rfl⟩⟩, Below.refl _ _⟩
  | some a =>
    have HR := Lib.hid hr; have HL := Lib.hid hl
    have hq := fun W => Lib.run_eql_slice_nil (P := Try.prog) W 26 5 (some a) n c 0 0 Try.underlying26
    clear hr hl
    go_enter Try.func51, Try.ntmps51
    go_wp2_with (at_builtin; refine wpList_app sty22 (.tmp 5) (.tmp 6) rfl rfl w.heap.size (World.ownsRow_lit w #[] 0 (Nat.le_refl _) (by decide) rfl) rfl n c (HR.out.alloc hB _) rfl (by simp [bv, HL.out]) (by simp [bv, bt, Value.oneCell']) (by unfold maxLen; omega) (by omega) (by simp) ?_; intro v1 w1 own1 gr1 nil1 at1)
    have hb1 : Hid (Below w.heap.size w w1) := ((Below.refl _ _).alloc (Nat.le_refl _) _).grown gr1 (by simp) (by simp [Value.ownBlock])
    go_ret
    exact ⟨_, rfl, own_eq own1 (by omega) (by simp), hb1.out⟩
end Go.Proofs.Ytdmpimgbnhgiaaa

namespace Go.Proofs.Ytdmpimgbnhgiaaa
open Go.RowKit Go.St Go.Shelf
set_option linter.unusedVariables false
set_option linter.unusedSimpArgs false
set_option maxRecDepth 100000

/-- A slice that reads, of a row that lies in another block than tb. -/
def RdO (tb : Nat) (w : World) (A : Option Addr) (xs : List Value) : Prop := xs ≠ [] → ∃ b off, A = some ⟨b, off, none⟩ ∧ b ≠ tb ∧ b < w.heap.size ∧ ∀ i v, xs[i]? = some v → w.cell? ⟨b, off + i, none⟩ = some v
theorem RdO.rd {tb : Nat} {w : World} {A : Option Addr} {xs : List Value} (h : RdO tb w A xs) : Rd w w.heap.size A xs := fun hn => by
  obtain ⟨b, off, e, _, h2, h3⟩ := h hn
  exact ⟨b, off, e, h2, h3⟩
theorem RdO.oth {tb : Nat} {w w' : World} {A : Option Addr} {xs : List Value} (h : RdO tb w A xs) (k : OthB w.heap.size tb w w') : RdO tb w' A xs := fun hn => by
  obtain ⟨b, off, e, h1, h2, h3⟩ := h hn
  exact ⟨b, off, e, h1, Nat.lt_of_lt_of_le h2 k.size, fun i v hv => (World.cell?_of_block (a := ⟨b, off + i, none⟩) (k.block b h2 h1)).trans (h3 i v hv)⟩
theorem rdo_own {tb base s : Nat} {w : World} {e : TypeId} {A : Option Addr} {n c : Nat} {xs : List Value} (h : w.ownsRow base e s (.slice A n c) n xs) (hg : ∀ g, (Value.slice A n c).ownBlock = some g → g ≠ tb) : RdO tb w A xs := fun hn => by
  obtain ⟨A', c', e1, -, r⟩ := own_sl h
  injection e1 with e1
  subst e1
  obtain ⟨b, off, e2, h1, h2⟩ := r hn
  subst e2
  exact ⟨b, off, rfl, hg b rfl, h1, h2⟩
/-- A table that was opened, at block tb. -/
structure TbS (w : World) (tb : Nat) (Ab : Option Addr) (cb : Nat) (Ai : Option Addr) (ci : Nat) (Af : Option Addr) (cf : Nat) (p b : Nat) (l : List Ent) (X : List UInt8) (k : Nat) : Prop where
  x : BxV w tb [.slice Ab X.length cb, .slice Ai (nch p l) ci, .slice Af (fltB b l).length cf, .int .i64 (l.length : Nat), .int .i64 (k : Nat), .bool true]
  rb : RdO tb w Ab (bv X)
  ri : RdO tb w Ai (plv p l (nch p l))
  rf : RdO tb w Af (bv (fltB b l))
  cb : X.length ≤ cb
  xl : X.length ≤ 140000000
theorem TbS.oth {w w' : World} {tb : Nat} {Ab : Option Addr} {cb : Nat} {Ai : Option Addr} {ci : Nat} {Af : Option Addr} {cf : Nat} {p b : Nat} {l : List Ent} {X : List UInt8} {k k' : Nat} (h : TbS w tb Ab cb Ai ci Af cf p b l X k) (o : OthB w.heap.size tb w w')
    (x : BxV w' tb [.slice Ab X.length cb, .slice Ai (nch p l) ci, .slice Af (fltB b l).length cf, .int .i64 (l.length : Nat), .int .i64 (k' : Nat), .bool true]) : TbS w' tb Ab cb Ai ci Af cf p b l X k' :=
  ⟨x, h.rb.oth o, h.ri.oth o, h.rf.oth o, h.cb, h.xl⟩
theorem TbS.next {w w' : World} {tb : Nat} {Ab : Option Addr} {cb : Nat} {Ai : Option Addr} {ci : Nat} {Af : Option Addr} {cf : Nat} {p b : Nat} {l : List Ent} {X : List UInt8} {k : Nat} (h : TbS w tb Ab cb Ai ci Af cf p b l X k) (hb : Below w.heap.size w w') : TbS w' tb Ab cb Ai ci Af cf p b l X k := h.oth (OthB.of_below hb) (h.x.next hb)

theorem of8_le8 {a : Nat} (h : a < 18446744073709551616) (r : List UInt8) : of8 (le8 a ++ r) = a := by
  unfold of8
  rw [List.take_left' (le8_len a)]
  simp only [le8, List.foldr_cons, List.foldr_nil, UInt8.toNat_ofNat']
  omega
theorem foot_of8 {a t m : Nat} (ha : a < 9223372036854775808) (ht : t < 9223372036854775808) (hm : m < 9223372036854775808) : of8 (footB a t m) = a ∧ of8 ((footB a t m).drop 8) = t ∧ of8 ((footB a t m).drop 16) = m := by
  unfold footB
  refine ⟨?_, ?_, ?_⟩
  · rw [List.append_assoc]
    exact of8_le8 (by omega) _
  · rw [List.append_assoc, List.drop_left' (le8_len a)]
    exact of8_le8 (by omega) _
  · rw [List.drop_left' (by rw [List.length_append]; rfl)]
    have := of8_le8 (a := m) (by omega) []
    rwa [List.append_nil] at this
theorem footB_len (a t m : Nat) : (footB a t m).length = 24 := rfl
theorem rec_frame {r : List UInt8} (h : r.length ≤ 1048576) : recB (frameL r) = true ∧ readL (frameL r) = r := by
  obtain ⟨h1, h2, h3⟩ := readE_frame r [] h
  rw [List.append_nil] at h1 h2 h3
  refine ⟨?_, h3⟩
  unfold recB
  rw [decide_eq_true h1, decide_eq_true (by rw [h2, frameL_length])]
  rfl
theorem rec_burst {r : List UInt8} (h : r.length ≤ 1048576) {a : Int} {t : Nat} (ht : t < 4294967296) (h0 : t ≠ 0) (hok : burstOK (frameL r).length a t = true) : recB (burstL (frameL r) a t) = false := by
  have h1 := altered_read r [] h a t ht h0 hok
  rw [List.append_nil] at h1
  unfold recB
  rw [h1]
  rfl
theorem flt_len {b : Nat} (hb : b ≤ 16) {l : List Ent} (hl : l.length ≤ 150) : (fltB b l).length ≤ 400 := by
  have h1 : l.length * b ≤ 150 * 16 := Nat.mul_le_mul hl hb
  unfold fltB
  rw [bof_length]
  unfold bsize
  omega
theorem bof_chk (n b : Nat) (hn : n ≤ 1048576) (h1 : 1 ≤ b) (h2 : b ≤ 16) (keys : List (List UInt8)) : bchk (bof (brounds b) (bsize n b) keys) = 0 := by
  have hs := bsize_bd n b hn h2
  have hk := brounds_bd b h1 h2
  unfold bchk
  rw [bof_length, bof_head]
  rw [if_pos]
  rw [UInt8.toNat_ofNat']
  omega
theorem flt_ok {b : Nat} (hb : 1 ≤ b ∧ b ≤ 16) {l : List Ent} (hl : l.length ≤ 150) : bchk (fltB b l) = 0 := bof_chk l.length b (by omega) hb.1 hb.2 _
end Go.Proofs.Ytdmpimgbnhgiaaa

namespace Go.Proofs.Ytdmpimgbnhgiaaa
open Go.RowKit Go.St Go.Shelf Go.Maps
set_option linter.unusedVariables false
set_option linter.unusedSimpArgs false
set_option maxRecDepth 100000

theorem open_short (A : Option Addr) (n c : Nat) (h : n < 36) (w : World) :
    Calls Try.prog 17 #[.slice A n c] w fun e w' => e = .returned (.tuple #[.pointer none, .int .i64 6]) ∧ Below w.heap.size w w' := by
  have hw2 : wrap64 ((n : Int) - 36) < 0 := by rw [IntWalk.wrap64_in _ ⟨by omega, by omega⟩]; omega
  have hw3 : IntKind.i64.wrap ((n : Int) - 36) < 0 := by rw [IntWalk.i64_in _ (by omega)]; omega
  have hw4 : ((n : Int) - 36) < 0 := by omega
  go_enter Try.func17, Try.ntmps17
  go_wp2_with fail
  go_ret2
  exact ⟨rfl, Below.refl _ _⟩
set_option maxHeartbeats 1600000 in
theorem open_foot (A : Option Addr) (n c e0 : Nat) (X : List UInt8) (hl : X.length = n) (he : n = e0 + 36) (hn : n ≤ 140000000) (hnc : n ≤ c) (B : Nat) (w : World) (hr : Rd w B A (bv X)) (hB : B ≤ w.heap.size) (hbad : recB (X.drop e0) = false) :
    Calls Try.prog 17 #[.slice A n c] w fun e w' => e = .returned (.tuple #[.pointer none, .int .i64 6]) ∧ Below w.heap.size w w' := by
  have hw2 : wrap64 ((n : Int) - 36) = (e0 : Int) := by rw [IntWalk.wrap64_in _ ⟨by omega, by omega⟩]; omega
  have hw3 : IntKind.i64.wrap ((n : Int) - 36) = (e0 : Int) := by rw [IntWalk.i64_in _ (by omega)]; omega
  have hw4 : ((n : Int) - 36) = (e0 : Int) := by omega
  have HR := Lib.hid (hr.drop e0 (cap := c) (by rw [bv_length]; omega))
  rw [if_neg (show ¬ c = e0 by omega), show (bv X).drop e0 = bv (X.drop e0) by simp [bv]] at HR
  have HC := Lib.hid (record_any (A.map (·.add e0)) (n - e0) (c - e0) B (X.drop e0) (by rw [List.length_drop]; omega) (by omega) (by omega) w HR.out hB)
  rw [hbad] at HC
  have i0 : (0 : Int) ≤ (e0 : Int) := by omega
  have i1 : (e0 : Int) ≤ (n : Int) := by omega
  have i2 : (n : Int) ≤ (c : Int) := by omega
  have i3 : ¬ c = e0 := by omega
  clear hr he hl HR
  go_enter Try.func17, Try.ntmps17
  go_wp2_with fail
  refine HC.out.mono ?_
  rintro r w2 ⟨v, rfl, own, hb⟩
  have B2 := Lib.hid hb
  obtain ⟨A2, c2, rfl, -, -⟩ := own_sl own
  clear own hb HC
  go_wp2_with fail
  go_ret2
  exact ⟨rfl, B2.out⟩
/-- What opening answers: a table, or that the bytes are corrupt. -/
def OpP (good : Bool) (p b : Nat) (l : List Ent) (X : List UInt8) (w : World) (e : Ending) (w' : World) : Prop :=
  if good then ∃ tb Ab cb Ai ci Af cf, e = .returned (.tuple #[.pointer (some ⟨tb, 0, none⟩), .int .i64 0]) ∧ TbS w' tb Ab cb Ai ci Af cf p b l X 0 ∧ w.heap.size ≤ tb ∧ Below w.heap.size w w'
  else e = .returned (.tuple #[.pointer none, .int .i64 6]) ∧ Below w.heap.size w w'
theorem opP_no {p b : Nat} {l : List Ent} {X : List UInt8} {w : World} {e : Ending} {w' : World} (h : e = .returned (.tuple #[.pointer none, .int .i64 6]) ∧ Below w.heap.size w w') : OpP false p b l X w e w' := by
  unfold OpP
  rw [if_neg (by decide)]
  exact h
theorem rd_mid {w : World} {B : Nat} {A : Option Addr} {X F : List UInt8} {c : Nat} (h : Rd w B A (bv X)) (O R : List UInt8) (hX : X = O ++ (F ++ R)) (hc : X.length ≤ c) : Rd w B (if c = O.length then A else A.map (·.add O.length)) (bv F) := by
  have h1 := (h.drop O.length (cap := c) (by rw [bv_length]; exact hc)).take F.length
  have e : ((bv X).drop O.length).take F.length = bv F := by
    rw [hX, bv, List.map_append, List.map_append, List.drop_left' (by rw [List.length_map]), List.take_left' (by rw [List.length_map])]
    rfl
  rwa [e] at h1
set_option maxHeartbeats 6400000 in
theorem open_more (A : Option Addr) (n c p b : Nat) (hp : 1 ≤ p ∧ p ≤ 64) (hbt : 1 ≤ b ∧ b ≤ 16) (l : List Ent) (hl1 : 1 ≤ l.length) (hl2 : l.length ≤ 150) (hok : ∀ x ∈ l, okE x = true) (hris : risE l = true)
    (O F I X : List UInt8) (hO : O.length = (outP p l (nch p l)).length) (hF : (recB F = false ∧ F.length = (frameL (fltB b l)).length) ∨ F = frameL (fltB b l)) (hI : (recB I = false ∧ I.length = (frameL (idxB p l)).length) ∨ I = frameL (idxB p l))
    (hX : X = O ++ (F ++ (I ++ frameL (footB O.length (O.length + F.length) l.length)))) (hn : X.length = n) (hnc : n ≤ c) (hc : c ≤ 9223372036854775807) (B : Nat) (w : World) (hr : Rd w B A (bv X)) (hB : B ≤ w.heap.size) :
    Calls Try.prog 17 #[.slice A n c] w (OpP (recB F && recB I) p b l X w) := by
  have hfl := flt_len hbt.2 hl2
  have hil := idxB_len hp.1 hok hl2
  have hol := outP_len p l (nch p l)
  have hnl := nch_le hp.1 l
  have hF1 : F.length = (frameL (fltB b l)).length := by
    rcases hF with h | h
    · exact h.2
    · rw [h]
  have hI1 : I.length = (frameL (idxB p l)).length := by
    rcases hI with h | h
    · exact h.2
    · rw [h]
  rw [frameL_length] at hF1 hI1
  obtain ⟨a, ha⟩ : ∃ a, a = O.length := ⟨_, rfl⟩
  obtain ⟨t, ht⟩ : ∃ t, t = a + F.length := ⟨_, rfl⟩
  obtain ⟨e0, he⟩ : ∃ e0, e0 = t + I.length := ⟨_, rfl⟩
  obtain ⟨m, hm⟩ : ∃ m, m = l.length := ⟨_, rfl⟩
  rw [← ha, ← ht, ← hm] at hX
  have hfo : (frameL (footB a t m)).length = 36 := by rw [frameL_length, footB_len]
  have hne : n = e0 + 36 := by rw [← hn, hX, List.length_append, List.length_append, List.length_append, hfo]; omega
  have ha1 : a ≤ 60002000 := by rw [ha, hO]; omega
  have hdr : X.drop e0 = frameL (footB a t m) := by
    rw [hX, he, ht, ha, ← List.append_assoc, ← List.append_assoc, List.drop_left' (by rw [List.length_append, List.length_append])]
  have RF := rec_frame (r := footB a t m) (by rw [footB_len]; omega)
  have HR := Lib.hid hr
  have R0 := Lib.hid (hr.drop e0 (cap := c) (by rw [bv_length]; omega))
  rw [if_neg (show ¬ c = e0 by omega), show (bv X).drop e0 = bv (X.drop e0) by simp [bv]] at R0
  have HC := Lib.hid (record_any (A.map (·.add e0)) (n - e0) (c - e0) B (X.drop e0) (by rw [List.length_drop]; omega) (by omega) (by omega) w R0.out hB)
  rw [hdr, RF.1, RF.2] at HC
  have HX1 := Lib.hid hX
  have HXL := Lib.hid hn
  have HF := Lib.hid hF
  have HI := Lib.hid hI
  have HOK := Lib.hid hok
  have HRIS := Lib.hid hris
  have HA := Lib.hid ha
  have HAO : Hid (a = (outP p l (nch p l)).length) := Lib.hid (by rw [ha, hO])
  have HFL := Lib.hid (show F.length = t - a by omega)
  have HIL := Lib.hid (show I.length = e0 - t by omega)
  have HM := Lib.hid hm
  have hm1 : 1 ≤ m ∧ m ≤ 150 := by omega
  have hat : a + 12 ≤ t := by omega
  have hte : t + 12 ≤ e0 := by omega
  have hen : e0 ≤ 60100000 := by omega
  have hw2 : wrap64 ((n : Int) - 36) = (e0 : Int) := by rw [IntWalk.wrap64_in _ ⟨by omega, by omega⟩]; omega
  have hw3 : IntKind.i64.wrap ((n : Int) - 36) = (e0 : Int) := by rw [IntWalk.i64_in _ (by omega)]; omega
  have hw4 : ((n : Int) - 36) = (e0 : Int) := by omega
  have i0 : (0 : Int) ≤ (e0 : Int) := by omega
  have i1 : (e0 : Int) ≤ (n : Int) := by omega
  have i2 : (n : Int) ≤ (c : Int) := by omega
  have i3 : ¬ c = e0 := by omega
  have i4 : ¬ (e0 : Int) < 0 := by omega
  rw [footB_len] at HC
  obtain ⟨good, hgood⟩ : ∃ g, g = (recB F && recB I) := ⟨_, rfl⟩
  rw [← hgood]
  have HG := Lib.hid hgood
  clear hgood hX hn hF hI hok hris ha hO ht he hm hF1 hI1 hfl hil hol hnl hfo hdr RF hr R0 hl1 hl2 hne
  go_enter Try.func17, Try.ntmps17
  go_wp2_with fail
  refine HC.out.mono ?_
  rintro r w2 ⟨v, rfl, own, hb⟩
  obtain ⟨A2, c2, rfl, hc2, r2⟩ := own_sl own
  obtain ⟨gb, rfl⟩ := own_blkC own (by omega)
  have B2 := Lib.hid hb
  have R2 := Lib.hid r2
  clear own hb HC r2 i0 i1 i2 i3 i4 hw2 hw3 hw4
  have j1 : ¬ c2 = 8 := by omega
  have j2 : ¬ c2 = 16 := by omega
  have j3 : (8 : Int) ≤ (c2 : Int) := by omega
  have j4 : (16 : Int) ≤ (c2 : Int) := by omega
  have j5 : (24 : Int) ≤ (c2 : Int) := by omega
  obtain ⟨v1, v2, v3⟩ := foot_of8 (a := a) (t := t) (m := m) (by omega) (by omega) (by omega)
  have HUa : Hid (∀ W, Below w2.heap.size w2 W → Calls Try.prog 50 #[.slice (some ⟨gb, 0, none⟩) 24 c2] W fun e w' => e = .returned (.int .u64 (a : Int)) ∧ Below W.heap.size W w') := Lib.hid (fun W hb => by
    refine (uneight_any (some ⟨gb, 0, none⟩) 24 c2 w2.heap.size (footB a t m) (footB_len a t m) (by omega) W (R2.out.below hb) hb.size).mono ?_
    rintro e w' ⟨rfl, rfl⟩
    exact ⟨by rw [v1], Below.refl _ _⟩)
  have HUb : Hid (∀ W, Below w2.heap.size w2 W → Calls Try.prog 50 #[.slice (some ⟨gb, 8, none⟩) 16 (c2 - 8)] W fun e w' => e = .returned (.int .u64 (t : Int)) ∧ Below W.heap.size W w') := Lib.hid (fun W hb => by
    have h := (R2.out.below hb).drop 8 (cap := c2) (by rw [bv_length, footB_len]; omega)
    rw [if_neg j1, show (bv (footB a t m)).drop 8 = bv ((footB a t m).drop 8) by simp [bv]] at h
    refine (uneight_any (some ⟨gb, 8, none⟩) 16 (c2 - 8) w2.heap.size ((footB a t m).drop 8) (by rw [List.length_drop, footB_len]) (by omega) W h hb.size).mono ?_
    rintro e w' ⟨rfl, rfl⟩
    exact ⟨by rw [v2], Below.refl _ _⟩)
  have HUc : Hid (∀ W, Below w2.heap.size w2 W → Calls Try.prog 50 #[.slice (some ⟨gb, 16, none⟩) 8 (c2 - 16)] W fun e w' => e = .returned (.int .u64 (m : Int)) ∧ Below W.heap.size W w') := Lib.hid (fun W hb => by
    have h := (R2.out.below hb).drop 16 (cap := c2) (by rw [bv_length, footB_len]; omega)
    rw [if_neg j2, show (bv (footB a t m)).drop 16 = bv ((footB a t m).drop 16) by simp [bv]] at h
    refine (uneight_any (some ⟨gb, 16, none⟩) 8 (c2 - 16) w2.heap.size ((footB a t m).drop 16) (by rw [List.length_drop, footB_len]) (by omega) W h hb.size).mono ?_
    rintro e w' ⟨rfl, rfl⟩
    exact ⟨by rw [v3], Below.refl _ _⟩)
  clear v1 v2 v3
  go_upto_region 7 with (fail)
  refine wp_qall (by kernel_rfl) (by kernel_rfl) ?_
  intro hcg
  repeat (first | go_big_quiet_step ((with_reducible first | exact Calls.reg (HUa.out _ (below_regrown _ _ _)) | exact Calls.reg (HUb.out _ (below_regrown _ _ _)) | exact Calls.reg (HUc.out _ (below_regrown _ _ _)))) | quiet_step ((with_reducible first | exact Calls.reg (HUa.out _ (below_regrown _ _ _)) | exact Calls.reg (HUb.out _ (below_regrown _ _ _)) | exact Calls.reg (HUc.out _ (below_regrown _ _ _)))))
  refine wpQuiet_nil ?_
  intro wq hbwq hcwq hfwq
  clear hcg
  have B3 := Lib.hid (B2.out.trans (hbwq.mono B2.out.size))
  clear hbwq hcwq hfwq HUa HUb HUc R2 B2 j1 j2 j3 j4 j5 hc2
  obtain ⟨w3, rfl⟩ : ∃ x, x = wq := ⟨_, rfl⟩
  have g1 : ¬ (t : Int) < (a : Int) := by omega
  have g2 : ¬ (e0 : Int) < (t : Int) := by omega
  have g3 : ¬ (m : Int) < 1 := by omega
  have g4 : ¬ (65536 : Int) < (m : Int) := by omega
  have g5 : IntKind.u64.wrap (e0 : Int) = (e0 : Int) := IntWalk.u64_in _ (by omega)
  have g6 : IntKind.i64.wrap (m : Int) = (m : Int) := IntWalk.i64_in _ (by omega)
  have g7 : IntKind.i64.wrap (a : Int) = (a : Int) := IntWalk.i64_in _ (by omega)
  have hnn : n = e0 + 36 := by rw [← HXL.out, HX1.out, List.length_append, List.length_append, List.length_append, frameL_length, footB_len]; have := HA.out; have := HFL.out; have := HIL.out; omega
  have HNN := Lib.hid hnn
  have hn4 : n ≤ 60101000 := by omega
  have hen2 : e0 < n := by omega
  clear hnn
  go_wp2_with fail
  have hz03 := B3.out.size
  refine (bclone_any A n c B X HXL.out (by omega) w3 (HR.out.below (B3.out.mono hB)) (by omega)).mono ?_
  rintro r w4 ⟨v4, rfl, own4, hb⟩
  obtain ⟨A4, c4, rfl, hc4, -⟩ := own_sl own4
  have O4 := Lib.hid own4
  have B4 := Lib.hid (B3.out.trans (hb.mono hz03))
  have hz04 : w.heap.size ≤ w4.heap.size := B4.out.size
  clear own4 hb B3 g1 g2 g3 g4 g5
  go_upto_region 11 with (fail)
  have XT5 : Hid (BxV (w4.alloc (.cells #[.slice A4 n c4, .slice none 0 0, .slice none 0 0, .int .i64 (m : Int), .int .i64 0, .bool true] 52)) w4.heap.size [.slice A4 n c4, .slice none 0 0, .slice none 0 0, .int .i64 (m : Int), .int .i64 0, .bool true]) := Lib.hid (BxV.new w4 _ _)
  have ha : Below w4.heap.size w4 (w4.alloc (.cells #[.slice A4 n c4, .slice none 0 0, .slice none 0 0, .int .i64 (m : Int), .int .i64 0, .bool true] 52)) := (Below.refl _ _).alloc (Nat.le_refl _) _
  have O5 := Lib.hid (own_keep O4.out ha (Nat.le_refl _))
  have B5 := Lib.hid (B4.out.trans (ha.mono hz04))
  have HG5 : Hid (∀ g, (Value.slice A4 n c4).ownBlock = some g → g ≠ w4.heap.size) := Lib.hid (fun g hg => by have := (O4.out.lt g hg).2; omega)
  clear ha O4 B4
  generalize w4.alloc (.cells #[.slice A4 n c4, .slice none 0 0, .slice none 0 0, .int .i64 (m : Int), .int .i64 0, .bool true] 52) = w5 at *
  generalize w4.heap.size = tb at *
  have x0 := XT5.out.c 0 _ rfl
  have xl := XT5.out.lt
  have hca : ¬ c4 = a := by omega
  have RF := rd_mid (own_rdL O5.out) O _ HX1.out (c := c4) (by rw [HXL.out]; exact hc4)
  rw [← HA.out, if_neg hca] at RF
  have HRF := Lib.hid (record_any (A4.map (·.add a)) (t - a) (c4 - a) w5.heap.size F HFL.out (by omega) (by omega) w5 RF (Nat.le_refl _))
  obtain ⟨bF, hbF⟩ : ∃ bF, bF = recB F := ⟨_, rfl⟩
  obtain ⟨LF, hLF⟩ : ∃ LF, LF = readL F := ⟨_, rfl⟩
  rw [← hbF, ← hLF] at HRF
  have HBF := Lib.hid hbF
  have HLF := Lib.hid hLF
  clear hbF hLF
  have k0 : (0 : Int) ≤ (a : Int) := by omega
  have k1 : (a : Int) ≤ (t : Int) := by omega
  have k2 : (t : Int) ≤ (c4 : Int) := by omega
  have k3 : (n : Int) ≤ (c4 : Int) := by omega
  have k4 : (t : Int) ≤ (n : Int) := by omega
  have k5 : ((t : Int) - (a : Int)) = ((t - a : Nat) : Int) := by omega
  clear RF
  go_wp2_with fail
  refine HRF.out.mono ?_
  rintro r w6 ⟨v6, rfl, own6, hb⟩
  obtain ⟨A6, c6, rfl, hc6, -⟩ := own_sl own6
  have O6 := Lib.hid own6
  have XT6 := Lib.hid (XT5.out.next hb)
  have OB6 := Lib.hid (own_keep O5.out hb (Nat.le_refl _))
  have B6 := Lib.hid (B5.out.trans (hb.mono B5.out.size))
  have htb6 : tb < w5.heap.size := XT5.out.lt
  have hz56 := hb.size
  clear own6 hb HRF XT5 O5 B5 x0 xl k0 k1 k2 k3 k4 k5
  have x2 := XT6.out.c 2 _ rfl
  have xf := XT6.out.fz
  have xl := XT6.out.lt
  go_upto_region 12 with (fail)
  have XT7 := Lib.hid (bxv_put XT6.out 2 (by simp) (.slice A6 LF.length c6))
  have OB7 : Hid ((w6.setCell ⟨tb, 2, none⟩ (.slice A6 LF.length c6)).ownsRow w3.heap.size 5 1 (.slice A4 n c4) n (bv X)) := Lib.hid (ownsRow_of OB6.out (fun g hg => Below.heap_setCell _ _ _ _ (HG5.out g hg)))
  have HG6 : Hid (∀ g, (Value.slice A6 LF.length c6).ownBlock = some g → g ≠ tb) := Lib.hid (fun g hg => by have := (O6.out.lt g hg).1; omega)
  have O7 : Hid ((w6.setCell ⟨tb, 2, none⟩ (.slice A6 LF.length c6)).ownsRow w5.heap.size 5 1 (.slice A6 LF.length c6) LF.length (bv LF)) := Lib.hid (ownsRow_of O6.out (fun g hg => Below.heap_setCell _ _ _ _ (HG6.out g hg)))
  have B7 := Lib.hid (B6.out.setCell (p := ⟨tb, 2, none⟩) (by show w.heap.size ≤ tb; omega) (.slice A6 LF.length c6))
  have hz67 : (w6.setCell ⟨tb, 2, none⟩ (.slice A6 LF.length c6)).heap.size = w6.heap.size := by simp
  clear XT6 OB6 O6 B6 x2 xf xl
  generalize w6.setCell ⟨tb, 2, none⟩ (.slice A6 LF.length c6) = w7 at *
  have x2 := XT7.out.c 2 _ rfl
  have xl := XT7.out.lt
  cases bF
  · have SEQ : Hid (good = false) := Lib.hid (by rw [HG.out, ← HBF.out]; rfl)
    go_wp2_with fail
    go_ret2
    rw [SEQ.out]
    exact opP_no ⟨rfl, B7.out⟩
  have HFE : Hid (LF = fltB b l) := Lib.hid (by
    rcases HF.out with h | h
    · have h1 := HBF.out
      rw [h.1] at h1
      cases h1
    · rw [HLF.out, h, (rec_frame (by have := flt_len hbt.2 (show l.length ≤ 150 by have := HM.out; omega); omega)).2])
  go_wp2_with fail
  refine (bcheck_any A6 LF.length c6 w7.heap.size LF rfl w7 (own_rdL O7.out)).mono ?_
  rintro e _ ⟨rfl, rfl⟩
  rw [show bchk LF = 0 by rw [HFE.out]; exact flt_ok hbt (by have := HM.out; omega)]
  have x0 := XT7.out.c 0 _ rfl
  have hcb : ¬ c4 = t := by omega
  have RI := rd_mid (own_rdL OB7.out) (O ++ F) (F := I) (frameL (footB a t m)) (by rw [HX1.out, List.append_assoc]) (c := c4) (by rw [HXL.out]; exact hc4)
  rw [List.length_append, ← HA.out, HFL.out, show a + (t - a) = t by omega, if_neg hcb] at RI
  have HRI := Lib.hid (record_any (A4.map (·.add t)) (e0 - t) (c4 - t) w7.heap.size I HIL.out (by omega) (by omega) w7 RI (Nat.le_refl _))
  obtain ⟨bI, hbI⟩ : ∃ bI, bI = recB I := ⟨_, rfl⟩
  obtain ⟨LI, hLI⟩ : ∃ LI, LI = readL I := ⟨_, rfl⟩
  rw [← hbI, ← hLI] at HRI
  have HBI := Lib.hid hbI
  have HLI := Lib.hid hLI
  clear hbI hLI
  have k0 : (0 : Int) ≤ (t : Int) := by omega
  have k1 : (t : Int) ≤ (e0 : Int) := by omega
  have k2 : (e0 : Int) ≤ (c4 : Int) := by omega
  have k3 : (n : Int) ≤ (c4 : Int) := by omega
  have k4 : (e0 : Int) ≤ (n : Int) := by omega
  have k5 : ((e0 : Int) - (t : Int)) = ((e0 - t : Nat) : Int) := by omega
  clear RI
  go_wp2_with fail
  refine HRI.out.mono ?_
  rintro r w8 ⟨v8, rfl, own8, hb⟩
  obtain ⟨A8, c8, rfl, hc8, r8⟩ := own_sl own8
  have R8 := Lib.hid r8
  have XT8 := Lib.hid (XT7.out.next hb)
  have OB8 := Lib.hid (own_keep OB7.out hb (Nat.le_refl _))
  have O8 := Lib.hid (own_keep O7.out hb (Nat.le_refl _))
  have B8 := Lib.hid (B7.out.trans (hb.mono B7.out.size))
  have hz78 := hb.size
  have hcI : c8 ≤ 9223372036854775807 := by
    rcases own8.2 with ⟨h', _⟩ | ⟨g, cap, cur, h', _, _, _, h2, _⟩
    · injection h' with _ _ h3
      omega
    · injection h' with _ _ h3
      unfold maxLen at h2
      omega
  clear own8 r8 hb HRI XT7 OB7 O7 B7 x0 x2 xl k0 k1 k2 k3 k4 k5
  cases bI
  · have SEQ : Hid (good = false) := Lib.hid (by rw [HG.out, ← HBF.out, ← HBI.out]; rfl)
    go_wp2_with fail
    go_ret2
    rw [SEQ.out]
    exact opP_no ⟨rfl, B8.out⟩
  have hl150 : 1 ≤ l.length ∧ l.length ≤ 150 := by have := HM.out; omega
  have HIE : LI = idxB p l := by
    rcases HI.out with h | h
    · have h1 := HBI.out
      rw [h.1] at h1
      cases h1
    · rw [HLI.out, h, (rec_frame (by have := idxB_len hp.1 HOK.out hl150.2; omega)).2]
  have HIX := indexed_any A8 LI.length c8 p hp l hl150.2 hl150.1 HOK.out HRIS.out (by rw [HIE]) hc8 hcI w8.heap.size w8 (by rw [← HIE]; exact R8.out) (Nat.le_refl _)
  rw [← HAO.out] at HIX
  have HIX := Lib.hid HIX
  have SEQ : Hid (good = true) := Lib.hid (by rw [HG.out, ← HBF.out, ← HBI.out]; rfl)
  obtain ⟨N, hN⟩ : ∃ N, N = nch p l := ⟨_, rfl⟩
  rw [← hN] at HIX
  have HN := Lib.hid hN
  clear HIE hN
  go_wp2_with fail
  refine HIX.out.mono ?_
  rintro r w9 ⟨A9, c9, rfl, own9, hb⟩
  have O9 := Lib.hid own9
  have XT9 := Lib.hid (XT8.out.next hb)
  have OB9 := Lib.hid (own_keep OB8.out hb (Nat.le_refl _))
  have OF9 := Lib.hid (own_keep O8.out hb (Nat.le_refl _))
  have B9 := Lib.hid (B8.out.trans (hb.mono B8.out.size))
  have HG9 : Hid (∀ g, (Value.slice A9 N c9).ownBlock = some g → g ≠ tb) := Lib.hid (fun g hg => by have := (own9.lt g hg).1; have := XT8.out.lt; omega)
  clear own9 hb HIX XT8 OB8 O8 B8 R8
  have x1 := XT9.out.c 1 _ rfl
  have xf := XT9.out.fz
  have xl := XT9.out.lt
  go_wp2_with fail
  have XT10 := Lib.hid (bxv_put XT9.out 1 (by simp) (.slice A9 N c9))
  have OB10 : Hid ((w9.setCell ⟨tb, 1, none⟩ (.slice A9 N c9)).ownsRow w3.heap.size 5 1 (.slice A4 n c4) n (bv X)) := Lib.hid (ownsRow_of OB9.out (fun g hg => Below.heap_setCell _ _ _ _ (HG5.out g hg)))
  have OF10 : Hid ((w9.setCell ⟨tb, 1, none⟩ (.slice A9 N c9)).ownsRow w5.heap.size 5 1 (.slice A6 LF.length c6) LF.length (bv LF)) := Lib.hid (ownsRow_of OF9.out (fun g hg => Below.heap_setCell _ _ _ _ (HG6.out g hg)))
  have OI10 : Hid ((w9.setCell ⟨tb, 1, none⟩ (.slice A9 N c9)).ownsRow w8.heap.size 93 6 (.slice A9 N c9) N (plv p l N)) := Lib.hid (ownsRow_of O9.out (fun g hg => Below.heap_setCell _ _ _ _ (HG9.out g hg)))
  have B10 := Lib.hid (B9.out.setCell (p := ⟨tb, 1, none⟩) (by show w.heap.size ≤ tb; omega) (.slice A9 N c9))
  clear XT9 OB9 OF9 O9 B9 x1 xf xl
  generalize w9.setCell ⟨tb, 1, none⟩ (.slice A9 N c9) = w10 at *
  go_ret2
  rw [SEQ.out]
  unfold OpP
  rw [if_pos rfl]
  refine ⟨tb, A4, c4, A9, c9, A6, c6, rfl, ⟨?_, ?_, ?_, ?_, ?_, ?_⟩, by omega, B10.out⟩
  · have h := XT10.out
    rw [HXL.out, ← HN.out, ← HFE.out, ← HM.out]
    exact h
  · exact rdo_own OB10.out HG5.out
  · rw [← HN.out]
    exact rdo_own OI10.out HG9.out
  · rw [← HFE.out]
    exact rdo_own OF10.out HG6.out
  · rw [HXL.out]
    exact hc4
  · rw [HXL.out]
    omega
end Go.Proofs.Ytdmpimgbnhgiaaa
