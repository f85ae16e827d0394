/- Walk: a block is read. -/
import Derived.Test.YtdmpimgbnhgiaaaZEf
import Derived.Test.YtdmpimgbnhgiaaaZEn
import Derived.Test.YtdmpimgbnhgiaaaZEo
import Derived.Laws.EntriesVeiled
import Derived.Deep.CutRange

namespace Go.Proofs.Ytdmpimgbnhgiaaa
open Go.RowKit Go.St Go.Maps
set_option linter.unusedVariables false
set_option linter.unusedSimpArgs false
set_option maxRecDepth 100000

def pE (last : ByteArray) (r : List UInt8) : Option (Ent × List UInt8) :=
  (smU r last.size).bind fun q1 => (pT 512 (r.drop q1.2)).bind fun q2 => (smU q2.2 1073741824).bind fun q3 => (smU (q2.2.drop q3.2) 1).bind fun q4 =>
    if q4.1 = 1 then some (⟨last.extract 0 q1.1 ++ q2.1, zB, (q3.1 : Int), true⟩, (q2.2.drop q3.2).drop q4.2)
    else (pT 4096 ((q2.2.drop q3.2).drop q4.2)).bind fun q5 => some (⟨last.extract 0 q1.1 ++ q2.1, q5.1, (q3.1 : Int), false⟩, q5.2)
def pL : Nat → ByteArray → List UInt8 → Option (List Ent × List UInt8)
  | 0, _, r => some ([], r)
  | n + 1, last, r => (pE last r).bind fun q => (pL n q.1.key q.2).map fun z => (q.1 :: z.1, z.2)
def pB (bs : List UInt8) : Option (List Ent × List UInt8) := (smU bs 64).bind fun q => pL q.1 zB (bs.drop q.2)
def decO (bs : List UInt8) : Option (List Ent) := (pB bs).bind fun q => if q.2 = [] ∧ chkL q.1 = 0 ∧ encL q.1 = bs then some q.1 else none
def decL (bs : List UInt8) : List Ent := (decO bs).getD []
def decE (bs : List UInt8) : Int := if (decO bs).isSome then 0 else 5
theorem dec_none {bs : List UInt8} (h : decO bs = none) : decL bs = [] ∧ decE bs = 5 := by unfold decL decE; rw [h]; exact ⟨rfl, rfl⟩
theorem dec_some {bs : List UInt8} {l : List Ent} (h : decO bs = some l) : decL bs = l ∧ decE bs = 0 := by unfold decL decE; rw [h]; exact ⟨rfl, rfl⟩

theorem DS.put {w : World} {p : Nat} {A : Option Addr} {n c : Nat} {bs : List UInt8} {bad : Bool} (h : DS w p A n c bs bad) {b : Nat} (hb : p + 2 < b) (o : Nat) (v : Value) : DS (w.setCell ⟨b, o, none⟩ v) p A n c bs bad := by
  refine ⟨by simpa using h.lt, ?_, ?_, ?_, ?_, ?_, ?_, h.hl, h.nc, h.hn, h.hc⟩
  · rw [World.cell?_setCell_far _ _ _ _ (show (⟨b, o, none⟩ : Addr).block ≠ (⟨p, 0, none⟩ : Addr).block by show b ≠ p; omega)]; exact h.c4
  · simpa using h.f4
  · rw [World.cell?_setCell_far _ _ _ _ (show (⟨b, o, none⟩ : Addr).block ≠ (⟨p + 1, 0, none⟩ : Addr).block by show b ≠ p + 1; omega)]; exact h.c5
  · simpa using h.f5
  · rw [World.cell?_setCell_far _ _ _ _ (show (⟨b, o, none⟩ : Addr).block ≠ (⟨p + 2, 0, none⟩ : Addr).block by show b ≠ p + 2; omega)]; exact h.c6
  · exact h.rd.setCell (by show p ≤ b; omega) _
theorem BxV.two {W W' : World} {p b : Nat} {xs : List Value} (h : BxV W b xs) (t : Two p W W') (h1 : p + 1 < b) : BxV W' b xs :=
  ⟨Nat.lt_of_lt_of_le h.lt t.size, fun o => (t.frozen (q := ⟨b, o, none⟩) h.lt (by show b ≠ p; omega) (by show b ≠ p + 1; omega)).trans (h.fz o), fun i v hv => (t.cell (q := ⟨b, i, none⟩) h.lt (by show b ≠ p; omega) (by show b ≠ p + 1; omega)).trans (h.c i v hv)⟩
theorem BxV.put {W : World} {b : Nat} {xs : List Value} (h : BxV W b xs) (i : Nat) (hi : i < xs.length) (v : Value) : BxV (W.setCell ⟨b, i, none⟩ v) b (xs.set i v) := by
  refine ⟨by simpa using h.lt, fun o => by simpa using h.fz o, fun j u hu => ?_⟩
  by_cases e : i = j
  · subst e
    rw [List.getElem?_set_self hi] at hu
    injection hu with hu
    subst hu
    exact World.cell?_setCell_same W ⟨b, i, none⟩ v (by rw [h.c i _ (List.getElem?_eq_getElem hi)])
  · rw [List.getElem?_set_ne e] at hu
    rw [World.cell?_setCell_other W ⟨b, i, none⟩ ⟨b, j, none⟩ v (fun e2 => by injection e2 with _ e3; exact e e3)]
    exact h.c j u hu
theorem own_two {W W' : World} {p base n size : Nat} {e : TypeId} {v : Value} {xs : List Value} (h : W.ownsRow base e size v n xs) (t : Two p W W') (hb : p + 1 < base) : W'.ownsRow base e size v n xs :=
  ownsRow_of h (fun g hg => by
    have h1 := h.lt g hg
    exact t.block g h1.2 (by omega) (by omega))

theorem DS.nextB {w w' : World} {p B : Nat} {A : Option Addr} {n c : Nat} {bs : List UInt8} {bad : Bool} (h : DS w p A n c bs bad) (hb : Below B w w') (hB : p + 2 < B) : DS w' p A n c bs bad := by
  have l := h.lt
  exact ⟨Nat.lt_of_lt_of_le h.lt hb.size, (hb.cell (p := ⟨p, 0, none⟩) (by show p < _; omega)).trans h.c4, (hb.frozen (p := ⟨p, 0, none⟩) (by show p < _; omega)).trans h.f4, (hb.cell (p := ⟨p + 1, 0, none⟩) (by show p + 1 < _; omega)).trans h.c5, (hb.frozen (p := ⟨p + 1, 0, none⟩) (by show p + 1 < _; omega)).trans h.f5, (hb.cell (p := ⟨p + 2, 0, none⟩) (by show p + 2 < _; omega)).trans h.c6, h.rd.below (hb.mono (by omega)), h.hl, h.nc, h.hn, h.hc⟩
theorem DS.start (w : World) (A : Option Addr) (n c : Nat) (bs : List UInt8) (B : Nat) (hr : Rd w B A (bv bs)) (hB : B ≤ w.heap.size) (hl : bs.length = n) (hnc : n ≤ c) (hc : c ≤ 9223372036854775807) (hn : n ≤ 100000000) :
    DS (((w.alloc (.cells #[.slice A n c] 26)).alloc (.cells #[.bool false] 4)).alloc (.cells #[smallF w.heap.size] 125)) w.heap.size A n c bs false := by
  have a := ((BxV.new w #[.slice A n c] 26).alloc (.cells #[.bool false] 4)).alloc (.cells #[smallF w.heap.size] 125)
  have b := (BxV.new (w.alloc (.cells #[.slice A n c] 26)) #[.bool false] 4).alloc (.cells #[smallF w.heap.size] 125)
  have d := BxV.new ((w.alloc (.cells #[.slice A n c] 26)).alloc (.cells #[.bool false] 4)) #[smallF w.heap.size] 125
  simp only [World.size_alloc] at b d
  exact ⟨d.lt, a.c 0 _ rfl, a.fz 0, b.c 0 _ rfl, b.fz 0, d.c 0 _ rfl, (hr.below ((((Below.refl _ _).alloc hB _).alloc (by simp; omega) _).alloc (by simp; omega) _)).more hB, hl, hnc, hn, hc⟩
theorem BxV.grown {W W' : World} {b : Nat} {xs : List Value} {row : Option Nat} (h : BxV W b xs) (g : W.grownBy W' row) (hne : row ≠ some b) : BxV W' b xs :=
  ⟨Nat.lt_of_lt_of_le h.lt g.size, fun o => (World.frozen?_of_block (a := ⟨b, o, none⟩) (g.block b h.lt (fun e => hne e.symm))).trans (h.fz o), fun i v hv => g.cell (h.c i v hv) (fun e => hne e.symm)⟩
theorem txO_bad {p : Nat} {w : World} {e : Ending} {w' : World} {o : Option (ByteArray × List UInt8)} (h : TxO p o w e w') (ho : o = none) : e = .returned (.string zB) ∧ (∃ A n c bs', DS w' p A n c bs' true) ∧ Two p w w' := by
  subst ho
  exact h
theorem txO_ok {p : Nat} {w : World} {e : Ending} {w' : World} {o : Option (ByteArray × List UInt8)} {s : ByteArray} {r : List UInt8} (h : TxO p o w e w') (ho : o = some (s, r)) : e = .returned (.string s) ∧ (∃ A n c, DS w' p A n c r false) ∧ Two p w w' := by
  subst ho
  exact h
/-- What is known of the reader between two entries. -/
def RdS (W : World) (p : Nat) (P : Option (List Ent × List UInt8)) (out : List Ent) (last : ByteArray) (m : Nat) : Prop :=
  (P = none ∧ ∃ A n c b', DS W p A n c b' true) ∨ (∃ A n c b', DS W p A n c b' false ∧ P = (pL m last b').map fun z => (out ++ z.1, z.2))
/-- The box of an entry that is being read, and the reader. -/
structure Box (w W : World) (p bx : Nat) (K : ByteArray) (v : ByteArray) (s : Int) (d : Bool) : Prop where
  b : BxV W bx [.string K, .string v, .int .i64 s, .bool d]
  h : p + 2 < bx
  t : Two p w W
theorem pT_size {most : Int} {r r' : List UInt8} {s : ByteArray} (h : pT most r = some (s, r')) : (s.size : Int) ≤ most := by
  unfold pT at h
  cases hq : smU r most with
  | none => rw [hq] at h; cases h
  | some q =>
    obtain ⟨x, k⟩ := q
    rw [hq, Option.bind_some] at h
    split at h
    · cases h
    · injection h with h
      injection h with h1 h2
      have h3 := (smU_sound hq).2.2
      subst h1
      have : (⟨((r.drop k).take x).toArray⟩ : ByteArray).size ≤ x := by
        show (((r.drop k).take x).toArray).size ≤ x
        rw [List.size_toArray, List.length_take]
        omega
      simp only at h3 this ⊢
      omega

theorem first_small {w : World} {p : Nat} {A : Option Addr} {n c : Nat} {bs : List UInt8} (H : DS w p A n c bs false) :
    Calls Try.prog 91 #[.int .i64 64, .pointer (some ⟨p, 0, none⟩), .pointer (some ⟨p + 1, 0, none⟩)] w fun e w' => ∃ m : Nat, e = .returned (.int .i64 (m : Int)) ∧ m ≤ 64 ∧ RdS w' p (pB bs) [] zB m ∧ Two p w w' := by
  have h := dsmall_any 64 (by omega) p A n c bs false w H
  cases hs : smU bs 64 with
  | none =>
    refine h.mono (fun e w' h => ?_)
    obtain ⟨h1, h2, h3⟩ := smO_bad h (show smB false bs 64 = none from hs)
    exact ⟨0, h1, by omega, .inl ⟨by unfold pB; rw [hs]; rfl, h2⟩, h3⟩
  | some q =>
    obtain ⟨x, k⟩ := q
    refine h.mono (fun e w' h => ?_)
    obtain ⟨h1, ⟨A2, n2, c2, h2⟩, h3⟩ := smO_ok h (show smB false bs 64 = some (x, k) from hs)
    exact ⟨x, h1, by have := (smU_sound hs).2.2; omega, .inr ⟨A2, n2, c2, _, h2, by
      unfold pB
      rw [hs, Option.bind_some]
      cases pL x zB (bs.drop k) <;> simp⟩, h3⟩
theorem ext0_size (s : ByteArray) (k : Nat) : (s.extract 0 k).size ≤ s.size := by
  have h : (s.extract 0 k).data.toList.length = (s.extract 0 k).size := Array.length_toList
  have h2 : s.data.toList.length = s.size := Array.length_toList
  rw [Lib.extract_data, List.drop_zero, List.length_take] at h
  omega
theorem own_far {w : World} {base : Nat} {e : TypeId} {s n : Nat} {v : Value} {xs : List Value} {b o : Nat} (h : w.ownsRow base e s v n xs) (hne : ∀ g, v.ownBlock = some g → g ≠ b) (u : Value) : (w.setCell ⟨b, o, none⟩ u).ownsRow base e s v n xs :=
  ownsRow_of h (fun g hg => Below.heap_setCell _ _ _ _ (fun e => hne g hg e))
theorem Box.two {w W W' : World} {p bx : Nat} {K v : ByteArray} {s : Int} {d : Bool} (h : Box w W p bx K v s d) (t : Two p W W') : Box w W' p bx K v s d := ⟨BxV.two h.b t (by have := h.h; omega), h.h, h.t.trans t⟩

theorem DS.puts {p : Nat} {A : Option Addr} {n c : Nat} {bs : List UInt8} {bad : Bool} {b : Nat} (hb : p + 2 < b) : ∀ (vs : List Value) (o : Nat) (w : World), DS w p A n c bs bad → DS (w.setCells b o vs) p A n c bs bad
  | [], _, _, h => h
  | v :: r, o, w, h => by rw [World.setCells]; exact DS.puts hb r _ _ (h.put hb _ _)
theorem two_puts {p b : Nat} {w0 : World} (hb : p + 2 < b) (h0 : w0.heap.size ≤ b) : ∀ (vs : List Value) (o : Nat) (w : World), Two p w0 w → Two p w0 (w.setCells b o vs)
  | [], _, _, h => h
  | v :: r, o, w, h => by
    rw [World.setCells]
    exact two_puts hb h0 r _ _ ⟨h.os, h.tape, h.output, by simpa using h.size, fun k hk h1 h2 => (Below.heap_setCell _ _ _ _ (by show k ≠ b; omega)).trans (h.block k hk h1 h2)⟩
theorem Box.put1 {w W : World} {p bx : Nat} {K v : ByteArray} {s : Int} {d : Bool} (h : Box w W p bx K v s d) (hb : w.heap.size ≤ bx) (v' : ByteArray) : Box w (W.setCell ⟨bx, 1, none⟩ (.string v')) p bx K v' s d :=
  ⟨BxV.put h.b 1 (by simp) _, h.h, by have := two_puts h.h hb [.string v'] 1 W h.t; rwa [World.setCells, World.setCells] at this⟩
theorem Box.put2 {w W : World} {p bx : Nat} {K v : ByteArray} {s : Int} {d : Bool} (h : Box w W p bx K v s d) (hb : w.heap.size ≤ bx) (s' : Int) : Box w (W.setCell ⟨bx, 2, none⟩ (.int .i64 s')) p bx K v s' d :=
  ⟨BxV.put h.b 2 (by simp) _, h.h, by have := two_puts h.h hb [.int .i64 s'] 2 W h.t; rwa [World.setCells, World.setCells] at this⟩
theorem Box.put3 {w W : World} {p bx : Nat} {K v : ByteArray} {s : Int} {d : Bool} (h : Box w W p bx K v s d) (hb : w.heap.size ≤ bx) (d' : Bool) : Box w (W.setCell ⟨bx, 3, none⟩ (.bool d')) p bx K v s d' :=
  ⟨BxV.put h.b 3 (by simp) _, h.h, by have := two_puts h.h hb [.bool d'] 3 W h.t; rwa [World.setCells, World.setCells] at this⟩
set_option maxHeartbeats 12800000 in
theorem decode_any (A : Option Addr) (n c B : Nat) (bs : List UInt8) (hl : bs.length = n) (hnc : n ≤ c) (hc : c ≤ 9223372036854775807) (hn : n ≤ 1000000) (w : World) (hr : Rd w B A (bv bs)) (hB : B ≤ w.heap.size) :
    Calls Try.prog 81 #[.slice A n c] w fun e w' => ∃ v, e = .returned (.tuple #[v, .int .i64 (decE bs)]) ∧ w'.ownsRow w.heap.size 40 4 v (decL bs).length (env (decL bs)) ∧ Below w.heap.size w w' := by
  have HL := Lib.hid hl
  have HR := Lib.hid hr
  have DD := Lib.hid (DS.start w A n c bs B hr hB hl hnc hc (by omega))
  clear hl hr
  obtain ⟨V, hV⟩ : ∃ V, V = decO bs := ⟨_, rfl⟩
  have HV := Lib.hid hV
  have HVB := Lib.hid hV
  clear hV
  obtain ⟨P, hP⟩ : ∃ P, P = pB bs := ⟨_, rfl⟩
  have HP := Lib.hid hP.symm
  clear hP
  go_enter Try.func81, Try.ntmps81
  go_wp2_with fail
  have BW1 : Hid (Below w.heap.size w (((w.alloc (.cells #[.slice A n c] 26)).alloc (.cells #[.bool false] 4)).alloc (.cells #[smallF w.heap.size] 125))) := Lib.hid ((((Below.refl _ _).alloc (Nat.le_refl _) _).alloc (by simp) _).alloc (by simp; omega) _)
  change Calls _ _ _ (((w.alloc (.cells #[.slice A n c] 26)).alloc (.cells #[.bool false] 4)).alloc (.cells #[smallF w.heap.size] 125)) _
  have hz3 : w.heap.size + 3 ≤ (((w.alloc (.cells #[.slice A n c] 26)).alloc (.cells #[.bool false] 4)).alloc (.cells #[smallF w.heap.size] 125)).heap.size := by simp
  generalize (((w.alloc (.cells #[.slice A n c] 26)).alloc (.cells #[.bool false] 4)).alloc (.cells #[smallF w.heap.size] 125)) = w1 at *
  obtain ⟨p, hp⟩ : ∃ p, p = w.heap.size := ⟨_, rfl⟩
  have HR1 := Lib.hid (HR.out.more (show B ≤ p by omega))
  rw [← hp] at DD hz3 BW1 ⊢
  have HPZ := Lib.hid hp
  clear hp
  refine (first_small DD.out).mono ?_
  rintro e w2 ⟨m0, rfl, hm0, R2, T2⟩
  rw [HP.out] at R2
  have RS2 := Lib.hid R2
  have BW2 := Lib.hid (BW1.out.trans (T2.to_below (by omega)))
  have hz2 : p + 3 ≤ w2.heap.size := by have := T2.size; omega
  clear R2 T2 BW1 DD hz3
  go_wp2_with fail
  go_loopw [8, 9, 10] (fun s8 s9 s10 wr => ∃ (A5 : Option Addr) (c5 : Nat) (out : List Ent) (last : ByteArray) (m : Nat), s8 = .slice A5 out.length c5 ∧ s9 = .string last ∧ s10 = .int .i64 (m : Int) ∧ out.length + m ≤ 64 ∧ last.size + m * 512 ≤ 40000 ∧ p + 3 ≤ wr.heap.size ∧ Hid (∀ x ∈ out, x.key.size ≤ 40000) ∧ Hid (wr.ownsRow (p + 3) 40 4 (.slice A5 out.length c5) out.length (env out)) ∧ Hid (RdS wr p P out last m) ∧ Hid (Below p w wr)) (fun _ _ s10 _ => (intOf s10).toNat)
  case atStart => exact ⟨none, 0, [], zB, m0, rfl, rfl, rfl, by simpa using hm0, by show 0 + m0 * 512 ≤ 40000; omega, hz2, Lib.hid (by simp), Lib.hid (World.ownsRow_nil _ _ _ _), RS2, BW2⟩
  case round =>
    clear RS2 BW2 hz2
    obtain ⟨A5, c5, out, last, m, rfl, rfl, rfl, hom, hls, hz3, HK, OW, RS, BW⟩ := hrel
    obtain ⟨w3, rfl⟩ : ∃ x, x = wr := ⟨_, rfl⟩
    rcases RS.out with ⟨hP0, A6, n6, c6, b6, D⟩ | ⟨A6, n6, c6, b6, D, hP1⟩
    · have HP0 := Lib.hid hP0
      have d5 := D.c5
      have zp1 : p + 1 < w3.heap.size := by omega
      clear hP0 D
      by_cases hm : 0 < m
      · have hm1 : (0 : Int) < (m : Int) := by omega
        have SEQ : Hid (V = none) := Lib.hid (by rw [HV.out]; unfold decO; rw [HP.out, HP0.out]; rfl)
        have SE := dec_none (HVB.out.symm.trans SEQ.out)
        have SE1 := Lib.hid SE.1
        have SE2 := Lib.hid SE.2
        clear SE
        go_wp2_with fail
        go_ret2
        exact ⟨_, by rw [SE2.out]; rfl, by rw [SE1.out]; exact World.ownsRow_nil _ _ _ _, by rw [← HPZ.out]; exact BW.out⟩
      · have hm1 : ¬ (0 : Int) < (m : Int) := by omega
        have SEQ : Hid (V = none) := Lib.hid (by rw [HV.out]; unfold decO; rw [HP.out, HP0.out]; rfl)
        have SE := dec_none (HVB.out.symm.trans SEQ.out)
        have SE1 := Lib.hid SE.1
        have SE2 := Lib.hid SE.2
        clear SE
        go_wp2_with fail
        go_ret2
        exact ⟨_, by rw [SE2.out]; rfl, by rw [SE1.out]; exact World.ownsRow_nil _ _ _ _, by rw [← HPZ.out]; exact BW.out⟩
    · have HP1 := Lib.hid hP1
      have DH := Lib.hid D
      have d5 := D.c5
      have d4 := D.c4
      have d6 : w3.cell? ⟨p + 1 + 1, 0, none⟩ = some (smallF p) := D.c6
      unfold smallF at d6
      have zp0 : p < w3.heap.size := by omega
      have zp1 : p + 1 < w3.heap.size := by omega
      have zp2 : p + 1 + 1 < w3.heap.size := by omega
      clear hP1 D RS
      cases m with
      | zero =>
        have hm1 : ¬ (0 : Int) < ((0 : Nat) : Int) := by omega
        have HQ : Hid (P = some (out, b6)) := Lib.hid (by rw [HP1.out, pL]; simp)
        have HDO : Hid (V = if b6 = [] ∧ chkL out = 0 ∧ encL out = bs then some out else none) := Lib.hid (by rw [HV.out]; unfold decO; rw [HP.out, HQ.out]; rfl)
        clear HP1 HQ HV
        have hln := DH.out.hl
        by_cases hn6 : 0 < n6
        · have i6 : (0 : Int) < (n6 : Int) := by omega
          have SEQ : Hid (V = none) := Lib.hid (by rw [HDO.out, if_neg]; rintro ⟨h, -⟩; rw [h] at hln; simp at hln; omega)
          clear HDO hln
          have SE := dec_none (HVB.out.symm.trans SEQ.out)
          have SE1 := Lib.hid SE.1
          have SE2 := Lib.hid SE.2
          clear SE
          go_wp2_with fail
          go_ret2
          exact ⟨_, by rw [SE2.out]; rfl, by rw [SE1.out]; exact World.ownsRow_nil _ _ _ _, by rw [← HPZ.out]; exact BW.out⟩
        · have i6 : ¬ (0 : Int) < (n6 : Int) := by omega
          have HB6 : Hid (b6 = []) := Lib.hid (List.eq_nil_of_length_eq_zero (by omega))
          clear hln
          go_wp2_with fail
          refine (encode_any A5 out.length c5 out rfl (by omega) (fun x hx => by have := HK.out x hx; unfold maxLen; omega) w3.heap.size w3 (own_rdL OW.out) (Nat.le_refl _)).mono ?_
          rintro e w4 ⟨v4, rfl, o4, t4⟩
          have BW4 := Lib.hid (BW.out.trans (t4.mono (by omega)))
          have O4 := Lib.hid (o4)
          have OW4 := Lib.hid (own_keep OW.out t4 (Nat.le_refl _))
          have hs4 := t4.size
          clear BW OW DH t4 d4 d5 d6
          have BW := BW4
          clear BW4
          by_cases hce : chkL out = 0
          · have hcb : (chkL out != 0) = false := by simpa using hce
            have k1 : (convert 26 9 v4).run Try.prog w4 = .ok (.string ⟨(encL out).toArray⟩) w4 := by
              obtain ⟨A4, c4, e4, -, -⟩ := own_sl O4.out
              have r4 := own_rdL (e4 ▸ O4.out)
              rw [e4]
              exact conv_str (P := Try.prog) 26 9 5 _ c4 Try.underlying26 Try.underlying5 Try.underlying9 r4 rfl
            have k2 : (convert 26 9 (.slice A n c)).run Try.prog w4 = .ok (.string ⟨bs.toArray⟩) w4 :=
              conv_str (P := Try.prog) 26 9 5 n c Try.underlying26 Try.underlying5 Try.underlying9 (HR1.out.below BW.out) HL.out
            obtain ⟨s1, e1⟩ : ∃ s : ByteArray, s = ⟨(encL out).toArray⟩ := ⟨_, rfl⟩
            obtain ⟨s2, e2⟩ : ∃ s : ByteArray, s = ⟨bs.toArray⟩ := ⟨_, rfl⟩
            rw [← e1] at k1
            rw [← e2] at k2
            have HE1 := Lib.hid e1
            have HE2 := Lib.hid e2
            clear e1 e2
            have HCE := Lib.hid hce
            clear hce
            by_cases hee : s1 = s2
            · have hsb : (s1.toList == s2.toList) = true := by rw [str_eqB]; simpa using hee
              have SEQ : Hid (V = some out) := Lib.hid (by
                rw [HDO.out, if_pos]
                have h := hee
                rw [HE1.out, HE2.out] at h
                have h2 : (encL out).toArray = bs.toArray := congrArg ByteArray.data h
                exact ⟨HB6.out, HCE.out, by simpa using congrArg Array.toList h2⟩)
              have SE := dec_some (HVB.out.symm.trans SEQ.out)
              have SE1 := Lib.hid SE.1
              have SE2 := Lib.hid SE.2
              clear SE HDO hee
              go_wp2_with fail
              go_ret2
              exact ⟨_, by rw [SE2.out]; rfl, by rw [SE1.out]; exact own_base OW4.out (by have := HPZ.out; omega), by rw [← HPZ.out]; exact BW.out⟩
            · have hsb : (s1.toList == s2.toList) = false := by rw [str_eqB]; simpa using hee
              have SEQ : Hid (V = none) := Lib.hid (by
                rw [HDO.out, if_neg]
                rintro ⟨-, -, h⟩
                refine hee ?_
                rw [HE1.out, HE2.out, h])
              clear HDO hee
              have SE := dec_none (HVB.out.symm.trans SEQ.out)
              have SE1 := Lib.hid SE.1
              have SE2 := Lib.hid SE.2
              clear SE
              go_wp2_with fail
              go_ret2
              exact ⟨_, by rw [SE2.out]; rfl, by rw [SE1.out]; exact World.ownsRow_nil _ _ _ _, by rw [← HPZ.out]; exact BW.out⟩
          · have SEQ : Hid (V = none) := Lib.hid (by rw [HDO.out, if_neg]; rintro ⟨-, h, -⟩; exact hce h)
            have hcb : (chkL out != 0) = true := by simpa using hce
            clear HDO hce
            have SE := dec_none (HVB.out.symm.trans SEQ.out)
            have SE1 := Lib.hid SE.1
            have SE2 := Lib.hid SE.2
            clear SE
            go_wp2_with fail
            go_ret2
            exact ⟨_, by rw [SE2.out]; rfl, by rw [SE1.out]; exact World.ownsRow_nil _ _ _ _, by rw [← HPZ.out]; exact BW.out⟩
      | succ m =>
        have hm1 : (0 : Int) < ((m + 1 : Nat) : Int) := by omega
        have HPB : Hid (pE last b6 = none → P = none) := Lib.hid (fun h => by rw [HP1.out, pL, h]; rfl)
        have HPG : Hid (∀ x r, pE last b6 = some (x, r) → P = (pL m x.key r).map fun z => ((out ++ [x]) ++ z.1, z.2)) := Lib.hid (fun x r h => by
          rw [HP1.out, pL, h, Option.bind_some, Option.map_map]
          congr 1
          funext z
          simp)
        clear HP1
        go_wp2_with fail
        cases hs1 : smU b6 (last.size : Int) with
        | none =>
          have H1 := Lib.hid hs1
          clear hs1
          refine ((dsmall_any (last.size : Int) (by omega) p _ _ _ _ false _ DH.out).mono (fun e w' h => smO_bad h (show smB false b6 (last.size : Int) = none from H1.out))).mono ?_
          rintro e w4 ⟨rfl, ⟨A7, n7, c7, b7, D4⟩, T4⟩
          have BW4 := Lib.hid (BW.out.trans (T4.to_below (by omega)))
          have HP0 : Hid (P = none) := Lib.hid (HPB.out (by unfold pE; rw [H1.out]; rfl))
          have e5 := D4.c5
          have yp1 : p + 1 < w4.heap.size := by have := D4.lt; omega
          clear D4 T4 DH BW d4 d5 d6 HPB HPG
          have BW := BW4
          clear BW4
          have SEQ : Hid (V = none) := Lib.hid (by rw [HV.out]; unfold decO; rw [HP.out, HP0.out]; rfl)
          have SE := dec_none (HVB.out.symm.trans SEQ.out)
          have SE1 := Lib.hid SE.1
          have SE2 := Lib.hid SE.2
          clear SE
          go_wp2_with fail
          go_ret2
          exact ⟨_, by rw [SE2.out]; rfl, by rw [SE1.out]; exact World.ownsRow_nil _ _ _ _, by rw [← HPZ.out]; exact BW.out⟩
        | some q =>
          obtain ⟨k, kk⟩ := q
          have H1 := Lib.hid hs1
          have hk1 := (smU_sound hs1).2.2
          clear hs1
          refine ((dsmall_any (last.size : Int) (by omega) p _ _ _ _ false _ DH.out).mono (fun e w' h => smO_ok h (show smB false b6 (last.size : Int) = some (k, kk) from H1.out))).mono ?_
          rintro e w4 ⟨rfl, ⟨A7, n7, c7, D4⟩, T4⟩
          have BW4 := Lib.hid (BW.out.trans (T4.to_below (by omega)))
          have OW4 := Lib.hid (own_two OW.out T4 (by omega))
          have DH4 := Lib.hid D4
          have e5 := D4.c5
          have yz4 : p + 3 ≤ w4.heap.size := by have := T4.size; omega
          have yp1 : p + 1 < w4.heap.size := by omega
          clear D4 T4 DH BW OW d4 d5 d6
          have hxs : (last.extract 0 k).size ≤ 40000 := by
            have h := ext0_size last k
            omega
          go_upto_region 11 with (fail)
          cases hs2 : pT 512 (b6.drop kk) with
          | none =>
            have H2 : Hid (txB false (b6.drop kk) 512 = none) := Lib.hid hs2
            have HP0 : Hid (P = none) := Lib.hid (HPB.out (by unfold pE; rw [H1.out, Option.bind_some, hs2]; rfl))
            clear hs2 HPG HPB
            go_cut [12] from 33 to 40 (fun s12 wc => ∃ (bx : Nat) (K : ByteArray), s12 = .pointer (some ⟨bx, 0, none⟩) ∧ K.size ≤ last.size + 512 ∧ Hid (Box w4 wc p bx K zB 0 false) ∧ Hid (w4.heap.size ≤ bx) ∧ Hid (∃ A n c b', DS wc p A n c b' true))
            case first =>
              have hcat : ¬ (9223372036854775807 < min k last.size + zB.size) := by have h : zB.size = 0 := rfl; omega
              refine wp_heldall (S := fun _ => True) 9 (by kernel_rfl) rfl trivial (fun _ => ?_)
              have hk0 : (0 : Int) ≤ (k : Int) := by omega
              have hk2 : (k : Int) ≤ (last.size : Int) := by omega
              refine takeL (i := 0) (v := ?_) rfl (by kernel_rfl) (by kernel_rfl) (by kernel_rfl) (fun _ _ _ h => h) ⟨by rfl, ?_⟩ (by first | assumption | trivial) ?_
              rotate_left
              · intro W9 hSw
                (try dsimp only at hSw)
                go_simp
                try with_reducible rfl
              (try simp only [Act.put, List.setIfInBounds_toArray, List.set_cons_zero, List.set_cons_succ])
              refine takeL (i := 1) (v := ?_) rfl (by kernel_rfl) (by kernel_rfl) (by kernel_rfl) (fun _ _ _ h => h) ⟨by rfl, ?_⟩ (by first | assumption | trivial) ?_
              rotate_left
              · intro W9 hSw
                (try dsimp only at hSw)
                go_simp
                try with_reducible rfl
              (try simp only [Act.put, List.setIfInBounds_toArray, List.set_cons_zero, List.set_cons_succ])
              refine takeL (i := 2) (v := ?_) rfl (by kernel_rfl) (by kernel_rfl) (by kernel_rfl) (fun _ _ _ h => h) ⟨by rfl, ?_⟩ (by first | assumption | trivial) ?_
              rotate_left
              · intro W9 hSw
                (try dsimp only at hSw)
                go_simp
                try with_reducible rfl
              (try simp only [Act.put, List.setIfInBounds_toArray, List.set_cons_zero, List.set_cons_succ])
              refine takeL (i := 3) (v := ?_) rfl (by kernel_rfl) (by kernel_rfl) (by kernel_rfl) (fun _ _ _ h => h) ⟨by rfl, ?_⟩ (by first | assumption | trivial) ?_
              rotate_left
              · intro W9 hSw
                (try dsimp only at hSw)
                go_simp
                try with_reducible rfl
              (try simp only [Act.put, List.setIfInBounds_toArray, List.set_cons_zero, List.set_cons_succ])
              have DX := Lib.hid (DH4.out.next (Below.drew (Below.refl w4.heap.size w4)))
              have TX : Hid (Two p w4 w4.drew) := Lib.hid (Two.of_below (Below.drew (Below.refl w4.heap.size w4)))
              have SX : w4.heap.size ≤ w4.drew.heap.size := Nat.le_refl _
              generalize w4.drew = X at *
              refine wpAnyH_ready (rs := [4, 7]) (by kernel_rfl) (by simp) ?_
              refine consL rfl (by rfl) (fun K hK => ?_) ?_
              · go_simp
                go_at_call 92
                refine ((dtext_any 512 (by omega) p _ _ _ _ false _ DX.out).mono (fun e w' h => txO_bad h H2.out)).mono ?_
                rintro e X2 ⟨rfl, ⟨A8, n8, c8, b8, D5⟩, T5⟩
                refine hK.out _ _ trivial (fun _ => ?_)
                clear hK K
                have DX2 := Lib.hid D5
                have TX2 := Lib.hid (TX.out.trans T5)
                have SX2 := T5.size
                clear D5 T5 DX TX
                (try simp only [Act.put, List.setIfInBounds_toArray, List.set_cons_zero, List.set_cons_succ])
                refine takeL (i := 5) (v := ?_) rfl (by kernel_rfl) (by kernel_rfl) (by kernel_rfl) (fun _ _ _ h => h) ⟨by rfl, ?_⟩ (by first | assumption | trivial) ?_
                rotate_left
                · intro W9 hSw
                  (try dsimp only at hSw)
                  go_simp
                  try with_reducible rfl
                (try simp only [Act.put, List.setIfInBounds_toArray, List.set_cons_zero, List.set_cons_succ])
                refine takeL (i := 6) (v := ?_) rfl (by kernel_rfl) (by kernel_rfl) (by kernel_rfl) (fun _ _ _ h => h) ⟨by rfl, ?_⟩ (by first | assumption | trivial) ?_
                rotate_left
                · intro W9 hSw
                  (try dsimp only at hSw)
                  go_simp
                  try with_reducible rfl
                (try simp only [Act.put, List.setIfInBounds_toArray, List.set_cons_zero, List.set_cons_succ])
                refine wpAnyH_ready (rs := [7]) (by kernel_rfl) (by simp) ?_
                refine consL rfl (by rfl) (fun K hK => ?_) ?_
                · go_simp
                  have BN := BxV.new X2 #[.string { data := #[] }, .string { data := #[] }, .int .i64 0, .bool false] 40
                  refine hK.out _ _ trivial (fun _ => ?_)
                  clear hK K
                  (try simp only [Act.put, List.setIfInBounds_toArray, List.set_cons_zero, List.set_cons_succ])
                  have q0 := BN.c 0 _ rfl
                  have q1 := BN.c 1 _ rfl
                  have q2 := BN.c 2 _ rfl
                  have q3 := BN.c 3 _ rfl
                  have qf := BN.fz
                  have ql := BN.lt
                  refine wpAnyH_ready (rs := [8]) (by kernel_rfl) (by simp) ?_
                  refine consL rfl (by rfl) (fun K hK => ?_) ?_
                  · go_simp
                    have BN2 := Lib.hid (BxV.new X2 #[.string (last.extract 0 k ++ zB), .string { data := #[] }, .int .i64 0, .bool false] 40)
                    have hbn : Below X2.heap.size X2 (X2.alloc (.cells #[.string (last.extract 0 k ++ zB), .string { data := #[] }, .int .i64 0, .bool false] 40)) := (Below.refl _ _).alloc (Nat.le_refl _) _
                    have DX3 := Lib.hid (DX2.out.next hbn)
                    have TX3 := Lib.hid (TX2.out.trans (Two.of_below hbn))
                    refine hK.out _ _ trivial (fun _ => ?_)
                    clear hK K hbn DX2 TX2 BN q0 q1 q2 q3 qf ql
                    (try simp only [Act.put, List.setIfInBounds_toArray, List.set_cons_zero, List.set_cons_succ])
                    generalize X2.alloc (.cells #[.string (last.extract 0 k ++ zB), .string { data := #[] }, .int .i64 0, .bool false] 40) = wc at *
                    generalize hbxe : X2.heap.size = bx at *
                    have hbx : p + 2 < bx := by omega
                    have hbx2 : w4.heap.size ≤ bx := by omega
                    clear hbxe hcat
                    refine wpAnyH_done (by kernel_rfl) ?_ _
                    go_wp2_with fail
                    go_meet
                    case rel => exact ⟨bx, last.extract 0 k ++ zB, rfl, (by rw [ByteArray.size_append]; have h : zB.size = 0 := rfl; have h2 := ext0_size last k; omega), Lib.hid ⟨BN2.out, hbx, TX3.out⟩, Lib.hid hbx2, Lib.hid ⟨_, _, _, _, DX3.out⟩⟩
                  · exact AllReadyH.nil
                · exact AllReadyH.nil
              refine consL rfl (by rfl) (fun K hK => ?_) ?_
              · go_simp
                have BN := Lib.hid (BxV.new X #[.string { data := #[] }, .string { data := #[] }, .int .i64 0, .bool false] 40)
                have hbn : Below X.heap.size X (X.alloc (.cells #[.string { data := #[] }, .string { data := #[] }, .int .i64 0, .bool false] 40)) := (Below.refl _ _).alloc (Nat.le_refl _) _
                have DX1 := Lib.hid (DX.out.next hbn)
                have TX1 := Lib.hid (TX.out.trans (Two.of_below hbn))
                refine hK.out _ _ trivial (fun _ => ?_)
                clear hK K hbn DX TX
                (try simp only [Act.put, List.setIfInBounds_toArray, List.set_cons_zero, List.set_cons_succ])
                generalize X.alloc (.cells #[.string { data := #[] }, .string { data := #[] }, .int .i64 0, .bool false] 40) = X1 at *
                generalize hbxe : X.heap.size = bx at *
                have hbx : p + 2 < bx := by omega
                have hbx2 : w4.heap.size ≤ bx := by omega
                clear hbxe
                refine wpAnyH_ready (rs := [4]) (by kernel_rfl) (by simp) ?_
                refine consL rfl (by rfl) (fun K hK => ?_) ?_
                · go_simp
                  go_at_call 92
                  refine ((dtext_any 512 (by omega) p _ _ _ _ false _ DX1.out).mono (fun e w' h => txO_bad h H2.out)).mono ?_
                  rintro e X2 ⟨rfl, ⟨A8, n8, c8, b8, D5⟩, T5⟩
                  refine hK.out _ _ trivial (fun _ => ?_)
                  clear hK K
                  have DX2 := Lib.hid D5
                  have TX2 := Lib.hid (TX1.out.trans T5)
                  have BN2 := Lib.hid (BxV.two BN.out T5 (by omega))
                  clear D5 T5 DX1 TX1 BN
                  (try simp only [Act.put, List.setIfInBounds_toArray, List.set_cons_zero, List.set_cons_succ])
                  refine takeL (i := 5) (v := ?_) rfl (by kernel_rfl) (by kernel_rfl) (by kernel_rfl) (fun _ _ _ h => h) ⟨by rfl, ?_⟩ (by first | assumption | trivial) ?_
                  rotate_left
                  · intro W9 hSw
                    (try dsimp only at hSw)
                    go_simp
                    try with_reducible rfl
                  (try simp only [Act.put, List.setIfInBounds_toArray, List.set_cons_zero, List.set_cons_succ])
                  refine takeL (i := 6) (v := ?_) rfl (by kernel_rfl) (by kernel_rfl) (by kernel_rfl) (fun _ _ _ h => h) ⟨by rfl, ?_⟩ (by first | assumption | trivial) ?_
                  rotate_left
                  · intro W9 hSw
                    (try dsimp only at hSw)
                    go_simp
                    try with_reducible rfl
                  (try simp only [Act.put, List.setIfInBounds_toArray, List.set_cons_zero, List.set_cons_succ])
                  have q0 := BN2.out.c 0 _ rfl
                  have q1 := BN2.out.c 1 _ rfl
                  have q2 := BN2.out.c 2 _ rfl
                  have q3 := BN2.out.c 3 _ rfl
                  have qf := BN2.out.fz
                  have ql := BN2.out.lt
                  refine wpAnyH_ready (rs := [8]) (by kernel_rfl) (by simp) ?_
                  refine consL rfl (by rfl) (fun K hK => ?_) ?_
                  · go_simp
                    change K _ (World.setCells X2 bx 0 [.string (last.extract 0 k ++ zB), .string { data := #[] }, .int .i64 0, .bool false])
                    have BN3 := Lib.hid (BN2.out.set [.string (last.extract 0 k ++ zB), .string { data := #[] }, .int .i64 0, .bool false] rfl)
                    have DX3 := Lib.hid (DS.puts hbx [.string (last.extract 0 k ++ zB), .string { data := #[] }, .int .i64 0, .bool false] 0 _ DX2.out)
                    have TX3 := Lib.hid (two_puts hbx hbx2 [.string (last.extract 0 k ++ zB), .string { data := #[] }, .int .i64 0, .bool false] 0 _ TX2.out)
                    refine hK.out _ _ trivial (fun _ => ?_)
                    clear hK K DX2 TX2 BN2 q0 q1 q2 q3 qf ql
                    (try simp only [Act.put, List.setIfInBounds_toArray, List.set_cons_zero, List.set_cons_succ])
                    generalize World.setCells X2 bx 0 [.string (last.extract 0 k ++ zB), .string { data := #[] }, .int .i64 0, .bool false] = wc at *
                    clear hcat
                    refine wpAnyH_done (by kernel_rfl) ?_ _
                    go_wp2_with fail
                    go_meet
                    case rel => exact ⟨bx, last.extract 0 k ++ zB, rfl, (by rw [ByteArray.size_append]; have h : zB.size = 0 := rfl; have h2 := ext0_size last k; omega), Lib.hid ⟨BN3.out, hbx, TX3.out⟩, Lib.hid hbx2, Lib.hid ⟨_, _, _, _, DX3.out⟩⟩
                  · exact AllReadyH.nil
                · exact AllReadyH.nil
              · exact AllReadyH.nil
            case rest =>
              obtain ⟨bx, KY, rfl, hKs, HBX, HB2, HD⟩ := hcut
              obtain ⟨w5, rfl⟩ : ∃ x, x = wc := ⟨_, rfl⟩
              obtain ⟨A7', n7', c7', b7', D5⟩ := HD.out
              have BXH := HBX
              have hbx := HBX.out.h
              have hbx2 := HB2.out
              have NEX : Hid (∀ g, (Value.slice A5 out.length c5).ownBlock = some g → g ≠ bx) := Lib.hid (fun g hg => by have := (OW4.out.lt g hg).2; omega)
              have OWH := Lib.hid (own_two OW4.out HBX.out.t (by omega))
              have BWH := Lib.hid (BW4.out.trans (HBX.out.t.to_below (by omega)))
              have hzw : p + 3 ≤ w5.heap.size := by have := HBX.out.t.size; omega
              clear HBX HB2 OW4 BW4 DH4 e5
              have DH := Lib.hid D5
              clear HD D5
              have f6 : w5.cell? ⟨p + 1 + 1, 0, none⟩ = some (smallF p) := DH.out.c6
              unfold smallF at f6
              have g6 : p + 1 + 1 < w5.heap.size := by omega
              have g60 : p < w5.heap.size := by omega
              have g61 : p + 1 < w5.heap.size := by omega
              go_wp2_with fail
              refine ((dsmall_any 1073741824 (by omega) p _ _ _ _ true _ DH.out).mono (fun e w' h => smO_bad h rfl)).mono ?_
              rintro e w6 ⟨rfl, ⟨A8, n8, c8, b8, D6⟩, T6⟩
              have BXHN := Lib.hid (BXH.out.two T6)
              clear BXH
              have BXH := BXHN
              clear BXHN
              have OWHN := Lib.hid (own_two OWH.out T6 (by omega))
              clear OWH
              have OWH := OWHN
              clear OWHN
              have BWHN := Lib.hid (BWH.out.trans (T6.to_below (by omega)))
              clear BWH
              have BWH := BWHN
              clear BWHN
              have hzN : p + 3 ≤ w6.heap.size := by have := T6.size; omega
              clear DH hzw
              have DH := Lib.hid D6
              have hzw := hzN
              clear T6 D6 hzN
              clear f6 g6 g60 g61
              have q0 := BXH.out.b.c 0 _ rfl
              have q1 := BXH.out.b.c 1 _ rfl
              have q2 := BXH.out.b.c 2 _ rfl
              have q3 := BXH.out.b.c 3 _ rfl
              have qf := BXH.out.b.fz
              have ql := BXH.out.b.lt
              have f6 : w6.cell? ⟨p + 1 + 1, 0, none⟩ = some (smallF p) := DH.out.c6
              unfold smallF at f6
              have g6 : p + 1 + 1 < w6.heap.size := by omega
              have g60 : p < w6.heap.size := by omega
              have g61 : p + 1 < w6.heap.size := by omega
              go_wp2_with fail
              clear f6 g6 g60 g61
              have hzN : p + 3 ≤ (w6.setCell ⟨bx, 2, none⟩ (.int .i64 0)).heap.size := by simpa using hzw
              have BXHN := Lib.hid (BXH.out.put2 hbx2 (0))
              clear BXH
              have BXH := BXHN
              clear BXHN
              have DHN := Lib.hid (DH.out.put hbx 2 (.int .i64 0))
              clear DH
              have DH := DHN
              clear DHN
              have OWHN := Lib.hid (own_far (b := bx) (o := 2) OWH.out NEX.out (.int .i64 0))
              clear OWH
              have OWH := OWHN
              clear OWHN
              have BWHN := Lib.hid (BWH.out.setCell (p := ⟨bx, 2, none⟩) (by show p ≤ bx; omega) (.int .i64 0))
              clear BWH
              have BWH := BWHN
              clear BWHN
              clear hzw q0 q1 q2 q3 qf ql
              have hzw := hzN
              clear hzN
              generalize w6.setCell ⟨bx, 2, none⟩ (.int .i64 0) = w7 at *
              refine ((dsmall_any 1 (by omega) p _ _ _ _ true _ DH.out).mono (fun e w' h => smO_bad h rfl)).mono ?_
              rintro e w8 ⟨rfl, ⟨A8, n8, c8, b8, D6⟩, T6⟩
              have BXHN := Lib.hid (BXH.out.two T6)
              clear BXH
              have BXH := BXHN
              clear BXHN
              have OWHN := Lib.hid (own_two OWH.out T6 (by omega))
              clear OWH
              have OWH := OWHN
              clear OWHN
              have BWHN := Lib.hid (BWH.out.trans (T6.to_below (by omega)))
              clear BWH
              have BWH := BWHN
              clear BWHN
              have hzN : p + 3 ≤ w8.heap.size := by have := T6.size; omega
              clear DH hzw
              have DH := Lib.hid D6
              have hzw := hzN
              clear T6 D6 hzN
              have q0 := BXH.out.b.c 0 _ rfl
              have q1 := BXH.out.b.c 1 _ rfl
              have q2 := BXH.out.b.c 2 _ rfl
              have q3 := BXH.out.b.c 3 _ rfl
              have qf := BXH.out.b.fz
              have ql := BXH.out.b.lt
              go_wp2_with fail
              have hzN : p + 3 ≤ (w8.setCell ⟨bx, 3, none⟩ (.bool false)).heap.size := by simpa using hzw
              have BXHN := Lib.hid (BXH.out.put3 hbx2 (false))
              clear BXH
              have BXH := BXHN
              clear BXHN
              have DHN := Lib.hid (DH.out.put hbx 3 (.bool false))
              clear DH
              have DH := DHN
              clear DHN
              have OWHN := Lib.hid (own_far (b := bx) (o := 3) OWH.out NEX.out (.bool false))
              clear OWH
              have OWH := OWHN
              clear OWHN
              have BWHN := Lib.hid (BWH.out.setCell (p := ⟨bx, 3, none⟩) (by show p ≤ bx; omega) (.bool false))
              clear BWH
              have BWH := BWHN
              clear BWHN
              clear hzw q0 q1 q2 q3 qf ql
              have hzw := hzN
              clear hzN
              generalize w8.setCell ⟨bx, 3, none⟩ (.bool false) = w9 at *
              refine ((dtext_any 4096 (by omega) p _ _ _ _ true _ DH.out).mono (fun e w' h => txO_bad h rfl)).mono ?_
              rintro e w10 ⟨rfl, ⟨A8, n8, c8, b8, D6⟩, T6⟩
              have BXHN := Lib.hid (BXH.out.two T6)
              clear BXH
              have BXH := BXHN
              clear BXHN
              have OWHN := Lib.hid (own_two OWH.out T6 (by omega))
              clear OWH
              have OWH := OWHN
              clear OWHN
              have BWHN := Lib.hid (BWH.out.trans (T6.to_below (by omega)))
              clear BWH
              have BWH := BWHN
              clear BWHN
              have hzN : p + 3 ≤ w10.heap.size := by have := T6.size; omega
              clear DH hzw
              have DH := Lib.hid D6
              have hzw := hzN
              clear T6 D6 hzN
              have q0 := BXH.out.b.c 0 _ rfl
              have q1 := BXH.out.b.c 1 _ rfl
              have q2 := BXH.out.b.c 2 _ rfl
              have q3 := BXH.out.b.c 3 _ rfl
              have qf := BXH.out.b.fz
              have ql := BXH.out.b.lt
              go_wp2_with fail
              have hzN : p + 3 ≤ (w10.setCell ⟨bx, 1, none⟩ (.string zB)).heap.size := by simpa using hzw
              have BXHN := Lib.hid (BXH.out.put1 hbx2 (zB))
              clear BXH
              have BXH := BXHN
              clear BXHN
              have DHN := Lib.hid (DH.out.put hbx 1 (.string zB))
              clear DH
              have DH := DHN
              clear DHN
              have OWHN := Lib.hid (own_far (b := bx) (o := 1) OWH.out NEX.out (.string zB))
              clear OWH
              have OWH := OWHN
              clear OWHN
              have BWHN := Lib.hid (BWH.out.setCell (p := ⟨bx, 1, none⟩) (by show p ≤ bx; omega) (.string zB))
              clear BWH
              have BWH := BWHN
              clear BWHN
              clear hzw q0 q1 q2 q3 qf ql
              have hzw := hzN
              clear hzN
              generalize w10.setCell ⟨bx, 1, none⟩ (.string zB) = w11 at *
              go_wp2_with fail
              refine wp_heldall (S := fun X => BxV X bx [.string KY, .string zB, .int .i64 0, .bool false]) 8 (by kernel_rfl) rfl (BXH.out.b.next (Below.drew (Below.refl _ _))) (fun hHeld => ?_)
              refine takeL (i := 0) (v := ?_) rfl (by kernel_rfl) (by kernel_rfl) (by kernel_rfl) (fun _ _ _ h => h) ⟨by rfl, ?_⟩ (by first | assumption | trivial) ?_
              rotate_left
              · intro W9 hSw
                (try dsimp only at hSw)
                go_simp
                try with_reducible rfl
              (try simp only [Act.put, List.setIfInBounds_toArray, List.set_cons_zero, List.set_cons_succ])
              refine takeL (i := 1) (v := ?_) rfl (by kernel_rfl) (by kernel_rfl) (by kernel_rfl) (fun _ _ _ h => h) ⟨by rfl, ?_⟩ (by first | assumption | trivial) ?_
              rotate_left
              · intro W9 hSw
                (try dsimp only at hSw)
                (have x0 := hSw.c 0 _ rfl; have x1 := hSw.c 1 _ rfl; have x2 := hSw.c 2 _ rfl; have x3 := hSw.c 3 _ rfl)
                go_simp
                try with_reducible rfl
              (try simp only [Act.put, List.setIfInBounds_toArray, List.set_cons_zero, List.set_cons_succ])
              refine takeL (i := 4) (v := ?_) rfl (by kernel_rfl) (by kernel_rfl) (by kernel_rfl) (fun _ _ _ h => h) ⟨by rfl, ?_⟩ (by first | assumption | trivial) ?_
              rotate_left
              · intro W9 hSw
                (try dsimp only at hSw)
                go_simp
                try with_reducible rfl
              (try simp only [Act.put, List.setIfInBounds_toArray, List.set_cons_zero, List.set_cons_succ])
              refine takeL (i := 5) (v := ?_) rfl (by kernel_rfl) (by kernel_rfl) (by kernel_rfl) (fun _ _ _ h => h) ⟨by rfl, ?_⟩ (by first | assumption | trivial) ?_
              rotate_left
              · intro W9 hSw
                (try dsimp only at hSw)
                (have x0 := hSw.c 0 _ rfl; have x1 := hSw.c 1 _ rfl; have x2 := hSw.c 2 _ rfl; have x3 := hSw.c 3 _ rfl)
                go_simp
                try with_reducible rfl
              (try simp only [Act.put, List.setIfInBounds_toArray, List.set_cons_zero, List.set_cons_succ])
              have SB := Lib.hid hHeld
              clear hHeld
              have hdr := Below.drew (Below.refl w11.heap.size w11)
              have OX := Lib.hid (own_keep OWH.out hdr (Nat.le_refl _))
              have DX := Lib.hid (DH.out.next hdr)
              have BX := Lib.hid (BWH.out.trans (hdr.mono (by omega)))
              have hzx : p + 3 ≤ w11.drew.heap.size := hzw
              clear hdr BXH OWH DH BWH
              generalize w11.drew = X at *
              refine wpAnyH_ready (rs := [2]) (by kernel_rfl) (by simp) ?_
              refine consL rfl (by rfl) (fun K hK => ?_) ?_
              · go_simp
                have hal : Below X.heap.size X (X.alloc (.cells #[.string KY, .string zB, .int .i64 0, .bool false] 40)) := (Below.refl _ _).alloc (Nat.le_refl _) _
                have SB2 := Lib.hid (SB.out.next hal)
                have OX2 := Lib.hid (OX.out.alloc (.cells #[.string KY, .string zB, .int .i64 0, .bool false] 40))
                have DX2 := Lib.hid (DX.out.next hal)
                have BX2 := Lib.hid (BX.out.trans (hal.mono (by omega)))
                have RN : Hid (Rd (X.alloc (.cells #[.string KY, .string zB, .int .i64 0, .bool false] 40)) (X.alloc (.cells #[.string KY, .string zB, .int .i64 0, .bool false] 40)).heap.size (some ⟨X.heap.size, 0, none⟩) [.string KY, .string zB, .int .i64 0, .bool false]) := Lib.hid (rd_frC _ _ _ _)
                have hz2 : p + 3 ≤ (X.alloc (.cells #[.string KY, .string zB, .int .i64 0, .bool false] 40)).heap.size := by simp; omega
                refine hK.out _ _ SB2.out (fun _ => ?_)
                clear hK K hal SB OX DX BX hzx
                (try simp only [Act.put, List.setIfInBounds_toArray, List.set_cons_zero, List.set_cons_succ])
                generalize X.alloc (.cells #[.string KY, .string zB, .int .i64 0, .bool false] 40) = X2 at *
                generalize X.heap.size = hN at *
                refine wpAnyH_ready (rs := [3]) (by kernel_rfl) (by simp) ?_
                refine consL rfl (by rfl) (fun K hK => ?_) ?_
                · refine wp_app styE (.tmp 53) (.tmp 55) rfl (p + 3) OX2.out rfl 1 1 RN.out rfl rfl (by simp [Value.oneCell']) (by unfold maxLen; omega) (by omega) hz2 ?_
                  intro v9 X3 own9 gr9 nil9 at9
                  have hbl : Below (p + 3) X2 X3 := (Below.refl _ _).grown gr9 hz2 (fun g e => (OX2.out.lt g e).1)
                  have SB3 := Lib.hid (BxV.grown SB2.out gr9 (fun e => NEX.out bx e rfl))
                  have DX3 := Lib.hid (DX2.out.nextB hbl (by omega))
                  have BX3 := Lib.hid (BX2.out.trans (hbl.mono (by omega)))
                  have hz4 : p + 3 ≤ X3.heap.size := Nat.le_trans hz2 hbl.size
                  refine hK.out _ _ SB3.out (fun _ => ?_)
                  obtain ⟨A9, c9, rfl, -, -⟩ := own_sl own9
                  have O9 : Hid (X3.ownsRow (p + 3) 40 4 (.slice A9 (out.length + 1) c9) (out ++ [(⟨KY, zB, 0, false⟩ : Ent)]).length (env (out ++ [(⟨KY, zB, 0, false⟩ : Ent)]))) := Lib.hid (own_eq own9 (by simp) (by rw [env_app]; rfl))
                  clear hK K hbl own9 gr9 nil9 at9 SB2 OX2 DX2 BX2 RN hz2 SB3
                  (try simp only [Act.put, List.setIfInBounds_toArray, List.set_cons_zero, List.set_cons_succ])
                  refine takeL (i := 6) (v := ?_) rfl (by kernel_rfl) (by kernel_rfl) (by kernel_rfl) (fun _ _ _ h => h) ⟨by rfl, ?_⟩ (by first | assumption | trivial) ?_
                  rotate_left
                  · intro W9 hSw
                    (try dsimp only at hSw)
                    go_simp
                    try with_reducible rfl
                  (try simp only [Act.put, List.setIfInBounds_toArray, List.set_cons_zero, List.set_cons_succ])
                  refine takeL (i := 7) (v := ?_) rfl (by kernel_rfl) (by kernel_rfl) (by kernel_rfl) (fun _ _ _ h => h) ⟨by rfl, ?_⟩ (by first | assumption | trivial) ?_
                  rotate_left
                  · intro W9 hSw
                    (try dsimp only at hSw)
                    go_simp
                    try with_reducible rfl
                  (try simp only [Act.put, List.setIfInBounds_toArray, List.set_cons_zero, List.set_cons_succ])
                  refine wpAnyH_done (by kernel_rfl) ?_ _
                  have HK9 : Hid (∀ x ∈ out ++ [(⟨KY, zB, 0, false⟩ : Ent)], x.key.size ≤ 40000) := Lib.hid (fun x hx => by
                    rcases List.mem_append.1 hx with h | h
                    · exact HK.out x h
                    · have e := List.mem_singleton.1 h
                      rw [e]
                      show KY.size ≤ 40000
                      omega)
                  have RS9 : Hid (RdS X3 p P (out ++ [(⟨KY, zB, 0, false⟩ : Ent)]) KY m) := Lib.hid (.inl ⟨HP0.out, _, _, _, _, DX3.out⟩)
                  have hom9 : (out ++ [(⟨KY, zB, 0, false⟩ : Ent)]).length + m ≤ 64 := by rw [List.length_append]; simp only [List.length_cons, List.length_nil]; omega
                  have hls9 : KY.size + m * 512 ≤ 40000 := by omega
                  go_wp2_with fail
                  go_roundw
                  case rel => exact ⟨A9, c9, out ++ [(⟨KY, zB, 0, false⟩ : Ent)], KY, m, (show Value.slice A9 (out.length + 1) c9 = .slice A9 (out ++ [(⟨KY, zB, 0, false⟩ : Ent)]).length c9 by rw [List.length_append]; rfl), rfl, rfl, hom9, hls9, hz4, HK9, Lib.hid (by have h := O9.out; rw [List.length_append] at h ⊢; exact h), RS9, BX3⟩
                  case measure => simp [intOf]
                · exact AllReadyH.nil
              · exact AllReadyH.nil
          | some q2 =>
            obtain ⟨s2, r2⟩ := q2
            have H2 : Hid (txB false (b6.drop kk) 512 = some (s2, r2)) := Lib.hid hs2
            have H2E : Hid (pT 512 (b6.drop kk) = some (s2, r2)) := Lib.hid hs2
            have hs5 := pT_size hs2
            clear hs2
            go_cut [12] from 33 to 40 (fun s12 wc => ∃ (bx : Nat) (K : ByteArray), s12 = .pointer (some ⟨bx, 0, none⟩) ∧ K.size ≤ last.size + 512 ∧ Hid (last.extract 0 k ++ s2 = K) ∧ Hid (Box w4 wc p bx K zB 0 false) ∧ Hid (w4.heap.size ≤ bx) ∧ Hid (∃ A n c, DS wc p A n c r2 false))
            case first =>
              have hcat : ¬ (9223372036854775807 < min k last.size + s2.size) := by omega
              refine wp_heldall (S := fun _ => True) 9 (by kernel_rfl) rfl trivial (fun _ => ?_)
              have hk0 : (0 : Int) ≤ (k : Int) := by omega
              have hk2 : (k : Int) ≤ (last.size : Int) := by omega
              refine takeL (i := 0) (v := ?_) rfl (by kernel_rfl) (by kernel_rfl) (by kernel_rfl) (fun _ _ _ h => h) ⟨by rfl, ?_⟩ (by first | assumption | trivial) ?_
              rotate_left
              · intro W9 hSw
                (try dsimp only at hSw)
                go_simp
                try with_reducible rfl
              (try simp only [Act.put, List.setIfInBounds_toArray, List.set_cons_zero, List.set_cons_succ])
              refine takeL (i := 1) (v := ?_) rfl (by kernel_rfl) (by kernel_rfl) (by kernel_rfl) (fun _ _ _ h => h) ⟨by rfl, ?_⟩ (by first | assumption | trivial) ?_
              rotate_left
              · intro W9 hSw
                (try dsimp only at hSw)
                go_simp
                try with_reducible rfl
              (try simp only [Act.put, List.setIfInBounds_toArray, List.set_cons_zero, List.set_cons_succ])
              refine takeL (i := 2) (v := ?_) rfl (by kernel_rfl) (by kernel_rfl) (by kernel_rfl) (fun _ _ _ h => h) ⟨by rfl, ?_⟩ (by first | assumption | trivial) ?_
              rotate_left
              · intro W9 hSw
                (try dsimp only at hSw)
                go_simp
                try with_reducible rfl
              (try simp only [Act.put, List.setIfInBounds_toArray, List.set_cons_zero, List.set_cons_succ])
              refine takeL (i := 3) (v := ?_) rfl (by kernel_rfl) (by kernel_rfl) (by kernel_rfl) (fun _ _ _ h => h) ⟨by rfl, ?_⟩ (by first | assumption | trivial) ?_
              rotate_left
              · intro W9 hSw
                (try dsimp only at hSw)
                go_simp
                try with_reducible rfl
              (try simp only [Act.put, List.setIfInBounds_toArray, List.set_cons_zero, List.set_cons_succ])
              have DX := Lib.hid (DH4.out.next (Below.drew (Below.refl w4.heap.size w4)))
              have TX : Hid (Two p w4 w4.drew) := Lib.hid (Two.of_below (Below.drew (Below.refl w4.heap.size w4)))
              have SX : w4.heap.size ≤ w4.drew.heap.size := Nat.le_refl _
              generalize w4.drew = X at *
              refine wpAnyH_ready (rs := [4, 7]) (by kernel_rfl) (by simp) ?_
              refine consL rfl (by rfl) (fun K hK => ?_) ?_
              · go_simp
                go_at_call 92
                refine ((dtext_any 512 (by omega) p _ _ _ _ false _ DX.out).mono (fun e w' h => txO_ok h H2.out)).mono ?_
                rintro e X2 ⟨rfl, ⟨A8, n8, c8, D5⟩, T5⟩
                refine hK.out _ _ trivial (fun _ => ?_)
                clear hK K
                have DX2 := Lib.hid D5
                have TX2 := Lib.hid (TX.out.trans T5)
                have SX2 := T5.size
                clear D5 T5 DX TX
                (try simp only [Act.put, List.setIfInBounds_toArray, List.set_cons_zero, List.set_cons_succ])
                refine takeL (i := 5) (v := ?_) rfl (by kernel_rfl) (by kernel_rfl) (by kernel_rfl) (fun _ _ _ h => h) ⟨by rfl, ?_⟩ (by first | assumption | trivial) ?_
                rotate_left
                · intro W9 hSw
                  (try dsimp only at hSw)
                  go_simp
                  try with_reducible rfl
                (try simp only [Act.put, List.setIfInBounds_toArray, List.set_cons_zero, List.set_cons_succ])
                refine takeL (i := 6) (v := ?_) rfl (by kernel_rfl) (by kernel_rfl) (by kernel_rfl) (fun _ _ _ h => h) ⟨by rfl, ?_⟩ (by first | assumption | trivial) ?_
                rotate_left
                · intro W9 hSw
                  (try dsimp only at hSw)
                  go_simp
                  try with_reducible rfl
                (try simp only [Act.put, List.setIfInBounds_toArray, List.set_cons_zero, List.set_cons_succ])
                refine wpAnyH_ready (rs := [7]) (by kernel_rfl) (by simp) ?_
                refine consL rfl (by rfl) (fun K hK => ?_) ?_
                · go_simp
                  have BN := BxV.new X2 #[.string { data := #[] }, .string { data := #[] }, .int .i64 0, .bool false] 40
                  refine hK.out _ _ trivial (fun _ => ?_)
                  clear hK K
                  (try simp only [Act.put, List.setIfInBounds_toArray, List.set_cons_zero, List.set_cons_succ])
                  have q0 := BN.c 0 _ rfl
                  have q1 := BN.c 1 _ rfl
                  have q2 := BN.c 2 _ rfl
                  have q3 := BN.c 3 _ rfl
                  have qf := BN.fz
                  have ql := BN.lt
                  refine wpAnyH_ready (rs := [8]) (by kernel_rfl) (by simp) ?_
                  refine consL rfl (by rfl) (fun K hK => ?_) ?_
                  · go_simp
                    have BN2 := Lib.hid (BxV.new X2 #[.string (last.extract 0 k ++ s2), .string { data := #[] }, .int .i64 0, .bool false] 40)
                    have hbn : Below X2.heap.size X2 (X2.alloc (.cells #[.string (last.extract 0 k ++ s2), .string { data := #[] }, .int .i64 0, .bool false] 40)) := (Below.refl _ _).alloc (Nat.le_refl _) _
                    have DX3 := Lib.hid (DX2.out.next hbn)
                    have TX3 := Lib.hid (TX2.out.trans (Two.of_below hbn))
                    refine hK.out _ _ trivial (fun _ => ?_)
                    clear hK K hbn DX2 TX2 BN q0 q1 q2 q3 qf ql
                    (try simp only [Act.put, List.setIfInBounds_toArray, List.set_cons_zero, List.set_cons_succ])
                    generalize X2.alloc (.cells #[.string (last.extract 0 k ++ s2), .string { data := #[] }, .int .i64 0, .bool false] 40) = wc at *
                    generalize hbxe : X2.heap.size = bx at *
                    have hbx : p + 2 < bx := by omega
                    have hbx2 : w4.heap.size ≤ bx := by omega
                    clear hbxe hcat
                    refine wpAnyH_done (by kernel_rfl) ?_ _
                    go_wp2_with fail
                    go_meet
                    case rel => exact ⟨bx, last.extract 0 k ++ s2, rfl, (by rw [ByteArray.size_append]; have h2 := ext0_size last k; omega), Lib.hid rfl, Lib.hid ⟨BN2.out, hbx, TX3.out⟩, Lib.hid hbx2, Lib.hid ⟨_, _, _, DX3.out⟩⟩
                  · exact AllReadyH.nil
                · exact AllReadyH.nil
              refine consL rfl (by rfl) (fun K hK => ?_) ?_
              · go_simp
                have BN := Lib.hid (BxV.new X #[.string { data := #[] }, .string { data := #[] }, .int .i64 0, .bool false] 40)
                have hbn : Below X.heap.size X (X.alloc (.cells #[.string { data := #[] }, .string { data := #[] }, .int .i64 0, .bool false] 40)) := (Below.refl _ _).alloc (Nat.le_refl _) _
                have DX1 := Lib.hid (DX.out.next hbn)
                have TX1 := Lib.hid (TX.out.trans (Two.of_below hbn))
                refine hK.out _ _ trivial (fun _ => ?_)
                clear hK K hbn DX TX
                (try simp only [Act.put, List.setIfInBounds_toArray, List.set_cons_zero, List.set_cons_succ])
                generalize X.alloc (.cells #[.string { data := #[] }, .string { data := #[] }, .int .i64 0, .bool false] 40) = X1 at *
                generalize hbxe : X.heap.size = bx at *
                have hbx : p + 2 < bx := by omega
                have hbx2 : w4.heap.size ≤ bx := by omega
                clear hbxe
                refine wpAnyH_ready (rs := [4]) (by kernel_rfl) (by simp) ?_
                refine consL rfl (by rfl) (fun K hK => ?_) ?_
                · go_simp
                  go_at_call 92
                  refine ((dtext_any 512 (by omega) p _ _ _ _ false _ DX1.out).mono (fun e w' h => txO_ok h H2.out)).mono ?_
                  rintro e X2 ⟨rfl, ⟨A8, n8, c8, D5⟩, T5⟩
                  refine hK.out _ _ trivial (fun _ => ?_)
                  clear hK K
                  have DX2 := Lib.hid D5
                  have TX2 := Lib.hid (TX1.out.trans T5)
                  have BN2 := Lib.hid (BxV.two BN.out T5 (by omega))
                  clear D5 T5 DX1 TX1 BN
                  (try simp only [Act.put, List.setIfInBounds_toArray, List.set_cons_zero, List.set_cons_succ])
                  refine takeL (i := 5) (v := ?_) rfl (by kernel_rfl) (by kernel_rfl) (by kernel_rfl) (fun _ _ _ h => h) ⟨by rfl, ?_⟩ (by first | assumption | trivial) ?_
                  rotate_left
                  · intro W9 hSw
                    (try dsimp only at hSw)
                    go_simp
                    try with_reducible rfl
                  (try simp only [Act.put, List.setIfInBounds_toArray, List.set_cons_zero, List.set_cons_succ])
                  refine takeL (i := 6) (v := ?_) rfl (by kernel_rfl) (by kernel_rfl) (by kernel_rfl) (fun _ _ _ h => h) ⟨by rfl, ?_⟩ (by first | assumption | trivial) ?_
                  rotate_left
                  · intro W9 hSw
                    (try dsimp only at hSw)
                    go_simp
                    try with_reducible rfl
                  (try simp only [Act.put, List.setIfInBounds_toArray, List.set_cons_zero, List.set_cons_succ])
                  have q0 := BN2.out.c 0 _ rfl
                  have q1 := BN2.out.c 1 _ rfl
                  have q2 := BN2.out.c 2 _ rfl
                  have q3 := BN2.out.c 3 _ rfl
                  have qf := BN2.out.fz
                  have ql := BN2.out.lt
                  refine wpAnyH_ready (rs := [8]) (by kernel_rfl) (by simp) ?_
                  refine consL rfl (by rfl) (fun K hK => ?_) ?_
                  · go_simp
                    change K _ (World.setCells X2 bx 0 [.string (last.extract 0 k ++ s2), .string { data := #[] }, .int .i64 0, .bool false])
                    have BN3 := Lib.hid (BN2.out.set [.string (last.extract 0 k ++ s2), .string { data := #[] }, .int .i64 0, .bool false] rfl)
                    have DX3 := Lib.hid (DS.puts hbx [.string (last.extract 0 k ++ s2), .string { data := #[] }, .int .i64 0, .bool false] 0 _ DX2.out)
                    have TX3 := Lib.hid (two_puts hbx hbx2 [.string (last.extract 0 k ++ s2), .string { data := #[] }, .int .i64 0, .bool false] 0 _ TX2.out)
                    refine hK.out _ _ trivial (fun _ => ?_)
                    clear hK K DX2 TX2 BN2 q0 q1 q2 q3 qf ql
                    (try simp only [Act.put, List.setIfInBounds_toArray, List.set_cons_zero, List.set_cons_succ])
                    generalize World.setCells X2 bx 0 [.string (last.extract 0 k ++ s2), .string { data := #[] }, .int .i64 0, .bool false] = wc at *
                    clear hcat
                    refine wpAnyH_done (by kernel_rfl) ?_ _
                    go_wp2_with fail
                    go_meet
                    case rel => exact ⟨bx, last.extract 0 k ++ s2, rfl, (by rw [ByteArray.size_append]; have h2 := ext0_size last k; omega), Lib.hid rfl, Lib.hid ⟨BN3.out, hbx, TX3.out⟩, Lib.hid hbx2, Lib.hid ⟨_, _, _, DX3.out⟩⟩
                  · exact AllReadyH.nil
                · exact AllReadyH.nil
              · exact AllReadyH.nil
            case rest =>
              obtain ⟨bx, KY, rfl, hKs, HKE, HBX, HB2, HD⟩ := hcut
              obtain ⟨w5, rfl⟩ : ∃ x, x = wc := ⟨_, rfl⟩
              obtain ⟨A7', n7', c7', D5⟩ := HD.out
              have BXH := HBX
              have hbx := HBX.out.h
              have hbx2 := HB2.out
              have NEX : Hid (∀ g, (Value.slice A5 out.length c5).ownBlock = some g → g ≠ bx) := Lib.hid (fun g hg => by have := (OW4.out.lt g hg).2; omega)
              have OWH := Lib.hid (own_two OW4.out HBX.out.t (by omega))
              have BWH := Lib.hid (BW4.out.trans (HBX.out.t.to_below (by omega)))
              have hzw : p + 3 ≤ w5.heap.size := by have := HBX.out.t.size; omega
              clear HBX HB2 OW4 BW4 DH4 e5
              have DH := Lib.hid D5
              clear HD D5
              have f6 : w5.cell? ⟨p + 1 + 1, 0, none⟩ = some (smallF p) := DH.out.c6
              unfold smallF at f6
              have g6 : p + 1 + 1 < w5.heap.size := by omega
              have g60 : p < w5.heap.size := by omega
              have g61 : p + 1 < w5.heap.size := by omega
              go_wp2_with fail
              cases hs3 : smU r2 1073741824 with
              | none =>
                have H3 := Lib.hid hs3
                clear hs3
                refine ((dsmall_any 1073741824 (by omega) p _ _ _ _ false _ DH.out).mono (fun e w' h => smO_bad h (show smB false r2 1073741824 = none from H3.out))).mono ?_
                rintro e w12 ⟨rfl, ⟨A8, n8, c8, b8, D6⟩, T6⟩
                have BXHN := Lib.hid (BXH.out.two T6)
                clear BXH
                have BXH := BXHN
                clear BXHN
                have OWHN := Lib.hid (own_two OWH.out T6 (by omega))
                clear OWH
                have OWH := OWHN
                clear OWHN
                have BWHN := Lib.hid (BWH.out.trans (T6.to_below (by omega)))
                clear BWH
                have BWH := BWHN
                clear BWHN
                have hzN : p + 3 ≤ w12.heap.size := by have := T6.size; omega
                clear DH hzw
                have DH := Lib.hid D6
                have hzw := hzN
                clear T6 D6 hzN
                have HP0 : Hid (P = none) := Lib.hid (HPB.out (by unfold pE; rw [H1.out, Option.bind_some, H2E.out, Option.bind_some, H3.out]; rfl))
                clear HPB HPG
                clear f6 g6 g60 g61
                have q0 := BXH.out.b.c 0 _ rfl
                have q1 := BXH.out.b.c 1 _ rfl
                have q2 := BXH.out.b.c 2 _ rfl
                have q3 := BXH.out.b.c 3 _ rfl
                have qf := BXH.out.b.fz
                have ql := BXH.out.b.lt
                have f6 : w12.cell? ⟨p + 1 + 1, 0, none⟩ = some (smallF p) := DH.out.c6
                unfold smallF at f6
                have g6 : p + 1 + 1 < w12.heap.size := by omega
                have g60 : p < w12.heap.size := by omega
                have g61 : p + 1 < w12.heap.size := by omega
                go_wp2_with fail
                clear f6 g6 g60 g61
                have hzN : p + 3 ≤ (w12.setCell ⟨bx, 2, none⟩ (.int .i64 0)).heap.size := by simpa using hzw
                have BXHN := Lib.hid (BXH.out.put2 hbx2 (0))
                clear BXH
                have BXH := BXHN
                clear BXHN
                have DHN := Lib.hid (DH.out.put hbx 2 (.int .i64 0))
                clear DH
                have DH := DHN
                clear DHN
                have OWHN := Lib.hid (own_far (b := bx) (o := 2) OWH.out NEX.out (.int .i64 0))
                clear OWH
                have OWH := OWHN
                clear OWHN
                have BWHN := Lib.hid (BWH.out.setCell (p := ⟨bx, 2, none⟩) (by show p ≤ bx; omega) (.int .i64 0))
                clear BWH
                have BWH := BWHN
                clear BWHN
                clear hzw q0 q1 q2 q3 qf ql
                have hzw := hzN
                clear hzN
                generalize w12.setCell ⟨bx, 2, none⟩ (.int .i64 0) = w13 at *
                refine ((dsmall_any 1 (by omega) p _ _ _ _ true _ DH.out).mono (fun e w' h => smO_bad h rfl)).mono ?_
                rintro e w14 ⟨rfl, ⟨A8, n8, c8, b8, D6⟩, T6⟩
                have BXHN := Lib.hid (BXH.out.two T6)
                clear BXH
                have BXH := BXHN
                clear BXHN
                have OWHN := Lib.hid (own_two OWH.out T6 (by omega))
                clear OWH
                have OWH := OWHN
                clear OWHN
                have BWHN := Lib.hid (BWH.out.trans (T6.to_below (by omega)))
                clear BWH
                have BWH := BWHN
                clear BWHN
                have hzN : p + 3 ≤ w14.heap.size := by have := T6.size; omega
                clear DH hzw
                have DH := Lib.hid D6
                have hzw := hzN
                clear T6 D6 hzN
                have q0 := BXH.out.b.c 0 _ rfl
                have q1 := BXH.out.b.c 1 _ rfl
                have q2 := BXH.out.b.c 2 _ rfl
                have q3 := BXH.out.b.c 3 _ rfl
                have qf := BXH.out.b.fz
                have ql := BXH.out.b.lt
                go_wp2_with fail
                have hzN : p + 3 ≤ (w14.setCell ⟨bx, 3, none⟩ (.bool false)).heap.size := by simpa using hzw
                have BXHN := Lib.hid (BXH.out.put3 hbx2 (false))
                clear BXH
                have BXH := BXHN
                clear BXHN
                have DHN := Lib.hid (DH.out.put hbx 3 (.bool false))
                clear DH
                have DH := DHN
                clear DHN
                have OWHN := Lib.hid (own_far (b := bx) (o := 3) OWH.out NEX.out (.bool false))
                clear OWH
                have OWH := OWHN
                clear OWHN
                have BWHN := Lib.hid (BWH.out.setCell (p := ⟨bx, 3, none⟩) (by show p ≤ bx; omega) (.bool false))
                clear BWH
                have BWH := BWHN
                clear BWHN
                clear hzw q0 q1 q2 q3 qf ql
                have hzw := hzN
                clear hzN
                generalize w14.setCell ⟨bx, 3, none⟩ (.bool false) = w15 at *
                refine ((dtext_any 4096 (by omega) p _ _ _ _ true _ DH.out).mono (fun e w' h => txO_bad h rfl)).mono ?_
                rintro e w16 ⟨rfl, ⟨A8, n8, c8, b8, D6⟩, T6⟩
                have BXHN := Lib.hid (BXH.out.two T6)
                clear BXH
                have BXH := BXHN
                clear BXHN
                have OWHN := Lib.hid (own_two OWH.out T6 (by omega))
                clear OWH
                have OWH := OWHN
                clear OWHN
                have BWHN := Lib.hid (BWH.out.trans (T6.to_below (by omega)))
                clear BWH
                have BWH := BWHN
                clear BWHN
                have hzN : p + 3 ≤ w16.heap.size := by have := T6.size; omega
                clear DH hzw
                have DH := Lib.hid D6
                have hzw := hzN
                clear T6 D6 hzN
                have q0 := BXH.out.b.c 0 _ rfl
                have q1 := BXH.out.b.c 1 _ rfl
                have q2 := BXH.out.b.c 2 _ rfl
                have q3 := BXH.out.b.c 3 _ rfl
                have qf := BXH.out.b.fz
                have ql := BXH.out.b.lt
                go_wp2_with fail
                have hzN : p + 3 ≤ (w16.setCell ⟨bx, 1, none⟩ (.string zB)).heap.size := by simpa using hzw
                have BXHN := Lib.hid (BXH.out.put1 hbx2 (zB))
                clear BXH
                have BXH := BXHN
                clear BXHN
                have DHN := Lib.hid (DH.out.put hbx 1 (.string zB))
                clear DH
                have DH := DHN
                clear DHN
                have OWHN := Lib.hid (own_far (b := bx) (o := 1) OWH.out NEX.out (.string zB))
                clear OWH
                have OWH := OWHN
                clear OWHN
                have BWHN := Lib.hid (BWH.out.setCell (p := ⟨bx, 1, none⟩) (by show p ≤ bx; omega) (.string zB))
                clear BWH
                have BWH := BWHN
                clear BWHN
                clear hzw q0 q1 q2 q3 qf ql
                have hzw := hzN
                clear hzN
                generalize w16.setCell ⟨bx, 1, none⟩ (.string zB) = w17 at *
                go_wp2_with fail
                refine wp_heldall (S := fun X => BxV X bx [.string KY, .string zB, .int .i64 0, .bool false]) 8 (by kernel_rfl) rfl (BXH.out.b.next (Below.drew (Below.refl _ _))) (fun hHeld => ?_)
                refine takeL (i := 0) (v := ?_) rfl (by kernel_rfl) (by kernel_rfl) (by kernel_rfl) (fun _ _ _ h => h) ⟨by rfl, ?_⟩ (by first | assumption | trivial) ?_
                rotate_left
                · intro W9 hSw
                  (try dsimp only at hSw)
                  go_simp
                  try with_reducible rfl
                (try simp only [Act.put, List.setIfInBounds_toArray, List.set_cons_zero, List.set_cons_succ])
                refine takeL (i := 1) (v := ?_) rfl (by kernel_rfl) (by kernel_rfl) (by kernel_rfl) (fun _ _ _ h => h) ⟨by rfl, ?_⟩ (by first | assumption | trivial) ?_
                rotate_left
                · intro W9 hSw
                  (try dsimp only at hSw)
                  (have x0 := hSw.c 0 _ rfl; have x1 := hSw.c 1 _ rfl; have x2 := hSw.c 2 _ rfl; have x3 := hSw.c 3 _ rfl)
                  go_simp
                  try with_reducible rfl
                (try simp only [Act.put, List.setIfInBounds_toArray, List.set_cons_zero, List.set_cons_succ])
                refine takeL (i := 4) (v := ?_) rfl (by kernel_rfl) (by kernel_rfl) (by kernel_rfl) (fun _ _ _ h => h) ⟨by rfl, ?_⟩ (by first | assumption | trivial) ?_
                rotate_left
                · intro W9 hSw
                  (try dsimp only at hSw)
                  go_simp
                  try with_reducible rfl
                (try simp only [Act.put, List.setIfInBounds_toArray, List.set_cons_zero, List.set_cons_succ])
                refine takeL (i := 5) (v := ?_) rfl (by kernel_rfl) (by kernel_rfl) (by kernel_rfl) (fun _ _ _ h => h) ⟨by rfl, ?_⟩ (by first | assumption | trivial) ?_
                rotate_left
                · intro W9 hSw
                  (try dsimp only at hSw)
                  (have x0 := hSw.c 0 _ rfl; have x1 := hSw.c 1 _ rfl; have x2 := hSw.c 2 _ rfl; have x3 := hSw.c 3 _ rfl)
                  go_simp
                  try with_reducible rfl
                (try simp only [Act.put, List.setIfInBounds_toArray, List.set_cons_zero, List.set_cons_succ])
                have SB := Lib.hid hHeld
                clear hHeld
                have hdr := Below.drew (Below.refl w17.heap.size w17)
                have OX := Lib.hid (own_keep OWH.out hdr (Nat.le_refl _))
                have DX := Lib.hid (DH.out.next hdr)
                have BX := Lib.hid (BWH.out.trans (hdr.mono (by omega)))
                have hzx : p + 3 ≤ w17.drew.heap.size := hzw
                clear hdr BXH OWH DH BWH
                generalize w17.drew = X at *
                refine wpAnyH_ready (rs := [2]) (by kernel_rfl) (by simp) ?_
                refine consL rfl (by rfl) (fun K hK => ?_) ?_
                · go_simp
                  have hal : Below X.heap.size X (X.alloc (.cells #[.string KY, .string zB, .int .i64 0, .bool false] 40)) := (Below.refl _ _).alloc (Nat.le_refl _) _
                  have SB2 := Lib.hid (SB.out.next hal)
                  have OX2 := Lib.hid (OX.out.alloc (.cells #[.string KY, .string zB, .int .i64 0, .bool false] 40))
                  have DX2 := Lib.hid (DX.out.next hal)
                  have BX2 := Lib.hid (BX.out.trans (hal.mono (by omega)))
                  have RN : Hid (Rd (X.alloc (.cells #[.string KY, .string zB, .int .i64 0, .bool false] 40)) (X.alloc (.cells #[.string KY, .string zB, .int .i64 0, .bool false] 40)).heap.size (some ⟨X.heap.size, 0, none⟩) [.string KY, .string zB, .int .i64 0, .bool false]) := Lib.hid (rd_frC _ _ _ _)
                  have hz2 : p + 3 ≤ (X.alloc (.cells #[.string KY, .string zB, .int .i64 0, .bool false] 40)).heap.size := by simp; omega
                  refine hK.out _ _ SB2.out (fun _ => ?_)
                  clear hK K hal SB OX DX BX hzx
                  (try simp only [Act.put, List.setIfInBounds_toArray, List.set_cons_zero, List.set_cons_succ])
                  generalize X.alloc (.cells #[.string KY, .string zB, .int .i64 0, .bool false] 40) = X2 at *
                  generalize X.heap.size = hN at *
                  refine wpAnyH_ready (rs := [3]) (by kernel_rfl) (by simp) ?_
                  refine consL rfl (by rfl) (fun K hK => ?_) ?_
                  · refine wp_app styE (.tmp 53) (.tmp 55) rfl (p + 3) OX2.out rfl 1 1 RN.out rfl rfl (by simp [Value.oneCell']) (by unfold maxLen; omega) (by omega) hz2 ?_
                    intro v9 X3 own9 gr9 nil9 at9
                    have hbl : Below (p + 3) X2 X3 := (Below.refl _ _).grown gr9 hz2 (fun g e => (OX2.out.lt g e).1)
                    have SB3 := Lib.hid (BxV.grown SB2.out gr9 (fun e => NEX.out bx e rfl))
                    have DX3 := Lib.hid (DX2.out.nextB hbl (by omega))
                    have BX3 := Lib.hid (BX2.out.trans (hbl.mono (by omega)))
                    have hz4 : p + 3 ≤ X3.heap.size := Nat.le_trans hz2 hbl.size
                    refine hK.out _ _ SB3.out (fun _ => ?_)
                    obtain ⟨A9, c9, rfl, -, -⟩ := own_sl own9
                    have O9 : Hid (X3.ownsRow (p + 3) 40 4 (.slice A9 (out.length + 1) c9) (out ++ [(⟨KY, zB, 0, false⟩ : Ent)]).length (env (out ++ [(⟨KY, zB, 0, false⟩ : Ent)]))) := Lib.hid (own_eq own9 (by simp) (by rw [env_app]; rfl))
                    clear hK K hbl own9 gr9 nil9 at9 SB2 OX2 DX2 BX2 RN hz2 SB3
                    (try simp only [Act.put, List.setIfInBounds_toArray, List.set_cons_zero, List.set_cons_succ])
                    refine takeL (i := 6) (v := ?_) rfl (by kernel_rfl) (by kernel_rfl) (by kernel_rfl) (fun _ _ _ h => h) ⟨by rfl, ?_⟩ (by first | assumption | trivial) ?_
                    rotate_left
                    · intro W9 hSw
                      (try dsimp only at hSw)
                      go_simp
                      try with_reducible rfl
                    (try simp only [Act.put, List.setIfInBounds_toArray, List.set_cons_zero, List.set_cons_succ])
                    refine takeL (i := 7) (v := ?_) rfl (by kernel_rfl) (by kernel_rfl) (by kernel_rfl) (fun _ _ _ h => h) ⟨by rfl, ?_⟩ (by first | assumption | trivial) ?_
                    rotate_left
                    · intro W9 hSw
                      (try dsimp only at hSw)
                      go_simp
                      try with_reducible rfl
                    (try simp only [Act.put, List.setIfInBounds_toArray, List.set_cons_zero, List.set_cons_succ])
                    refine wpAnyH_done (by kernel_rfl) ?_ _
                    have HK9 : Hid (∀ x ∈ out ++ [(⟨KY, zB, 0, false⟩ : Ent)], x.key.size ≤ 40000) := Lib.hid (fun x hx => by
                      rcases List.mem_append.1 hx with h | h
                      · exact HK.out x h
                      · have e := List.mem_singleton.1 h
                        rw [e]
                        show KY.size ≤ 40000
                        omega)
                    have RS9 : Hid (RdS X3 p P (out ++ [(⟨KY, zB, 0, false⟩ : Ent)]) KY m) := Lib.hid (.inl ⟨HP0.out, _, _, _, _, DX3.out⟩)
                    have hom9 : (out ++ [(⟨KY, zB, 0, false⟩ : Ent)]).length + m ≤ 64 := by rw [List.length_append]; simp only [List.length_cons, List.length_nil]; omega
                    have hls9 : KY.size + m * 512 ≤ 40000 := by omega
                    go_wp2_with fail
                    go_roundw
                    case rel => exact ⟨A9, c9, out ++ [(⟨KY, zB, 0, false⟩ : Ent)], KY, m, (show Value.slice A9 (out.length + 1) c9 = .slice A9 (out ++ [(⟨KY, zB, 0, false⟩ : Ent)]).length c9 by rw [List.length_append]; rfl), rfl, rfl, hom9, hls9, hz4, HK9, Lib.hid (by have h := O9.out; rw [List.length_append] at h ⊢; exact h), RS9, BX3⟩
                    case measure => simp [intOf]
                  · exact AllReadyH.nil
                · exact AllReadyH.nil
              | some m3 =>
                obtain ⟨m3, k3⟩ := m3
                have H3 := Lib.hid hs3
                have hq3 := (smU_sound hs3).2.2
                clear hs3
                refine ((dsmall_any 1073741824 (by omega) p _ _ _ _ false _ DH.out).mono (fun e w' h => smO_ok h (show smB false r2 1073741824 = some (m3, k3) from H3.out))).mono ?_
                rintro e w18 ⟨rfl, ⟨A8, n8, c8, D6⟩, T6⟩
                have BXHN := Lib.hid (BXH.out.two T6)
                clear BXH
                have BXH := BXHN
                clear BXHN
                have OWHN := Lib.hid (own_two OWH.out T6 (by omega))
                clear OWH
                have OWH := OWHN
                clear OWHN
                have BWHN := Lib.hid (BWH.out.trans (T6.to_below (by omega)))
                clear BWH
                have BWH := BWHN
                clear BWHN
                have hzN : p + 3 ≤ w18.heap.size := by have := T6.size; omega
                clear DH hzw
                have DH := Lib.hid D6
                have hzw := hzN
                clear T6 D6 hzN
                clear f6 g6 g60 g61
                have q0 := BXH.out.b.c 0 _ rfl
                have q1 := BXH.out.b.c 1 _ rfl
                have q2 := BXH.out.b.c 2 _ rfl
                have q3 := BXH.out.b.c 3 _ rfl
                have qf := BXH.out.b.fz
                have ql := BXH.out.b.lt
                have f6 : w18.cell? ⟨p + 1 + 1, 0, none⟩ = some (smallF p) := DH.out.c6
                unfold smallF at f6
                have g6 : p + 1 + 1 < w18.heap.size := by omega
                have g60 : p < w18.heap.size := by omega
                have g61 : p + 1 < w18.heap.size := by omega
                go_wp2_with fail
                clear f6 g6 g60 g61
                have hzN : p + 3 ≤ (w18.setCell ⟨bx, 2, none⟩ (.int .i64 (m3 : Int))).heap.size := by simpa using hzw
                have BXHN := Lib.hid (BXH.out.put2 hbx2 ((m3 : Int)))
                clear BXH
                have BXH := BXHN
                clear BXHN
                have DHN := Lib.hid (DH.out.put hbx 2 (.int .i64 (m3 : Int)))
                clear DH
                have DH := DHN
                clear DHN
                have OWHN := Lib.hid (own_far (b := bx) (o := 2) OWH.out NEX.out (.int .i64 (m3 : Int)))
                clear OWH
                have OWH := OWHN
                clear OWHN
                have BWHN := Lib.hid (BWH.out.setCell (p := ⟨bx, 2, none⟩) (by show p ≤ bx; omega) (.int .i64 (m3 : Int)))
                clear BWH
                have BWH := BWHN
                clear BWHN
                clear hzw q0 q1 q2 q3 qf ql
                have hzw := hzN
                clear hzN
                generalize w18.setCell ⟨bx, 2, none⟩ (.int .i64 (m3 : Int)) = w19 at *
                cases hs4 : smU (r2.drop k3) 1 with
                | none =>
                  have H4 := Lib.hid hs4
                  clear hs4
                  refine ((dsmall_any 1 (by omega) p _ _ _ _ false _ DH.out).mono (fun e w' h => smO_bad h (show smB false (r2.drop k3) 1 = none from H4.out))).mono ?_
                  rintro e w20 ⟨rfl, ⟨A8, n8, c8, b8, D6⟩, T6⟩
                  have BXHN := Lib.hid (BXH.out.two T6)
                  clear BXH
                  have BXH := BXHN
                  clear BXHN
                  have OWHN := Lib.hid (own_two OWH.out T6 (by omega))
                  clear OWH
                  have OWH := OWHN
                  clear OWHN
                  have BWHN := Lib.hid (BWH.out.trans (T6.to_below (by omega)))
                  clear BWH
                  have BWH := BWHN
                  clear BWHN
                  have hzN : p + 3 ≤ w20.heap.size := by have := T6.size; omega
                  clear DH hzw
                  have DH := Lib.hid D6
                  have hzw := hzN
                  clear T6 D6 hzN
                  have HP0 : Hid (P = none) := Lib.hid (HPB.out (by unfold pE; rw [H1.out, Option.bind_some, H2E.out, Option.bind_some, H3.out, Option.bind_some, H4.out]; rfl))
                  clear HPB HPG
                  have q0 := BXH.out.b.c 0 _ rfl
                  have q1 := BXH.out.b.c 1 _ rfl
                  have q2 := BXH.out.b.c 2 _ rfl
                  have q3 := BXH.out.b.c 3 _ rfl
                  have qf := BXH.out.b.fz
                  have ql := BXH.out.b.lt
                  go_wp2_with fail
                  have hzN : p + 3 ≤ (w20.setCell ⟨bx, 3, none⟩ (.bool false)).heap.size := by simpa using hzw
                  have BXHN := Lib.hid (BXH.out.put3 hbx2 (false))
                  clear BXH
                  have BXH := BXHN
                  clear BXHN
                  have DHN := Lib.hid (DH.out.put hbx 3 (.bool false))
                  clear DH
                  have DH := DHN
                  clear DHN
                  have OWHN := Lib.hid (own_far (b := bx) (o := 3) OWH.out NEX.out (.bool false))
                  clear OWH
                  have OWH := OWHN
                  clear OWHN
                  have BWHN := Lib.hid (BWH.out.setCell (p := ⟨bx, 3, none⟩) (by show p ≤ bx; omega) (.bool false))
                  clear BWH
                  have BWH := BWHN
                  clear BWHN
                  clear hzw q0 q1 q2 q3 qf ql
                  have hzw := hzN
                  clear hzN
                  generalize w20.setCell ⟨bx, 3, none⟩ (.bool false) = w21 at *
                  refine ((dtext_any 4096 (by omega) p _ _ _ _ true _ DH.out).mono (fun e w' h => txO_bad h rfl)).mono ?_
                  rintro e w22 ⟨rfl, ⟨A8, n8, c8, b8, D6⟩, T6⟩
                  have BXHN := Lib.hid (BXH.out.two T6)
                  clear BXH
                  have BXH := BXHN
                  clear BXHN
                  have OWHN := Lib.hid (own_two OWH.out T6 (by omega))
                  clear OWH
                  have OWH := OWHN
                  clear OWHN
                  have BWHN := Lib.hid (BWH.out.trans (T6.to_below (by omega)))
                  clear BWH
                  have BWH := BWHN
                  clear BWHN
                  have hzN : p + 3 ≤ w22.heap.size := by have := T6.size; omega
                  clear DH hzw
                  have DH := Lib.hid D6
                  have hzw := hzN
                  clear T6 D6 hzN
                  have q0 := BXH.out.b.c 0 _ rfl
                  have q1 := BXH.out.b.c 1 _ rfl
                  have q2 := BXH.out.b.c 2 _ rfl
                  have q3 := BXH.out.b.c 3 _ rfl
                  have qf := BXH.out.b.fz
                  have ql := BXH.out.b.lt
                  go_wp2_with fail
                  have hzN : p + 3 ≤ (w22.setCell ⟨bx, 1, none⟩ (.string zB)).heap.size := by simpa using hzw
                  have BXHN := Lib.hid (BXH.out.put1 hbx2 (zB))
                  clear BXH
                  have BXH := BXHN
                  clear BXHN
                  have DHN := Lib.hid (DH.out.put hbx 1 (.string zB))
                  clear DH
                  have DH := DHN
                  clear DHN
                  have OWHN := Lib.hid (own_far (b := bx) (o := 1) OWH.out NEX.out (.string zB))
                  clear OWH
                  have OWH := OWHN
                  clear OWHN
                  have BWHN := Lib.hid (BWH.out.setCell (p := ⟨bx, 1, none⟩) (by show p ≤ bx; omega) (.string zB))
                  clear BWH
                  have BWH := BWHN
                  clear BWHN
                  clear hzw q0 q1 q2 q3 qf ql
                  have hzw := hzN
                  clear hzN
                  generalize w22.setCell ⟨bx, 1, none⟩ (.string zB) = w23 at *
                  go_wp2_with fail
                  refine wp_heldall (S := fun X => BxV X bx [.string KY, .string zB, .int .i64 (m3 : Int), .bool false]) 8 (by kernel_rfl) rfl (BXH.out.b.next (Below.drew (Below.refl _ _))) (fun hHeld => ?_)
                  refine takeL (i := 0) (v := ?_) rfl (by kernel_rfl) (by kernel_rfl) (by kernel_rfl) (fun _ _ _ h => h) ⟨by rfl, ?_⟩ (by first | assumption | trivial) ?_
                  rotate_left
                  · intro W9 hSw
                    (try dsimp only at hSw)
                    go_simp
                    try with_reducible rfl
                  (try simp only [Act.put, List.setIfInBounds_toArray, List.set_cons_zero, List.set_cons_succ])
                  refine takeL (i := 1) (v := ?_) rfl (by kernel_rfl) (by kernel_rfl) (by kernel_rfl) (fun _ _ _ h => h) ⟨by rfl, ?_⟩ (by first | assumption | trivial) ?_
                  rotate_left
                  · intro W9 hSw
                    (try dsimp only at hSw)
                    (have x0 := hSw.c 0 _ rfl; have x1 := hSw.c 1 _ rfl; have x2 := hSw.c 2 _ rfl; have x3 := hSw.c 3 _ rfl)
                    go_simp
                    try with_reducible rfl
                  (try simp only [Act.put, List.setIfInBounds_toArray, List.set_cons_zero, List.set_cons_succ])
                  refine takeL (i := 4) (v := ?_) rfl (by kernel_rfl) (by kernel_rfl) (by kernel_rfl) (fun _ _ _ h => h) ⟨by rfl, ?_⟩ (by first | assumption | trivial) ?_
                  rotate_left
                  · intro W9 hSw
                    (try dsimp only at hSw)
                    go_simp
                    try with_reducible rfl
                  (try simp only [Act.put, List.setIfInBounds_toArray, List.set_cons_zero, List.set_cons_succ])
                  refine takeL (i := 5) (v := ?_) rfl (by kernel_rfl) (by kernel_rfl) (by kernel_rfl) (fun _ _ _ h => h) ⟨by rfl, ?_⟩ (by first | assumption | trivial) ?_
                  rotate_left
                  · intro W9 hSw
                    (try dsimp only at hSw)
                    (have x0 := hSw.c 0 _ rfl; have x1 := hSw.c 1 _ rfl; have x2 := hSw.c 2 _ rfl; have x3 := hSw.c 3 _ rfl)
                    go_simp
                    try with_reducible rfl
                  (try simp only [Act.put, List.setIfInBounds_toArray, List.set_cons_zero, List.set_cons_succ])
                  have SB := Lib.hid hHeld
                  clear hHeld
                  have hdr := Below.drew (Below.refl w23.heap.size w23)
                  have OX := Lib.hid (own_keep OWH.out hdr (Nat.le_refl _))
                  have DX := Lib.hid (DH.out.next hdr)
                  have BX := Lib.hid (BWH.out.trans (hdr.mono (by omega)))
                  have hzx : p + 3 ≤ w23.drew.heap.size := hzw
                  clear hdr BXH OWH DH BWH
                  generalize w23.drew = X at *
                  refine wpAnyH_ready (rs := [2]) (by kernel_rfl) (by simp) ?_
                  refine consL rfl (by rfl) (fun K hK => ?_) ?_
                  · go_simp
                    have hal : Below X.heap.size X (X.alloc (.cells #[.string KY, .string zB, .int .i64 (m3 : Int), .bool false] 40)) := (Below.refl _ _).alloc (Nat.le_refl _) _
                    have SB2 := Lib.hid (SB.out.next hal)
                    have OX2 := Lib.hid (OX.out.alloc (.cells #[.string KY, .string zB, .int .i64 (m3 : Int), .bool false] 40))
                    have DX2 := Lib.hid (DX.out.next hal)
                    have BX2 := Lib.hid (BX.out.trans (hal.mono (by omega)))
                    have RN : Hid (Rd (X.alloc (.cells #[.string KY, .string zB, .int .i64 (m3 : Int), .bool false] 40)) (X.alloc (.cells #[.string KY, .string zB, .int .i64 (m3 : Int), .bool false] 40)).heap.size (some ⟨X.heap.size, 0, none⟩) [.string KY, .string zB, .int .i64 (m3 : Int), .bool false]) := Lib.hid (rd_frC _ _ _ _)
                    have hz2 : p + 3 ≤ (X.alloc (.cells #[.string KY, .string zB, .int .i64 (m3 : Int), .bool false] 40)).heap.size := by simp; omega
                    refine hK.out _ _ SB2.out (fun _ => ?_)
                    clear hK K hal SB OX DX BX hzx
                    (try simp only [Act.put, List.setIfInBounds_toArray, List.set_cons_zero, List.set_cons_succ])
                    generalize X.alloc (.cells #[.string KY, .string zB, .int .i64 (m3 : Int), .bool false] 40) = X2 at *
                    generalize X.heap.size = hN at *
                    refine wpAnyH_ready (rs := [3]) (by kernel_rfl) (by simp) ?_
                    refine consL rfl (by rfl) (fun K hK => ?_) ?_
                    · refine wp_app styE (.tmp 53) (.tmp 55) rfl (p + 3) OX2.out rfl 1 1 RN.out rfl rfl (by simp [Value.oneCell']) (by unfold maxLen; omega) (by omega) hz2 ?_
                      intro v9 X3 own9 gr9 nil9 at9
                      have hbl : Below (p + 3) X2 X3 := (Below.refl _ _).grown gr9 hz2 (fun g e => (OX2.out.lt g e).1)
                      have SB3 := Lib.hid (BxV.grown SB2.out gr9 (fun e => NEX.out bx e rfl))
                      have DX3 := Lib.hid (DX2.out.nextB hbl (by omega))
                      have BX3 := Lib.hid (BX2.out.trans (hbl.mono (by omega)))
                      have hz4 : p + 3 ≤ X3.heap.size := Nat.le_trans hz2 hbl.size
                      refine hK.out _ _ SB3.out (fun _ => ?_)
                      obtain ⟨A9, c9, rfl, -, -⟩ := own_sl own9
                      have O9 : Hid (X3.ownsRow (p + 3) 40 4 (.slice A9 (out.length + 1) c9) (out ++ [(⟨KY, zB, (m3 : Int), false⟩ : Ent)]).length (env (out ++ [(⟨KY, zB, (m3 : Int), false⟩ : Ent)]))) := Lib.hid (own_eq own9 (by simp) (by rw [env_app]; rfl))
                      clear hK K hbl own9 gr9 nil9 at9 SB2 OX2 DX2 BX2 RN hz2 SB3
                      (try simp only [Act.put, List.setIfInBounds_toArray, List.set_cons_zero, List.set_cons_succ])
                      refine takeL (i := 6) (v := ?_) rfl (by kernel_rfl) (by kernel_rfl) (by kernel_rfl) (fun _ _ _ h => h) ⟨by rfl, ?_⟩ (by first | assumption | trivial) ?_
                      rotate_left
                      · intro W9 hSw
                        (try dsimp only at hSw)
                        go_simp
                        try with_reducible rfl
                      (try simp only [Act.put, List.setIfInBounds_toArray, List.set_cons_zero, List.set_cons_succ])
                      refine takeL (i := 7) (v := ?_) rfl (by kernel_rfl) (by kernel_rfl) (by kernel_rfl) (fun _ _ _ h => h) ⟨by rfl, ?_⟩ (by first | assumption | trivial) ?_
                      rotate_left
                      · intro W9 hSw
                        (try dsimp only at hSw)
                        go_simp
                        try with_reducible rfl
                      (try simp only [Act.put, List.setIfInBounds_toArray, List.set_cons_zero, List.set_cons_succ])
                      refine wpAnyH_done (by kernel_rfl) ?_ _
                      have HK9 : Hid (∀ x ∈ out ++ [(⟨KY, zB, (m3 : Int), false⟩ : Ent)], x.key.size ≤ 40000) := Lib.hid (fun x hx => by
                        rcases List.mem_append.1 hx with h | h
                        · exact HK.out x h
                        · have e := List.mem_singleton.1 h
                          rw [e]
                          show KY.size ≤ 40000
                          omega)
                      have RS9 : Hid (RdS X3 p P (out ++ [(⟨KY, zB, (m3 : Int), false⟩ : Ent)]) KY m) := Lib.hid (.inl ⟨HP0.out, _, _, _, _, DX3.out⟩)
                      have hom9 : (out ++ [(⟨KY, zB, (m3 : Int), false⟩ : Ent)]).length + m ≤ 64 := by rw [List.length_append]; simp only [List.length_cons, List.length_nil]; omega
                      have hls9 : KY.size + m * 512 ≤ 40000 := by omega
                      go_wp2_with fail
                      go_roundw
                      case rel => exact ⟨A9, c9, out ++ [(⟨KY, zB, (m3 : Int), false⟩ : Ent)], KY, m, (show Value.slice A9 (out.length + 1) c9 = .slice A9 (out ++ [(⟨KY, zB, (m3 : Int), false⟩ : Ent)]).length c9 by rw [List.length_append]; rfl), rfl, rfl, hom9, hls9, hz4, HK9, Lib.hid (by have h := O9.out; rw [List.length_append] at h ⊢; exact h), RS9, BX3⟩
                      case measure => simp [intOf]
                    · exact AllReadyH.nil
                  · exact AllReadyH.nil
                | some m4 =>
                  obtain ⟨m4, k4⟩ := m4
                  have H4 := Lib.hid hs4
                  have hq4 := (smU_sound hs4).2.2
                  clear hs4
                  refine ((dsmall_any 1 (by omega) p _ _ _ _ false _ DH.out).mono (fun e w' h => smO_ok h (show smB false (r2.drop k3) 1 = some (m4, k4) from H4.out))).mono ?_
                  rintro e w24 ⟨rfl, ⟨A8, n8, c8, D6⟩, T6⟩
                  have BXHN := Lib.hid (BXH.out.two T6)
                  clear BXH
                  have BXH := BXHN
                  clear BXHN
                  have OWHN := Lib.hid (own_two OWH.out T6 (by omega))
                  clear OWH
                  have OWH := OWHN
                  clear OWHN
                  have BWHN := Lib.hid (BWH.out.trans (T6.to_below (by omega)))
                  clear BWH
                  have BWH := BWHN
                  clear BWHN
                  have hzN : p + 3 ≤ w24.heap.size := by have := T6.size; omega
                  clear DH hzw
                  have DH := Lib.hid D6
                  have hzw := hzN
                  clear T6 D6 hzN
                  by_cases hd1 : m4 = 1
                  · have e4 : ((m4 : Int) == 1) = true := by rw [beq_iff_eq]; omega
                    have HD1 := Lib.hid hd1
                    clear hd1
                    have q0 := BXH.out.b.c 0 _ rfl
                    have q1 := BXH.out.b.c 1 _ rfl
                    have q2 := BXH.out.b.c 2 _ rfl
                    have q3 := BXH.out.b.c 3 _ rfl
                    have qf := BXH.out.b.fz
                    have ql := BXH.out.b.lt
                    go_wp2_with fail
                    clear e4
                    have hzN : p + 3 ≤ (w24.setCell ⟨bx, 3, none⟩ (.bool true)).heap.size := by simpa using hzw
                    have BXHN := Lib.hid (BXH.out.put3 hbx2 (true))
                    clear BXH
                    have BXH := BXHN
                    clear BXHN
                    have DHN := Lib.hid (DH.out.put hbx 3 (.bool true))
                    clear DH
                    have DH := DHN
                    clear DHN
                    have OWHN := Lib.hid (own_far (b := bx) (o := 3) OWH.out NEX.out (.bool true))
                    clear OWH
                    have OWH := OWHN
                    clear OWHN
                    have BWHN := Lib.hid (BWH.out.setCell (p := ⟨bx, 3, none⟩) (by show p ≤ bx; omega) (.bool true))
                    clear BWH
                    have BWH := BWHN
                    clear BWHN
                    clear hzw q0 q1 q2 q3 qf ql
                    have hzw := hzN
                    clear hzN
                    generalize w24.setCell ⟨bx, 3, none⟩ (.bool true) = w25 at *
                    go_wp2_with fail
                    refine wp_heldall (S := fun X => BxV X bx [.string KY, .string zB, .int .i64 (m3 : Int), .bool true]) 8 (by kernel_rfl) rfl (BXH.out.b.next (Below.drew (Below.refl _ _))) (fun hHeld => ?_)
                    refine takeL (i := 0) (v := ?_) rfl (by kernel_rfl) (by kernel_rfl) (by kernel_rfl) (fun _ _ _ h => h) ⟨by rfl, ?_⟩ (by first | assumption | trivial) ?_
                    rotate_left
                    · intro W9 hSw
                      (try dsimp only at hSw)
                      go_simp
                      try with_reducible rfl
                    (try simp only [Act.put, List.setIfInBounds_toArray, List.set_cons_zero, List.set_cons_succ])
                    refine takeL (i := 1) (v := ?_) rfl (by kernel_rfl) (by kernel_rfl) (by kernel_rfl) (fun _ _ _ h => h) ⟨by rfl, ?_⟩ (by first | assumption | trivial) ?_
                    rotate_left
                    · intro W9 hSw
                      (try dsimp only at hSw)
                      (have x0 := hSw.c 0 _ rfl; have x1 := hSw.c 1 _ rfl; have x2 := hSw.c 2 _ rfl; have x3 := hSw.c 3 _ rfl)
                      go_simp
                      try with_reducible rfl
                    (try simp only [Act.put, List.setIfInBounds_toArray, List.set_cons_zero, List.set_cons_succ])
                    refine takeL (i := 4) (v := ?_) rfl (by kernel_rfl) (by kernel_rfl) (by kernel_rfl) (fun _ _ _ h => h) ⟨by rfl, ?_⟩ (by first | assumption | trivial) ?_
                    rotate_left
                    · intro W9 hSw
                      (try dsimp only at hSw)
                      go_simp
                      try with_reducible rfl
                    (try simp only [Act.put, List.setIfInBounds_toArray, List.set_cons_zero, List.set_cons_succ])
                    refine takeL (i := 5) (v := ?_) rfl (by kernel_rfl) (by kernel_rfl) (by kernel_rfl) (fun _ _ _ h => h) ⟨by rfl, ?_⟩ (by first | assumption | trivial) ?_
                    rotate_left
                    · intro W9 hSw
                      (try dsimp only at hSw)
                      (have x0 := hSw.c 0 _ rfl; have x1 := hSw.c 1 _ rfl; have x2 := hSw.c 2 _ rfl; have x3 := hSw.c 3 _ rfl)
                      go_simp
                      try with_reducible rfl
                    (try simp only [Act.put, List.setIfInBounds_toArray, List.set_cons_zero, List.set_cons_succ])
                    have SB := Lib.hid hHeld
                    clear hHeld
                    have hdr := Below.drew (Below.refl w25.heap.size w25)
                    have OX := Lib.hid (own_keep OWH.out hdr (Nat.le_refl _))
                    have DX := Lib.hid (DH.out.next hdr)
                    have BX := Lib.hid (BWH.out.trans (hdr.mono (by omega)))
                    have hzx : p + 3 ≤ w25.drew.heap.size := hzw
                    clear hdr BXH OWH DH BWH
                    generalize w25.drew = X at *
                    refine wpAnyH_ready (rs := [2]) (by kernel_rfl) (by simp) ?_
                    refine consL rfl (by rfl) (fun K hK => ?_) ?_
                    · go_simp
                      have hal : Below X.heap.size X (X.alloc (.cells #[.string KY, .string zB, .int .i64 (m3 : Int), .bool true] 40)) := (Below.refl _ _).alloc (Nat.le_refl _) _
                      have SB2 := Lib.hid (SB.out.next hal)
                      have OX2 := Lib.hid (OX.out.alloc (.cells #[.string KY, .string zB, .int .i64 (m3 : Int), .bool true] 40))
                      have DX2 := Lib.hid (DX.out.next hal)
                      have BX2 := Lib.hid (BX.out.trans (hal.mono (by omega)))
                      have RN : Hid (Rd (X.alloc (.cells #[.string KY, .string zB, .int .i64 (m3 : Int), .bool true] 40)) (X.alloc (.cells #[.string KY, .string zB, .int .i64 (m3 : Int), .bool true] 40)).heap.size (some ⟨X.heap.size, 0, none⟩) [.string KY, .string zB, .int .i64 (m3 : Int), .bool true]) := Lib.hid (rd_frC _ _ _ _)
                      have hz2 : p + 3 ≤ (X.alloc (.cells #[.string KY, .string zB, .int .i64 (m3 : Int), .bool true] 40)).heap.size := by simp; omega
                      refine hK.out _ _ SB2.out (fun _ => ?_)
                      clear hK K hal SB OX DX BX hzx
                      (try simp only [Act.put, List.setIfInBounds_toArray, List.set_cons_zero, List.set_cons_succ])
                      generalize X.alloc (.cells #[.string KY, .string zB, .int .i64 (m3 : Int), .bool true] 40) = X2 at *
                      generalize X.heap.size = hN at *
                      refine wpAnyH_ready (rs := [3]) (by kernel_rfl) (by simp) ?_
                      refine consL rfl (by rfl) (fun K hK => ?_) ?_
                      · refine wp_app styE (.tmp 53) (.tmp 55) rfl (p + 3) OX2.out rfl 1 1 RN.out rfl rfl (by simp [Value.oneCell']) (by unfold maxLen; omega) (by omega) hz2 ?_
                        intro v9 X3 own9 gr9 nil9 at9
                        have hbl : Below (p + 3) X2 X3 := (Below.refl _ _).grown gr9 hz2 (fun g e => (OX2.out.lt g e).1)
                        have SB3 := Lib.hid (BxV.grown SB2.out gr9 (fun e => NEX.out bx e rfl))
                        have DX3 := Lib.hid (DX2.out.nextB hbl (by omega))
                        have BX3 := Lib.hid (BX2.out.trans (hbl.mono (by omega)))
                        have hz4 : p + 3 ≤ X3.heap.size := Nat.le_trans hz2 hbl.size
                        refine hK.out _ _ SB3.out (fun _ => ?_)
                        obtain ⟨A9, c9, rfl, -, -⟩ := own_sl own9
                        have O9 : Hid (X3.ownsRow (p + 3) 40 4 (.slice A9 (out.length + 1) c9) (out ++ [(⟨KY, zB, (m3 : Int), true⟩ : Ent)]).length (env (out ++ [(⟨KY, zB, (m3 : Int), true⟩ : Ent)]))) := Lib.hid (own_eq own9 (by simp) (by rw [env_app]; rfl))
                        clear hK K hbl own9 gr9 nil9 at9 SB2 OX2 DX2 BX2 RN hz2 SB3
                        (try simp only [Act.put, List.setIfInBounds_toArray, List.set_cons_zero, List.set_cons_succ])
                        refine takeL (i := 6) (v := ?_) rfl (by kernel_rfl) (by kernel_rfl) (by kernel_rfl) (fun _ _ _ h => h) ⟨by rfl, ?_⟩ (by first | assumption | trivial) ?_
                        rotate_left
                        · intro W9 hSw
                          (try dsimp only at hSw)
                          go_simp
                          try with_reducible rfl
                        (try simp only [Act.put, List.setIfInBounds_toArray, List.set_cons_zero, List.set_cons_succ])
                        refine takeL (i := 7) (v := ?_) rfl (by kernel_rfl) (by kernel_rfl) (by kernel_rfl) (fun _ _ _ h => h) ⟨by rfl, ?_⟩ (by first | assumption | trivial) ?_
                        rotate_left
                        · intro W9 hSw
                          (try dsimp only at hSw)
                          go_simp
                          try with_reducible rfl
                        (try simp only [Act.put, List.setIfInBounds_toArray, List.set_cons_zero, List.set_cons_succ])
                        refine wpAnyH_done (by kernel_rfl) ?_ _
                        have HK9 : Hid (∀ x ∈ out ++ [(⟨KY, zB, (m3 : Int), true⟩ : Ent)], x.key.size ≤ 40000) := Lib.hid (fun x hx => by
                          rcases List.mem_append.1 hx with h | h
                          · exact HK.out x h
                          · have e := List.mem_singleton.1 h
                            rw [e]
                            show KY.size ≤ 40000
                            omega)
                        have RS9 : Hid (RdS X3 p P (out ++ [(⟨KY, zB, (m3 : Int), true⟩ : Ent)]) KY m) := Lib.hid (.inr ⟨_, _, _, _, DX3.out, HPG.out ⟨KY, zB, (m3 : Int), true⟩ _ (by unfold pE; rw [H1.out, Option.bind_some, H2E.out, Option.bind_some, H3.out, Option.bind_some, H4.out, Option.bind_some, (if_pos HD1.out)]; rw [HKE.out])⟩)
                        have hom9 : (out ++ [(⟨KY, zB, (m3 : Int), true⟩ : Ent)]).length + m ≤ 64 := by rw [List.length_append]; simp only [List.length_cons, List.length_nil]; omega
                        have hls9 : KY.size + m * 512 ≤ 40000 := by omega
                        go_wp2_with fail
                        go_roundw
                        case rel => exact ⟨A9, c9, out ++ [(⟨KY, zB, (m3 : Int), true⟩ : Ent)], KY, m, (show Value.slice A9 (out.length + 1) c9 = .slice A9 (out ++ [(⟨KY, zB, (m3 : Int), true⟩ : Ent)]).length c9 by rw [List.length_append]; rfl), rfl, rfl, hom9, hls9, hz4, HK9, Lib.hid (by have h := O9.out; rw [List.length_append] at h ⊢; exact h), RS9, BX3⟩
                        case measure => simp [intOf]
                      · exact AllReadyH.nil
                    · exact AllReadyH.nil
                  · have e4 : ((m4 : Int) == 1) = false := by rw [beq_eq_false_iff_ne]; omega
                    have HD1 := Lib.hid hd1
                    clear hd1
                    have q0 := BXH.out.b.c 0 _ rfl
                    have q1 := BXH.out.b.c 1 _ rfl
                    have q2 := BXH.out.b.c 2 _ rfl
                    have q3 := BXH.out.b.c 3 _ rfl
                    have qf := BXH.out.b.fz
                    have ql := BXH.out.b.lt
                    go_wp2_with fail
                    clear e4
                    have hzN : p + 3 ≤ (w24.setCell ⟨bx, 3, none⟩ (.bool false)).heap.size := by simpa using hzw
                    have BXHN := Lib.hid (BXH.out.put3 hbx2 (false))
                    clear BXH
                    have BXH := BXHN
                    clear BXHN
                    have DHN := Lib.hid (DH.out.put hbx 3 (.bool false))
                    clear DH
                    have DH := DHN
                    clear DHN
                    have OWHN := Lib.hid (own_far (b := bx) (o := 3) OWH.out NEX.out (.bool false))
                    clear OWH
                    have OWH := OWHN
                    clear OWHN
                    have BWHN := Lib.hid (BWH.out.setCell (p := ⟨bx, 3, none⟩) (by show p ≤ bx; omega) (.bool false))
                    clear BWH
                    have BWH := BWHN
                    clear BWHN
                    clear hzw q0 q1 q2 q3 qf ql
                    have hzw := hzN
                    clear hzN
                    generalize w24.setCell ⟨bx, 3, none⟩ (.bool false) = w26 at *
                    cases hs5 : pT 4096 ((r2.drop k3).drop k4) with
                    | none =>
                      have H5 : Hid (pT 4096 ((r2.drop k3).drop k4) = none) := Lib.hid hs5
                      clear hs5
                      refine ((dtext_any 4096 (by omega) p _ _ _ _ false _ DH.out).mono (fun e w' h => txO_bad h (show txB false ((r2.drop k3).drop k4) 4096 = none from H5.out))).mono ?_
                      rintro e w27 ⟨rfl, ⟨A8, n8, c8, b8, D6⟩, T6⟩
                      have BXHN := Lib.hid (BXH.out.two T6)
                      clear BXH
                      have BXH := BXHN
                      clear BXHN
                      have OWHN := Lib.hid (own_two OWH.out T6 (by omega))
                      clear OWH
                      have OWH := OWHN
                      clear OWHN
                      have BWHN := Lib.hid (BWH.out.trans (T6.to_below (by omega)))
                      clear BWH
                      have BWH := BWHN
                      clear BWHN
                      have hzN : p + 3 ≤ w27.heap.size := by have := T6.size; omega
                      clear DH hzw
                      have DH := Lib.hid D6
                      have hzw := hzN
                      clear T6 D6 hzN
                      have HP0 : Hid (P = none) := Lib.hid (HPB.out (by unfold pE; rw [H1.out, Option.bind_some, H2E.out, Option.bind_some, H3.out, Option.bind_some, H4.out, Option.bind_some, (if_neg HD1.out), H5.out]; rfl))
                      clear HPB HPG
                      have q0 := BXH.out.b.c 0 _ rfl
                      have q1 := BXH.out.b.c 1 _ rfl
                      have q2 := BXH.out.b.c 2 _ rfl
                      have q3 := BXH.out.b.c 3 _ rfl
                      have qf := BXH.out.b.fz
                      have ql := BXH.out.b.lt
                      go_wp2_with fail
                      have hzN : p + 3 ≤ (w27.setCell ⟨bx, 1, none⟩ (.string zB)).heap.size := by simpa using hzw
                      have BXHN := Lib.hid (BXH.out.put1 hbx2 (zB))
                      clear BXH
                      have BXH := BXHN
                      clear BXHN
                      have DHN := Lib.hid (DH.out.put hbx 1 (.string zB))
                      clear DH
                      have DH := DHN
                      clear DHN
                      have OWHN := Lib.hid (own_far (b := bx) (o := 1) OWH.out NEX.out (.string zB))
                      clear OWH
                      have OWH := OWHN
                      clear OWHN
                      have BWHN := Lib.hid (BWH.out.setCell (p := ⟨bx, 1, none⟩) (by show p ≤ bx; omega) (.string zB))
                      clear BWH
                      have BWH := BWHN
                      clear BWHN
                      clear hzw q0 q1 q2 q3 qf ql
                      have hzw := hzN
                      clear hzN
                      generalize w27.setCell ⟨bx, 1, none⟩ (.string zB) = w28 at *
                      go_wp2_with fail
                      refine wp_heldall (S := fun X => BxV X bx [.string KY, .string zB, .int .i64 (m3 : Int), .bool false]) 8 (by kernel_rfl) rfl (BXH.out.b.next (Below.drew (Below.refl _ _))) (fun hHeld => ?_)
                      refine takeL (i := 0) (v := ?_) rfl (by kernel_rfl) (by kernel_rfl) (by kernel_rfl) (fun _ _ _ h => h) ⟨by rfl, ?_⟩ (by first | assumption | trivial) ?_
                      rotate_left
                      · intro W9 hSw
                        (try dsimp only at hSw)
                        go_simp
                        try with_reducible rfl
                      (try simp only [Act.put, List.setIfInBounds_toArray, List.set_cons_zero, List.set_cons_succ])
                      refine takeL (i := 1) (v := ?_) rfl (by kernel_rfl) (by kernel_rfl) (by kernel_rfl) (fun _ _ _ h => h) ⟨by rfl, ?_⟩ (by first | assumption | trivial) ?_
                      rotate_left
                      · intro W9 hSw
                        (try dsimp only at hSw)
                        (have x0 := hSw.c 0 _ rfl; have x1 := hSw.c 1 _ rfl; have x2 := hSw.c 2 _ rfl; have x3 := hSw.c 3 _ rfl)
                        go_simp
                        try with_reducible rfl
                      (try simp only [Act.put, List.setIfInBounds_toArray, List.set_cons_zero, List.set_cons_succ])
                      refine takeL (i := 4) (v := ?_) rfl (by kernel_rfl) (by kernel_rfl) (by kernel_rfl) (fun _ _ _ h => h) ⟨by rfl, ?_⟩ (by first | assumption | trivial) ?_
                      rotate_left
                      · intro W9 hSw
                        (try dsimp only at hSw)
                        go_simp
                        try with_reducible rfl
                      (try simp only [Act.put, List.setIfInBounds_toArray, List.set_cons_zero, List.set_cons_succ])
                      refine takeL (i := 5) (v := ?_) rfl (by kernel_rfl) (by kernel_rfl) (by kernel_rfl) (fun _ _ _ h => h) ⟨by rfl, ?_⟩ (by first | assumption | trivial) ?_
                      rotate_left
                      · intro W9 hSw
                        (try dsimp only at hSw)
                        (have x0 := hSw.c 0 _ rfl; have x1 := hSw.c 1 _ rfl; have x2 := hSw.c 2 _ rfl; have x3 := hSw.c 3 _ rfl)
                        go_simp
                        try with_reducible rfl
                      (try simp only [Act.put, List.setIfInBounds_toArray, List.set_cons_zero, List.set_cons_succ])
                      have SB := Lib.hid hHeld
                      clear hHeld
                      have hdr := Below.drew (Below.refl w28.heap.size w28)
                      have OX := Lib.hid (own_keep OWH.out hdr (Nat.le_refl _))
                      have DX := Lib.hid (DH.out.next hdr)
                      have BX := Lib.hid (BWH.out.trans (hdr.mono (by omega)))
                      have hzx : p + 3 ≤ w28.drew.heap.size := hzw
                      clear hdr BXH OWH DH BWH
                      generalize w28.drew = X at *
                      refine wpAnyH_ready (rs := [2]) (by kernel_rfl) (by simp) ?_
                      refine consL rfl (by rfl) (fun K hK => ?_) ?_
                      · go_simp
                        have hal : Below X.heap.size X (X.alloc (.cells #[.string KY, .string zB, .int .i64 (m3 : Int), .bool false] 40)) := (Below.refl _ _).alloc (Nat.le_refl _) _
                        have SB2 := Lib.hid (SB.out.next hal)
                        have OX2 := Lib.hid (OX.out.alloc (.cells #[.string KY, .string zB, .int .i64 (m3 : Int), .bool false] 40))
                        have DX2 := Lib.hid (DX.out.next hal)
                        have BX2 := Lib.hid (BX.out.trans (hal.mono (by omega)))
                        have RN : Hid (Rd (X.alloc (.cells #[.string KY, .string zB, .int .i64 (m3 : Int), .bool false] 40)) (X.alloc (.cells #[.string KY, .string zB, .int .i64 (m3 : Int), .bool false] 40)).heap.size (some ⟨X.heap.size, 0, none⟩) [.string KY, .string zB, .int .i64 (m3 : Int), .bool false]) := Lib.hid (rd_frC _ _ _ _)
                        have hz2 : p + 3 ≤ (X.alloc (.cells #[.string KY, .string zB, .int .i64 (m3 : Int), .bool false] 40)).heap.size := by simp; omega
                        refine hK.out _ _ SB2.out (fun _ => ?_)
                        clear hK K hal SB OX DX BX hzx
                        (try simp only [Act.put, List.setIfInBounds_toArray, List.set_cons_zero, List.set_cons_succ])
                        generalize X.alloc (.cells #[.string KY, .string zB, .int .i64 (m3 : Int), .bool false] 40) = X2 at *
                        generalize X.heap.size = hN at *
                        refine wpAnyH_ready (rs := [3]) (by kernel_rfl) (by simp) ?_
                        refine consL rfl (by rfl) (fun K hK => ?_) ?_
                        · refine wp_app styE (.tmp 53) (.tmp 55) rfl (p + 3) OX2.out rfl 1 1 RN.out rfl rfl (by simp [Value.oneCell']) (by unfold maxLen; omega) (by omega) hz2 ?_
                          intro v9 X3 own9 gr9 nil9 at9
                          have hbl : Below (p + 3) X2 X3 := (Below.refl _ _).grown gr9 hz2 (fun g e => (OX2.out.lt g e).1)
                          have SB3 := Lib.hid (BxV.grown SB2.out gr9 (fun e => NEX.out bx e rfl))
                          have DX3 := Lib.hid (DX2.out.nextB hbl (by omega))
                          have BX3 := Lib.hid (BX2.out.trans (hbl.mono (by omega)))
                          have hz4 : p + 3 ≤ X3.heap.size := Nat.le_trans hz2 hbl.size
                          refine hK.out _ _ SB3.out (fun _ => ?_)
                          obtain ⟨A9, c9, rfl, -, -⟩ := own_sl own9
                          have O9 : Hid (X3.ownsRow (p + 3) 40 4 (.slice A9 (out.length + 1) c9) (out ++ [(⟨KY, zB, (m3 : Int), false⟩ : Ent)]).length (env (out ++ [(⟨KY, zB, (m3 : Int), false⟩ : Ent)]))) := Lib.hid (own_eq own9 (by simp) (by rw [env_app]; rfl))
                          clear hK K hbl own9 gr9 nil9 at9 SB2 OX2 DX2 BX2 RN hz2 SB3
                          (try simp only [Act.put, List.setIfInBounds_toArray, List.set_cons_zero, List.set_cons_succ])
                          refine takeL (i := 6) (v := ?_) rfl (by kernel_rfl) (by kernel_rfl) (by kernel_rfl) (fun _ _ _ h => h) ⟨by rfl, ?_⟩ (by first | assumption | trivial) ?_
                          rotate_left
                          · intro W9 hSw
                            (try dsimp only at hSw)
                            go_simp
                            try with_reducible rfl
                          (try simp only [Act.put, List.setIfInBounds_toArray, List.set_cons_zero, List.set_cons_succ])
                          refine takeL (i := 7) (v := ?_) rfl (by kernel_rfl) (by kernel_rfl) (by kernel_rfl) (fun _ _ _ h => h) ⟨by rfl, ?_⟩ (by first | assumption | trivial) ?_
                          rotate_left
                          · intro W9 hSw
                            (try dsimp only at hSw)
                            go_simp
                            try with_reducible rfl
                          (try simp only [Act.put, List.setIfInBounds_toArray, List.set_cons_zero, List.set_cons_succ])
                          refine wpAnyH_done (by kernel_rfl) ?_ _
                          have HK9 : Hid (∀ x ∈ out ++ [(⟨KY, zB, (m3 : Int), false⟩ : Ent)], x.key.size ≤ 40000) := Lib.hid (fun x hx => by
                            rcases List.mem_append.1 hx with h | h
                            · exact HK.out x h
                            · have e := List.mem_singleton.1 h
                              rw [e]
                              show KY.size ≤ 40000
                              omega)
                          have RS9 : Hid (RdS X3 p P (out ++ [(⟨KY, zB, (m3 : Int), false⟩ : Ent)]) KY m) := Lib.hid (.inl ⟨HP0.out, _, _, _, _, DX3.out⟩)
                          have hom9 : (out ++ [(⟨KY, zB, (m3 : Int), false⟩ : Ent)]).length + m ≤ 64 := by rw [List.length_append]; simp only [List.length_cons, List.length_nil]; omega
                          have hls9 : KY.size + m * 512 ≤ 40000 := by omega
                          go_wp2_with fail
                          go_roundw
                          case rel => exact ⟨A9, c9, out ++ [(⟨KY, zB, (m3 : Int), false⟩ : Ent)], KY, m, (show Value.slice A9 (out.length + 1) c9 = .slice A9 (out ++ [(⟨KY, zB, (m3 : Int), false⟩ : Ent)]).length c9 by rw [List.length_append]; rfl), rfl, rfl, hom9, hls9, hz4, HK9, Lib.hid (by have h := O9.out; rw [List.length_append] at h ⊢; exact h), RS9, BX3⟩
                          case measure => simp [intOf]
                        · exact AllReadyH.nil
                      · exact AllReadyH.nil
                    | some m5 =>
                      obtain ⟨v5, r5⟩ := m5
                      have H5 : Hid (pT 4096 ((r2.drop k3).drop k4) = some (v5, r5)) := Lib.hid hs5
                      clear hs5
                      refine ((dtext_any 4096 (by omega) p _ _ _ _ false _ DH.out).mono (fun e w' h => txO_ok h (show txB false ((r2.drop k3).drop k4) 4096 = some (v5, r5) from H5.out))).mono ?_
                      rintro e w29 ⟨rfl, ⟨A8, n8, c8, D6⟩, T6⟩
                      have BXHN := Lib.hid (BXH.out.two T6)
                      clear BXH
                      have BXH := BXHN
                      clear BXHN
                      have OWHN := Lib.hid (own_two OWH.out T6 (by omega))
                      clear OWH
                      have OWH := OWHN
                      clear OWHN
                      have BWHN := Lib.hid (BWH.out.trans (T6.to_below (by omega)))
                      clear BWH
                      have BWH := BWHN
                      clear BWHN
                      have hzN : p + 3 ≤ w29.heap.size := by have := T6.size; omega
                      clear DH hzw
                      have DH := Lib.hid D6
                      have hzw := hzN
                      clear T6 D6 hzN
                      have q0 := BXH.out.b.c 0 _ rfl
                      have q1 := BXH.out.b.c 1 _ rfl
                      have q2 := BXH.out.b.c 2 _ rfl
                      have q3 := BXH.out.b.c 3 _ rfl
                      have qf := BXH.out.b.fz
                      have ql := BXH.out.b.lt
                      go_wp2_with fail
                      have hzN : p + 3 ≤ (w29.setCell ⟨bx, 1, none⟩ (.string v5)).heap.size := by simpa using hzw
                      have BXHN := Lib.hid (BXH.out.put1 hbx2 (v5))
                      clear BXH
                      have BXH := BXHN
                      clear BXHN
                      have DHN := Lib.hid (DH.out.put hbx 1 (.string v5))
                      clear DH
                      have DH := DHN
                      clear DHN
                      have OWHN := Lib.hid (own_far (b := bx) (o := 1) OWH.out NEX.out (.string v5))
                      clear OWH
                      have OWH := OWHN
                      clear OWHN
                      have BWHN := Lib.hid (BWH.out.setCell (p := ⟨bx, 1, none⟩) (by show p ≤ bx; omega) (.string v5))
                      clear BWH
                      have BWH := BWHN
                      clear BWHN
                      clear hzw q0 q1 q2 q3 qf ql
                      have hzw := hzN
                      clear hzN
                      generalize w29.setCell ⟨bx, 1, none⟩ (.string v5) = w30 at *
                      go_wp2_with fail
                      refine wp_heldall (S := fun X => BxV X bx [.string KY, .string v5, .int .i64 (m3 : Int), .bool false]) 8 (by kernel_rfl) rfl (BXH.out.b.next (Below.drew (Below.refl _ _))) (fun hHeld => ?_)
                      refine takeL (i := 0) (v := ?_) rfl (by kernel_rfl) (by kernel_rfl) (by kernel_rfl) (fun _ _ _ h => h) ⟨by rfl, ?_⟩ (by first | assumption | trivial) ?_
                      rotate_left
                      · intro W9 hSw
                        (try dsimp only at hSw)
                        go_simp
                        try with_reducible rfl
                      (try simp only [Act.put, List.setIfInBounds_toArray, List.set_cons_zero, List.set_cons_succ])
                      refine takeL (i := 1) (v := ?_) rfl (by kernel_rfl) (by kernel_rfl) (by kernel_rfl) (fun _ _ _ h => h) ⟨by rfl, ?_⟩ (by first | assumption | trivial) ?_
                      rotate_left
                      · intro W9 hSw
                        (try dsimp only at hSw)
                        (have x0 := hSw.c 0 _ rfl; have x1 := hSw.c 1 _ rfl; have x2 := hSw.c 2 _ rfl; have x3 := hSw.c 3 _ rfl)
                        go_simp
                        try with_reducible rfl
                      (try simp only [Act.put, List.setIfInBounds_toArray, List.set_cons_zero, List.set_cons_succ])
                      refine takeL (i := 4) (v := ?_) rfl (by kernel_rfl) (by kernel_rfl) (by kernel_rfl) (fun _ _ _ h => h) ⟨by rfl, ?_⟩ (by first | assumption | trivial) ?_
                      rotate_left
                      · intro W9 hSw
                        (try dsimp only at hSw)
                        go_simp
                        try with_reducible rfl
                      (try simp only [Act.put, List.setIfInBounds_toArray, List.set_cons_zero, List.set_cons_succ])
                      refine takeL (i := 5) (v := ?_) rfl (by kernel_rfl) (by kernel_rfl) (by kernel_rfl) (fun _ _ _ h => h) ⟨by rfl, ?_⟩ (by first | assumption | trivial) ?_
                      rotate_left
                      · intro W9 hSw
                        (try dsimp only at hSw)
                        (have x0 := hSw.c 0 _ rfl; have x1 := hSw.c 1 _ rfl; have x2 := hSw.c 2 _ rfl; have x3 := hSw.c 3 _ rfl)
                        go_simp
                        try with_reducible rfl
                      (try simp only [Act.put, List.setIfInBounds_toArray, List.set_cons_zero, List.set_cons_succ])
                      have SB := Lib.hid hHeld
                      clear hHeld
                      have hdr := Below.drew (Below.refl w30.heap.size w30)
                      have OX := Lib.hid (own_keep OWH.out hdr (Nat.le_refl _))
                      have DX := Lib.hid (DH.out.next hdr)
                      have BX := Lib.hid (BWH.out.trans (hdr.mono (by omega)))
                      have hzx : p + 3 ≤ w30.drew.heap.size := hzw
                      clear hdr BXH OWH DH BWH
                      generalize w30.drew = X at *
                      refine wpAnyH_ready (rs := [2]) (by kernel_rfl) (by simp) ?_
                      refine consL rfl (by rfl) (fun K hK => ?_) ?_
                      · go_simp
                        have hal : Below X.heap.size X (X.alloc (.cells #[.string KY, .string v5, .int .i64 (m3 : Int), .bool false] 40)) := (Below.refl _ _).alloc (Nat.le_refl _) _
                        have SB2 := Lib.hid (SB.out.next hal)
                        have OX2 := Lib.hid (OX.out.alloc (.cells #[.string KY, .string v5, .int .i64 (m3 : Int), .bool false] 40))
                        have DX2 := Lib.hid (DX.out.next hal)
                        have BX2 := Lib.hid (BX.out.trans (hal.mono (by omega)))
                        have RN : Hid (Rd (X.alloc (.cells #[.string KY, .string v5, .int .i64 (m3 : Int), .bool false] 40)) (X.alloc (.cells #[.string KY, .string v5, .int .i64 (m3 : Int), .bool false] 40)).heap.size (some ⟨X.heap.size, 0, none⟩) [.string KY, .string v5, .int .i64 (m3 : Int), .bool false]) := Lib.hid (rd_frC _ _ _ _)
                        have hz2 : p + 3 ≤ (X.alloc (.cells #[.string KY, .string v5, .int .i64 (m3 : Int), .bool false] 40)).heap.size := by simp; omega
                        refine hK.out _ _ SB2.out (fun _ => ?_)
                        clear hK K hal SB OX DX BX hzx
                        (try simp only [Act.put, List.setIfInBounds_toArray, List.set_cons_zero, List.set_cons_succ])
                        generalize X.alloc (.cells #[.string KY, .string v5, .int .i64 (m3 : Int), .bool false] 40) = X2 at *
                        generalize X.heap.size = hN at *
                        refine wpAnyH_ready (rs := [3]) (by kernel_rfl) (by simp) ?_
                        refine consL rfl (by rfl) (fun K hK => ?_) ?_
                        · refine wp_app styE (.tmp 53) (.tmp 55) rfl (p + 3) OX2.out rfl 1 1 RN.out rfl rfl (by simp [Value.oneCell']) (by unfold maxLen; omega) (by omega) hz2 ?_
                          intro v9 X3 own9 gr9 nil9 at9
                          have hbl : Below (p + 3) X2 X3 := (Below.refl _ _).grown gr9 hz2 (fun g e => (OX2.out.lt g e).1)
                          have SB3 := Lib.hid (BxV.grown SB2.out gr9 (fun e => NEX.out bx e rfl))
                          have DX3 := Lib.hid (DX2.out.nextB hbl (by omega))
                          have BX3 := Lib.hid (BX2.out.trans (hbl.mono (by omega)))
                          have hz4 : p + 3 ≤ X3.heap.size := Nat.le_trans hz2 hbl.size
                          refine hK.out _ _ SB3.out (fun _ => ?_)
                          obtain ⟨A9, c9, rfl, -, -⟩ := own_sl own9
                          have O9 : Hid (X3.ownsRow (p + 3) 40 4 (.slice A9 (out.length + 1) c9) (out ++ [(⟨KY, v5, (m3 : Int), false⟩ : Ent)]).length (env (out ++ [(⟨KY, v5, (m3 : Int), false⟩ : Ent)]))) := Lib.hid (own_eq own9 (by simp) (by rw [env_app]; rfl))
                          clear hK K hbl own9 gr9 nil9 at9 SB2 OX2 DX2 BX2 RN hz2 SB3
                          (try simp only [Act.put, List.setIfInBounds_toArray, List.set_cons_zero, List.set_cons_succ])
                          refine takeL (i := 6) (v := ?_) rfl (by kernel_rfl) (by kernel_rfl) (by kernel_rfl) (fun _ _ _ h => h) ⟨by rfl, ?_⟩ (by first | assumption | trivial) ?_
                          rotate_left
                          · intro W9 hSw
                            (try dsimp only at hSw)
                            go_simp
                            try with_reducible rfl
                          (try simp only [Act.put, List.setIfInBounds_toArray, List.set_cons_zero, List.set_cons_succ])
                          refine takeL (i := 7) (v := ?_) rfl (by kernel_rfl) (by kernel_rfl) (by kernel_rfl) (fun _ _ _ h => h) ⟨by rfl, ?_⟩ (by first | assumption | trivial) ?_
                          rotate_left
                          · intro W9 hSw
                            (try dsimp only at hSw)
                            go_simp
                            try with_reducible rfl
                          (try simp only [Act.put, List.setIfInBounds_toArray, List.set_cons_zero, List.set_cons_succ])
                          refine wpAnyH_done (by kernel_rfl) ?_ _
                          have HK9 : Hid (∀ x ∈ out ++ [(⟨KY, v5, (m3 : Int), false⟩ : Ent)], x.key.size ≤ 40000) := Lib.hid (fun x hx => by
                            rcases List.mem_append.1 hx with h | h
                            · exact HK.out x h
                            · have e := List.mem_singleton.1 h
                              rw [e]
                              show KY.size ≤ 40000
                              omega)
                          have RS9 : Hid (RdS X3 p P (out ++ [(⟨KY, v5, (m3 : Int), false⟩ : Ent)]) KY m) := Lib.hid (.inr ⟨_, _, _, _, DX3.out, HPG.out ⟨KY, v5, (m3 : Int), false⟩ _ (by unfold pE; rw [H1.out, Option.bind_some, H2E.out, Option.bind_some, H3.out, Option.bind_some, H4.out, Option.bind_some, (if_neg HD1.out), H5.out, Option.bind_some]; rw [HKE.out])⟩)
                          have hom9 : (out ++ [(⟨KY, v5, (m3 : Int), false⟩ : Ent)]).length + m ≤ 64 := by rw [List.length_append]; simp only [List.length_cons, List.length_nil]; omega
                          have hls9 : KY.size + m * 512 ≤ 40000 := by omega
                          go_wp2_with fail
                          go_roundw
                          case rel => exact ⟨A9, c9, out ++ [(⟨KY, v5, (m3 : Int), false⟩ : Ent)], KY, m, (show Value.slice A9 (out.length + 1) c9 = .slice A9 (out ++ [(⟨KY, v5, (m3 : Int), false⟩ : Ent)]).length c9 by rw [List.length_append]; rfl), rfl, rfl, hom9, hls9, hz4, HK9, Lib.hid (by have h := O9.out; rw [List.length_append] at h ⊢; exact h), RS9, BX3⟩
                          case measure => simp [intOf]
                        · exact AllReadyH.nil
                      · exact AllReadyH.nil
end Go.Proofs.Ytdmpimgbnhgiaaa
