/- Walks: a block is read: the two closures. -/
import Derived.Test.YtmcpjpkidcbgiaaEo
import Derived.Test.YtmcpjpkidcbgiaaEm
namespace Go.Proofs.Ytmcpjpkidcbgiaa
open Go.RowKit Go.St Go.Maps
set_option linter.unusedVariables false
set_option linter.unusedSimpArgs false
set_option maxRecDepth 100000

/-- All but two blocks stay. -/
structure Two (p : Nat) (w w' : World) : Prop where
  os : w'.os = w.os
  tape : w'.tape = w.tape
  output : w'.output = w.output
  size : w.heap.size ≤ w'.heap.size
  block : ∀ k, k < w.heap.size → k ≠ p → k ≠ p + 1 → w'.heap[k]? = w.heap[k]?
theorem Two.refl (p : Nat) (w : World) : Two p w w := ⟨rfl, rfl, rfl, Nat.le_refl _, fun _ _ _ _ => rfl⟩
theorem Two.of_below {p : Nat} {w w' : World} (h : Below w.heap.size w w') : Two p w w' := ⟨h.os, h.tape, h.output, h.size, fun k hk _ _ => h.block k hk⟩
theorem Two.trans {p : Nat} {x y z : World} (h : Two p x y) (k : Two p y z) : Two p x z :=
  ⟨k.os.trans h.os, k.tape.trans h.tape, k.output.trans h.output, Nat.le_trans h.size k.size, fun i hi h1 h2 => (k.block i (Nat.lt_of_lt_of_le hi h.size) h1 h2).trans (h.block i hi h1 h2)⟩
theorem Two.set {p : Nat} {x w : World} (h : Two p x w) (q : Addr) (hq : q.block = p ∨ q.block = p + 1) (u : Value) : Two p x (w.setCell q u) :=
  h.trans ⟨rfl, rfl, rfl, by simp, fun k hk h1 h2 => Below.heap_setCell _ _ _ _ (by omega)⟩
theorem Two.cell {p : Nat} {w w' : World} (h : Two p w w') {q : Addr} (hq : q.block < w.heap.size) (h1 : q.block ≠ p) (h2 : q.block ≠ p + 1) : w'.cell? q = w.cell? q := World.cell?_of_block (w := w) (h.block q.block hq h1 h2)
theorem Two.frozen {p : Nat} {w w' : World} (h : Two p w w') {q : Addr} (hq : q.block < w.heap.size) (h1 : q.block ≠ p) (h2 : q.block ≠ p + 1) : w'.frozen? q = w.frozen? q := World.frozen?_of_block (w := w) (h.block q.block hq h1 h2)
theorem Two.to_below {p : Nat} {w w' : World} (h : Two p w w') (hp : p ≤ w.heap.size) : Below p w w' := ⟨h.os, h.tape, h.output, h.size, fun k hk => h.block k (by omega) (by omega) (by omega)⟩

def smallF (p : Nat) : Value := .func (.func 45) #[] #[.pointer (some ⟨p, 0, none⟩), .pointer (some ⟨p + 1, 0, none⟩)]
/-- The reader's three variables. -/
structure DS (w : World) (p : Nat) (A : Option Addr) (n c : Nat) (bs : List UInt8) (bad : Bool) : Prop where
  lt : p + 2 < w.heap.size
  c4 : w.cell? ⟨p, 0, none⟩ = some (.slice A n c)
  f4 : w.frozen? ⟨p, 0, none⟩ = false
  c5 : w.cell? ⟨p + 1, 0, none⟩ = some (.bool bad)
  f5 : w.frozen? ⟨p + 1, 0, none⟩ = false
  c6 : w.cell? ⟨p + 2, 0, none⟩ = some (smallF p)
  rd : Rd w p A (bv bs)
  hl : bs.length = n
  nc : n ≤ c
  hn : n ≤ 100000000
  hc : c ≤ 9223372036854775807
theorem DS.next {w w' : World} {p : Nat} {A : Option Addr} {n c : Nat} {bs : List UInt8} {bad : Bool} (h : DS w p A n c bs bad) (hb : Below w.heap.size w w') : DS w' p A n c bs bad := by
  have l := h.lt
  exact ⟨Nat.lt_of_lt_of_le h.lt hb.size, (hb.cell (p := ⟨p, 0, none⟩) (by show p < _; omega)).trans h.c4, (hb.frozen (p := ⟨p, 0, none⟩) (by show p < _; omega)).trans h.f4, (hb.cell (p := ⟨p + 1, 0, none⟩) (by show p + 1 < _; omega)).trans h.c5, (hb.frozen (p := ⟨p + 1, 0, none⟩) (by show p + 1 < _; omega)).trans h.f5, (hb.cell (p := ⟨p + 2, 0, none⟩) (by show p + 2 < _; omega)).trans h.c6, h.rd.below (hb.mono (by omega)), h.hl, h.nc, h.hn, h.hc⟩
theorem DS.bad {w : World} {p : Nat} {A : Option Addr} {n c : Nat} {bs : List UInt8} {bad : Bool} (h : DS w p A n c bs bad) : DS (w.setCell ⟨p + 1, 0, none⟩ (.bool true)) p A n c bs true := by
  have l := h.lt
  refine ⟨by simpa using h.lt, ?_, ?_, ?_, ?_, ?_, ?_, h.hl, h.nc, h.hn, h.hc⟩
  · rw [World.cell?_setCell_far _ _ _ _ (show (⟨p + 1, 0, none⟩ : Addr).block ≠ (⟨p, 0, none⟩ : Addr).block by show p + 1 ≠ p; omega)]; exact h.c4
  · simpa using h.f4
  · exact World.cell?_setCell_same w ⟨p + 1, 0, none⟩ (.bool true) (by rw [h.c5])
  · simpa using h.f5
  · rw [World.cell?_setCell_far _ _ _ _ (show (⟨p + 1, 0, none⟩ : Addr).block ≠ (⟨p + 2, 0, none⟩ : Addr).block by show p + 1 ≠ p + 2; omega)]; exact h.c6
  · exact h.rd.setCell (by show p ≤ p + 1; omega) _
theorem DS.cut {w : World} {p : Nat} {A A' : Option Addr} {n c k : Nat} {bs : List UInt8} {bad : Bool} (h : DS w p A n c bs bad) (hk : k ≤ n) (hA : A' = if c = k then A else A.map (·.add k)) : DS (w.setCell ⟨p, 0, none⟩ (.slice A' (n - k) (c - k))) p A' (n - k) (c - k) (bs.drop k) bad := by
  have l := h.lt
  have n1 := h.nc
  have n2 := h.hn
  have n3 := h.hc
  refine ⟨by simpa using h.lt, ?_, ?_, ?_, ?_, ?_, ?_, by rw [List.length_drop, h.hl], by omega, by omega, by omega⟩
  · exact World.cell?_setCell_same w ⟨p, 0, none⟩ (.slice A' (n - k) (c - k)) (by rw [h.c4])
  · simpa using h.f4
  · rw [World.cell?_setCell_far _ _ _ _ (show (⟨p, 0, none⟩ : Addr).block ≠ (⟨p + 1, 0, none⟩ : Addr).block by show p ≠ p + 1; omega)]; exact h.c5
  · simpa using h.f5
  · rw [World.cell?_setCell_far _ _ _ _ (show (⟨p, 0, none⟩ : Addr).block ≠ (⟨p + 2, 0, none⟩ : Addr).block by show p ≠ p + 2; omega)]; exact h.c6
  · have h1 := h.rd.drop k (cap := c) (by rw [bv_length, h.hl]; exact h.nc)
    rw [← hA] at h1
    have e : (bv bs).drop k = bv (bs.drop k) := by simp [bv]
    rw [e] at h1
    exact h1.setCell (Nat.le_refl _) _

/-- What the first closure answers. -/
def SmO (p : Nat) (bs : List UInt8) (o : Option (Nat × Nat)) (w : World) (e : Ending) (w' : World) : Prop := match o with
  | none => e = .returned (.int .i64 0) ∧ (∃ A n c bs', DS w' p A n c bs' true) ∧ Two p w w'
  | some q => e = .returned (.int .i64 (q.1 : Int)) ∧ (∃ A n c, DS w' p A n c (bs.drop q.2) false) ∧ Two p w w'
def smB (bad : Bool) (bs : List UInt8) (most : Int) : Option (Nat × Nat) := if bad then none else smU bs most

set_option maxHeartbeats 1600000 in
theorem dsmall_any (most : Int) (hm : most ≤ 9223372036854775807) (p : Nat) (A : Option Addr) (n c : Nat) (bs : List UInt8) (bad : Bool) (w : World) (H : DS w p A n c bs bad) :
    Calls Try.prog 45 #[.int .i64 most, .pointer (some ⟨p, 0, none⟩), .pointer (some ⟨p + 1, 0, none⟩)] w (SmO p bs (smB bad bs most) w) := by
  obtain ⟨o, ho⟩ : ∃ o, o = smB bad bs most := ⟨_, rfl⟩
  rw [← ho]
  have HO := Lib.hid ho
  clear ho
  have HS := Lib.hid (small_any A n c p bs H.hl H.hn most hm w H.rd (by have := H.lt; omega))
  have hc4 := H.c4
  have hl := H.lt
  have HH := Lib.hid H
  clear H
  have hp1 : p < w.heap.size := by omega
  have hp2 : p + 1 < w.heap.size := by omega
  go_enter Try.func45, Try.ntmps45
  go_wp2_with fail
  refine HS.out.mono ?_
  rintro e w2 ⟨rfl, hb⟩
  have H2 := Lib.hid (HH.out.next hb)
  have T2 : Hid (Two p w w2) := Lib.hid (Two.of_below hb)
  have hq2 : p < w2.heap.size := by have := hb.size; omega
  have hq3 : p + 1 < w2.heap.size := by have := hb.size; omega
  clear hb hc4 HS HH
  have d4 := H2.out.c4
  have d5 := H2.out.c5
  have g4 := H2.out.f4
  have g5 := H2.out.f5
  cases bad
  · rcases smV_cases bs most with ⟨h1, h2, h3⟩ | ⟨x, k, h1, h2, hx, hk, ⟨h3, h4⟩ | ⟨h3, h4, h5⟩⟩
    · rw [smV_none h3]
      have HN : Hid (o = none) := Lib.hid (by rw [HO.out]; exact h3)
      clear h1 h2 h3
      go_wp2_with fail
      go_ret
      rw [HN.out]
      exact ⟨rfl, ⟨_, _, _, _, H2.out.bad⟩, T2.out.set _ (.inr rfl) _⟩
    · rw [smV_none h4]
      have HN : Hid (o = none) := Lib.hid (by rw [HO.out]; exact h4)
      clear h1 h2 h3 h4
      go_wp2_with fail
      go_ret
      rw [HN.out]
      exact ⟨rfl, ⟨_, _, _, _, H2.out.bad⟩, T2.out.set _ (.inr rfl) _⟩
    · rw [smV_some h5]
      have HN : Hid (o = some (x, k)) := Lib.hid (by rw [HO.out]; exact h5)
      have hkn : k ≤ n := by have h6 := (rdU_sound h1).2.1; have := H2.out.hl; omega
      have hnc := H2.out.nc
      have hcc := H2.out.hc
      have k0 : (0 : Int) ≤ (k : Int) := by omega
      have k1 : (k : Int) ≤ (n : Int) := by omega
      have k2 : (n : Int) ≤ (c : Int) := by omega
      have D := H2.out.cut hkn (A' := if c = k then A else A.map (·.add k)) rfl
      clear h1 h2 h3 h4 h5
      by_cases hck : c = k
      · rw [if_pos hck] at D
        subst hck
        obtain rfl : n = c := by omega
        rw [Nat.sub_self] at D
        have DD := Lib.hid D
        clear D
        go_wp2_with fail
        go_ret
        rw [HN.out]
        exact ⟨rfl, ⟨_, _, _, DD.out⟩, T2.out.set _ (.inl rfl) _⟩
      · rw [if_neg hck] at D
        have DD := Lib.hid D
        clear D
        go_wp2_with fail
        go_ret
        rw [HN.out]
        exact ⟨rfl, ⟨_, _, _, DD.out⟩, T2.out.set _ (.inl rfl) _⟩
  · have HN : Hid (o = none) := Lib.hid (by rw [HO.out]; rfl)
    go_wp2_with fail
    go_ret
    rw [HN.out]
    exact ⟨rfl, ⟨_, _, _, _, H2.out.bad⟩, T2.out.set _ (.inr rfl) _⟩

/-- A text that is read: its length, its bytes; what is left. -/
def pT (most : Int) (r : List UInt8) : Option (ByteArray × List UInt8) := (smU r most).bind (fun q => if (r.drop q.2).length < q.1 then none else some (⟨((r.drop q.2).take q.1).toArray⟩, (r.drop q.2).drop q.1))
def TxO (p : Nat) (o : Option (ByteArray × List UInt8)) (w : World) (e : Ending) (w' : World) : Prop := match o with
  | none => e = .returned (.string zB) ∧ (∃ A n c bs', DS w' p A n c bs' true) ∧ Two p w w'
  | some q => e = .returned (.string q.1) ∧ (∃ A n c, DS w' p A n c q.2 false) ∧ Two p w w'
def txB (bad : Bool) (bs : List UInt8) (most : Int) : Option (ByteArray × List UInt8) := if bad then none else pT most bs
theorem smO_bad {p : Nat} {bs : List UInt8} {w : World} {e : Ending} {w' : World} {o : Option (Nat × Nat)} (h : SmO p bs o w e w') (ho : o = none) : e = .returned (.int .i64 0) ∧ (∃ A n c bs', DS w' p A n c bs' true) ∧ Two p w w' := by
  subst ho
  exact h
theorem smO_ok {p : Nat} {bs : List UInt8} {w : World} {e : Ending} {w' : World} {o : Option (Nat × Nat)} {x k : Nat} (h : SmO p bs o w e w') (ho : o = some (x, k)) : e = .returned (.int .i64 (x : Int)) ∧ (∃ A n c, DS w' p A n c (bs.drop k) false) ∧ Two p w w' := by
  subst ho
  exact h
set_option maxHeartbeats 3200000 in
theorem dtext_any (most : Int) (hm : most ≤ 9223372036854775807) (p : Nat) (A : Option Addr) (n c : Nat) (bs : List UInt8) (bad : Bool) (w : World) (H : DS w p A n c bs bad) :
    Calls Try.prog 47 #[.int .i64 most, .pointer (some ⟨p + 2, 0, none⟩), .pointer (some ⟨p + 1, 0, none⟩), .pointer (some ⟨p, 0, none⟩)] w (TxO p (txB bad bs most) w) := by
  obtain ⟨o, ho⟩ : ∃ o, o = txB bad bs most := ⟨_, rfl⟩
  rw [← ho]
  have HO := Lib.hid ho
  clear ho
  have HD := Lib.hid (dsmall_any most hm p A n c bs bad w H)
  have hc6 := H.c6
  have hl := H.lt
  have HH := Lib.hid H
  clear H
  unfold smallF at hc6
  go_enter Try.func47, Try.ntmps47
  go_wp2_with fail
  cases bad
  case true =>
    have HN : Hid (o = none) := Lib.hid (by rw [HO.out]; rfl)
    refine (Calls.mono (HD.out) (fun e w' h => smO_bad h rfl)).mono ?_
    rintro e w2 ⟨rfl, ⟨A2, n2, c2, bs2, D2⟩, T2⟩
    have H2 := Lib.hid D2
    have TT := Lib.hid T2
    have d5 := D2.c5
    have g5 := D2.f5
    have hq3 : p + 1 < w2.heap.size := by have := D2.lt; omega
    clear D2 T2 HD HH
    go_wp2_with fail
    go_ret
    rw [HN.out]
    exact ⟨rfl, ⟨_, _, _, _, H2.out.bad⟩, TT.out.set _ (.inr rfl) _⟩
  rcases smV_cases bs most with ⟨h1, h2, h3⟩ | ⟨x, k, h1, h2, hx, hk, ⟨h3, h4⟩ | ⟨h3, h4, h5⟩⟩
  · have H3 := Lib.hid h3
    clear h1 h2 h3
    have HN : Hid (o = none) := Lib.hid (by rw [HO.out]; unfold txB pT; rw [H3.out]; rfl)
    refine (Calls.mono (HD.out) (fun e w' h => smO_bad h H3.out)).mono ?_
    rintro e w2 ⟨rfl, ⟨A2, n2, c2, bs2, D2⟩, T2⟩
    have H2 := Lib.hid D2
    have TT := Lib.hid T2
    have d5 := D2.c5
    have g5 := D2.f5
    have hq3 : p + 1 < w2.heap.size := by have := D2.lt; omega
    clear D2 T2 HD HH
    go_wp2_with fail
    go_ret
    rw [HN.out]
    exact ⟨rfl, ⟨_, _, _, _, H2.out.bad⟩, TT.out.set _ (.inr rfl) _⟩
  · have H3 := Lib.hid h4
    clear h1 h2 h3 h4
    have HN : Hid (o = none) := Lib.hid (by rw [HO.out]; unfold txB pT; rw [H3.out]; rfl)
    refine (Calls.mono (HD.out) (fun e w' h => smO_bad h H3.out)).mono ?_
    rintro e w2 ⟨rfl, ⟨A2, n2, c2, bs2, D2⟩, T2⟩
    have H2 := Lib.hid D2
    have TT := Lib.hid T2
    have d5 := D2.c5
    have g5 := D2.f5
    have hq3 : p + 1 < w2.heap.size := by have := D2.lt; omega
    clear D2 T2 HD HH
    go_wp2_with fail
    go_ret
    rw [HN.out]
    exact ⟨rfl, ⟨_, _, _, _, H2.out.bad⟩, TT.out.set _ (.inr rfl) _⟩
  · have H5 := Lib.hid h5
    have hx9 : (x : Int) ≤ 9223372036854775807 := by omega
    clear h1 h2 h5
    refine (Calls.mono (HD.out) (fun e w' h => smO_ok h H5.out)).mono ?_
    rintro e w2 ⟨rfl, ⟨A2, n2, c2, D2⟩, T2⟩
    have H2 := Lib.hid D2
    have TT := Lib.hid T2
    have d4 := D2.c4
    have d5 := D2.c5
    have g4 := D2.f4
    have g5 := D2.f5
    have hq2 : p < w2.heap.size := by have := D2.lt; omega
    have hq3 : p + 1 < w2.heap.size := by have := D2.lt; omega
    have hnc := D2.nc
    have hcc := D2.hc
    have HLN := Lib.hid D2.hl
    clear D2 T2 HD HH hc6
    by_cases hxn : n2 < x
    · have HN : Hid (o = none) := Lib.hid (by
        rw [HO.out]
        unfold txB pT
        rw [if_neg (by decide), H5.out, Option.bind_some, if_pos (by rw [HLN.out]; exact hxn)])
      have i1 : (n2 : Int) < (x : Int) := by omega
      go_wp2_with fail
      go_ret
      rw [HN.out]
      exact ⟨rfl, ⟨_, _, _, _, H2.out.bad⟩, TT.out.set _ (.inr rfl) _⟩
    · have HN : Hid (o = some (⟨((bs.drop k).take x).toArray⟩, (bs.drop k).drop x)) := Lib.hid (by
        rw [HO.out]
        unfold txB pT
        rw [if_neg (by decide), H5.out, Option.bind_some, if_neg (by rw [HLN.out]; exact hxn)])
      have i1 : ¬ (n2 : Int) < (x : Int) := by omega
      have i2 : (0 : Int) ≤ (x : Int) := by omega
      have i3 : (x : Int) ≤ (c2 : Int) := by omega
      have i4 : (x : Int) ≤ (n2 : Int) := by omega
      have i5 : (n2 : Int) ≤ (c2 : Int) := by omega
      have kc : (convert 23 9 (.slice A2 x c2)).run Try.prog w2 = .ok (.string ⟨((bs.drop k).take x).toArray⟩) w2 := conv_str (P := Try.prog) 23 9 5 x c2 Try.underlying23 Try.underlying5 Try.underlying9 (B := p) (by
        have h := H2.out.rd.take x
        have e : (bv (bs.drop k)).take x = bv ((bs.drop k).take x) := by simp [bv, List.map_take]
        rwa [e] at h) (by rw [List.length_take, HLN.out]; omega)
      have D := H2.out.cut (k := x) (by omega) (A' := if c2 = x then A2 else A2.map (·.add x)) rfl
      by_cases hck : c2 = x
      · rw [if_pos hck] at D
        subst hck
        obtain rfl : n2 = c2 := by omega
        rw [Nat.sub_self] at D
        have DD := Lib.hid D
        clear D
        go_wp2_with fail
        go_ret
        rw [HN.out]
        exact ⟨rfl, ⟨_, _, _, DD.out⟩, TT.out.set _ (.inl rfl) _⟩
      · rw [if_neg hck] at D
        have DD := Lib.hid D
        clear D
        go_wp2_with fail
        go_ret
        rw [HN.out]
        exact ⟨rfl, ⟨_, _, _, DD.out⟩, TT.out.set _ (.inl rfl) _⟩
end Go.Proofs.Ytmcpjpkidcbgiaa
