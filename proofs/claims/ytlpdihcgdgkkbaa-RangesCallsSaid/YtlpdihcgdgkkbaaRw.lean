/- The walk: any splits, keys and spans by the program and by the document. -/
import Derived.Test.YtlpdihcgdgkkbaaRv
import Derived.Test.YtlpdihcgdgkkbaaRq
namespace Go.Proofs.Ytlpdihcgdgkkbaa
open Go.RowKit Go.St
set_option linter.unusedVariables false
set_option linter.unusedSimpArgs false
set_option maxRecDepth 100000

/-- Cells of blocks between two marks read as a list. -/
def RdR (w : World) (lo hi : Nat) (A : Option Addr) (xs : List Value) : Prop := xs ≠ [] → ∃ b off, A = some ⟨b, off, none⟩ ∧ lo ≤ b ∧ b < hi ∧ ∀ (i : Nat) (v : Value), xs[i]? = some v → w.cell? ⟨b, off + i, none⟩ = some v
theorem RdR.rd {w : World} {lo hi : Nat} {A : Option Addr} {xs : List Value} (h : RdR w lo hi A xs) : Rd w hi A xs := fun hn => by
  obtain ⟨b, off, e, _, h2, h3⟩ := h hn
  exact ⟨b, off, e, h2, h3⟩
theorem RdR.below {w w' : World} {lo hi B : Nat} {A : Option Addr} {xs : List Value} (h : RdR w lo hi A xs) (hb : Below B w w') (hB : hi ≤ B) : RdR w' lo hi A xs := fun hn => by
  obtain ⟨b, off, e, h1, h2, h3⟩ := h hn
  exact ⟨b, off, e, h1, h2, fun i v hv => (hb.cell (p := ⟨b, off + i, none⟩) (Nat.lt_of_lt_of_le h2 hB)).trans (h3 i v hv)⟩
theorem RdR.setCell {w : World} {lo hi b0 : Nat} {A : Option Addr} {xs : List Value} (h : RdR w lo hi A xs) (hb : b0 < lo) (o : Nat) (u : Value) : RdR (w.setCell ⟨b0, o, none⟩ u) lo hi A xs := fun hn => by
  obtain ⟨b, off, e, h1, h2, h3⟩ := h hn
  exact ⟨b, off, e, h1, h2, fun i v hv => (World.cell?_setCell_far _ _ _ _ (by show b0 ≠ b; omega)).trans (h3 i v hv)⟩
theorem own_rdR {w : World} {base : Nat} {e : TypeId} {v : Value} {n : Nat} {xs : List Value} {s : Nat} (h : w.ownsRow base e s v n xs) (hs : 0 < s) : ∃ A c, v = .slice A n c ∧ RdR w base w.heap.size A xs := by
  rcases h.2 with ⟨rfl, rfl⟩ | ⟨g, cap, cur, rfl, _⟩
  · have : xs = [] := List.eq_nil_of_length_eq_zero (by simpa using h.1)
    subst this
    exact ⟨none, 0, rfl, fun h => absurd rfl h⟩
  · refine ⟨_, cap, rfl, fun hn => ?_⟩
    have hlt := h.lt g rfl
    refine ⟨g, 0, rfl, hlt.1, hlt.2, fun i v hv => ?_⟩
    have := h.cells (g := g) rfl i v hv
    unfold Addr.add at this
    split at this
    · rename_i h0
      subst h0
      exact this
    · simpa using this
/-- A block that may be written. -/
def FzB (W : World) (b : Nat) : Prop := b < W.heap.size ∧ ∀ o, W.frozen? ⟨b, o, none⟩ = false
theorem FzB.next {W W' : World} {b : Nat} (h : FzB W b) (hb : Below W.heap.size W W') : FzB W' b := ⟨Nat.lt_of_lt_of_le h.1 hb.size, fun o => (hb.frozen (p := ⟨b, o, none⟩) h.1).trans (h.2 o)⟩
theorem FzB.new (W : World) (cs : Array Value) (e : TypeId) : FzB (W.alloc (.cells cs e)) W.heap.size := ⟨by simp, fun o => by simp⟩
/-- What is carried through the walk: the two spans, the splits, their copy. -/
structure PkR (w W : World) (s t : ByteArray × ByteArray) (A : Option Addr) (l : List ByteArray) (B2 g : Nat) : Prop where
  bel : Below w.heap.size w W
  b2 : w.heap.size + 1 < B2
  b3 : B2 ≤ W.heap.size
  bs : BxS W w.heap.size s.1 s.2
  bt : BxS W (w.heap.size + 1) t.1 t.2
  rs : Rd W w.heap.size A (sv l)
  ro : Rd W B2 (some ⟨g, 0, none⟩) (sv (l ++ [behind]))
  hg : g < B2
theorem PkR.next {w W W' : World} {s t : ByteArray × ByteArray} {A : Option Addr} {l : List ByteArray} {B2 g : Nat} (h : PkR w W s t A l B2 g) (hb : Below W.heap.size W W') : PkR w W' s t A l B2 g :=
  ⟨h.bel.trans (hb.mono h.bel.size), h.b2, Nat.le_trans h.b3 hb.size, h.bs.next hb, h.bt.next hb, h.rs.below (hb.mono h.bel.size), h.ro.below (hb.mono h.b3), h.hg⟩
theorem PkR.alloc {w W : World} {s t : ByteArray × ByteArray} {A : Option Addr} {l : List ByteArray} {B2 g : Nat} (h : PkR w W s t A l B2 g) (o : Obj) : PkR w (W.alloc o) s t A l B2 g := h.next ((Below.refl _ _).alloc (Nat.le_refl _) o)
theorem PkR.setCell {w W : World} {s t : ByteArray × ByteArray} {A : Option Addr} {l : List ByteArray} {B2 g : Nat} (h : PkR w W s t A l B2 g) {b : Nat} (hb : B2 ≤ b) (o : Nat) (u : Value) : PkR w (W.setCell ⟨b, o, none⟩ u) s t A l B2 g :=
  have h2 := h.b2
  ⟨h.bel.setCell (p := ⟨b, o, none⟩) (by show w.heap.size ≤ b; omega) u, h.b2, by simpa using h.b3,
   ⟨by simpa using h.bs.1, (World.cell?_setCell_far _ _ _ _ (by show b ≠ w.heap.size; omega)).trans h.bs.2.1, (World.cell?_setCell_far _ _ _ _ (by show b ≠ w.heap.size; omega)).trans h.bs.2.2⟩,
   ⟨by simpa using h.bt.1, (World.cell?_setCell_far _ _ _ _ (by show b ≠ w.heap.size + 1; omega)).trans h.bt.2.1, (World.cell?_setCell_far _ _ _ _ (by show b ≠ w.heap.size + 1; omega)).trans h.bt.2.2⟩,
   h.rs.setCell (p := ⟨b, o, none⟩) (by show w.heap.size ≤ b; omega) u, h.ro.setCell (p := ⟨b, o, none⟩) hb u, h.hg⟩
theorem PkR.rl {w W : World} {s t : ByteArray × ByteArray} {A : Option Addr} {l : List ByteArray} {B2 g : Nat} (h : PkR w W s t A l B2 g) : Rd W B2 (some ⟨g, 0, none⟩) (sv l) := by
  have := h.ro.take l.length
  rwa [show (sv (l ++ [behind])).take l.length = sv l by simp [sv]] at this
theorem BxS.setOther {W : World} {b : Nat} {f t : ByteArray} (h : BxS W b f t) {b0 : Nat} (hb : b0 ≠ b) (o : Nat) (u : Value) : BxS (W.setCell ⟨b0, o, none⟩ u) b f t :=
  ⟨by simpa using h.1, (World.cell?_setCell_far _ _ _ _ hb).trans h.2.1, (World.cell?_setCell_far _ _ _ _ hb).trans h.2.2⟩
theorem BxS.set2 {W : World} {b : Nat} {f t : ByteArray} (h : BxS W b f t) (f' t' : ByteArray) : BxS ((W.setCell ⟨b, 0, none⟩ (.string f')).setCell ⟨b, 1, none⟩ (.string t')) b f' t' := by
  refine ⟨by simpa using h.1, ?_, ?_⟩
  · rw [World.cell?_setCell_other _ _ _ _ (by intro e; injection e with _ e; cases e)]
    exact World.cell?_setCell_same _ _ _ h.2.1
  · exact World.cell?_setCell_same _ _ _ (by rw [World.cell?_setCell_other _ _ _ _ (by intro e; injection e with _ e; cases e)]; exact h.2.2)

theorem kept2 {W0 w1 w2 : World} {v1 : Value} {m n0 : Nat} {xs : List Value} {e e' : TypeId} {x : Array Value} (h0 : W0.heap.size = n0) (g1 : (W0.alloc (.cells #[] e)).grownBy w1 (some n0)) (own1 : w1.ownsRow n0 e 1 v1 m xs) (g2 : (w1.alloc (.cells x e')).grownBy w2 v1.ownBlock) : Below W0.heap.size W0 w2 := by
  subst h0
  have h1 : Below W0.heap.size W0 w1 := ((Below.refl _ _).alloc (Nat.le_refl _) _).grown g1 (by simp) (fun g hg => by cases hg; exact Nat.le_refl _)
  exact (h1.alloc h1.size _).grown g2 (by have := h1.size; simp; omega) (fun g hg => (own1.lt g hg).1)

set_option maxHeartbeats 12800000 in
theorem rangesCalls_walk (w : World) (A : Option Addr) (n c : Nat) (l : List ByteArray) (hl : l.length = n) (hnc : n ≤ c) (hn : c * 16 ≤ 140737488351232) (hr : Rd w w.heap.size A (sv l)) (s t : ByteArray × ByteArray) (k : ByteArray) (hk : k.size ≤ 140737488351232) (z : Int) (hz : -9223372036854775808 ≤ z ∧ z ≤ 9223372036854775807) :
    Calls Try.prog 14 #[.slice A n c, .agg #[.string s.1, .string s.2], .agg #[.string t.1, .string t.2], .string k, .int .i64 z] w fun e w' => e = .returned (.bool true) ∧ Below w.heap.size w w' := by
  obtain ⟨s1, s2⟩ := s
  obtain ⟨t1, t2⟩ := t
  have H1 := Lib.hid (fun A c B W (h : Rd W B A (sv l)) => of21_any A n c B l hl (by omega) k W h)
  have H2 := Lib.hid (fun A c B W (h : Rd W B A (sv l)) hB => rof21_any A n c B l hl (by omega) k W h hB)
  have H3 := Lib.hid (fun A c B W (h : Rd W B A (sv l)) hB => span21_any A n c B l hl (by omega) z hz.1 hz.2 W h hB)
  have H4 := Lib.hid (fun A c B W (h : Rd W B A (sv l)) hB => rspan21_any A n c B l hl (by omega) z hz.1 hz.2 W h hB)
  have H5 := Lib.hid (fun A c B W (h : Rd W B A (sv l)) => check21_any A n c B l hl (by omega) W h)
  have H6 := Lib.hid (fun A c B W (h : Rd W B A (sv l)) => rcheck21_any A n c B l hl (by omega) W h)
  have H7 := Lib.hid (fun A c B W (h : Rd W B A (sv l)) => node21_any A n c B l hl (by omega) k z hz.1 hz.2 W h)
  have H8 := Lib.hid (fun A c B W (h : Rd W B A (sv l)) hB => rnode21_any A n c B l hl (by omega) k z hz.1 hz.2 W h hB)
  have H9 := Lib.hid (fun A c B W (h : Rd W B A (sv l)) hB => parts21_any A n c B l hl (by omega) s1 s2 W h hB)
  have H10 := Lib.hid (fun A c B W (h : Rd W B A (sv l)) hB => rparts21_any A n c B l hl (by omega) s1 s2 W h hB)
  obtain ⟨f2, u2, fl, hme, hme2⟩ : ∃ f2 u2 fl, (∀ W, Calls Try.prog 44 #[.agg #[.string s1, .string s2], .agg #[.string t1, .string t2]] W fun e w' => e = .returned (.tuple #[.agg #[.string f2, .string u2], .bool fl]) ∧ Below W.heap.size W w') ∧ (∀ W, Calls Try.prog 64 #[.agg #[.string s1, .string s2], .agg #[.string t1, .string t2]] W fun e w' => e = .returned (.tuple #[.agg #[.string f2, .string u2], .bool fl]) ∧ Below W.heap.size W w') := by
    have hme := fun W => meet_any s1 s2 t1 t2 W
    have hme2 := fun W => rmeet_any s1 s2 t1 t2 W
    unfold meetV at hme hme2
    cases hq : meetE s1 s2 t1 t2
    · rw [hq] at hme hme2
      exact ⟨_, _, _, hme, hme2⟩
    · rw [hq] at hme hme2
      exact ⟨_, _, _, hme, hme2⟩
  have H11 := Lib.hid hme; have H12 := Lib.hid hme2
  have H13 := Lib.hid (fun W => has21_any s1 s2 k W)
  have H14 := Lib.hid (fun W => rhas21_any s1 s2 k W)
  have H15 := Lib.hid (fun W => empty_any s1 s2 W)
  have H16 := Lib.hid (fun W => rempty_any s1 s2 W)
  have H17 := Lib.hid (fun W => one21_any k hk W)
  have H18 := Lib.hid (fun W => rone21_any k hk W)
  have hpl : chk21 l = 0 → (partsN l s1 s2).length ≤ 16 := fun h => by
    have := partsUp_len l s1 s2 (l.length + 1)
    have := chk_len h
    rw [partsN_up h]; omega
  have hpl2 : (partsN l s1 s2).length ≤ 1000000 := by
    by_cases h : chk21 l = 0
    · have := hpl h; omega
    · unfold partsN; rw [if_neg (fun h2 => h h2.1)]; simp
  clear hpl hme hme2
  have HGE := Lib.hid (fun (i : Nat) (hi : i < l.length) => sv_get l i hi)
  unfold spV at H3 H4
  generalize ofR l k = r at *
  generalize spE l z = se at *
  generalize spF l z = sf at *
  generalize spT l z = sT at *
  generalize chk21 l = ce at *
  generalize ndR l k z = nr at *
  generalize ndE l z = ne at *
  generalize hPL : partsN l s1 s2 = PL at *
  generalize sHas s1 s2 k = hs at *
  generalize sEmp s1 s2 = em at *
  have HL := Lib.hid hl
  have hlen : (sv l).length = n := by rw [sv_length]; exact hl
  have HR0 : Hid (Rd ((w.alloc (.cells #[.string s1, .string s2] 67)).alloc (.cells #[.string t1, .string t2] 67)) w.heap.size A (sv l)) := (hr.alloc (Nat.le_refl _) _).alloc (by simp) _
  have BS0 : Hid (BxS ((w.alloc (.cells #[.string s1, .string s2] 67)).alloc (.cells #[.string t1, .string t2] 67)) w.heap.size s1 s2) := ⟨by simp; omega, by simp [go_sem], by simp [go_sem]⟩
  have BT0 : Hid (BxS ((w.alloc (.cells #[.string s1, .string s2] 67)).alloc (.cells #[.string t1, .string t2] 67)) (w.heap.size + 1) t1 t2) := ⟨by simp, by simp [go_sem], by simp [go_sem]⟩
  have HB0 : Hid (Below w.heap.size w ((w.alloc (.cells #[.string s1, .string s2] 67)).alloc (.cells #[.string t1, .string t2] 67))) := ((Below.refl _ _).alloc (Nat.le_refl _) _).alloc (by simp) _
  have hlit := World.ownsRow_lit (base := ((w.alloc (.cells #[.string s1, .string s2] 67)).alloc (.cells #[.string t1, .string t2] 67)).heap.size) (size := 1) (e := 9) ((w.alloc (.cells #[.string s1, .string s2] 67)).alloc (.cells #[.string t1, .string t2] 67)) #[] 0 (Nat.le_refl _) (by decide) rfl
  have e0 : ((w.alloc (.cells #[.string s1, .string s2] 67)).alloc (.cells #[.string t1, .string t2] 67)).heap.size = w.heap.size + 1 + 1 := by simp
  rw [e0] at hlit
  have HLIT := Lib.hid hlit
  have HE0 := Lib.hid e0
  clear hr hl hPL hlit e0
  go_enter Try.func14, Try.ntmps14
  go_wp2_with (first | (at_builtin; refine wpList_app sty26 (.tmp 26) (.tmp 27) rfl rfl (w.heap.size + 1 + 1) HLIT.out rfl n c (HR0.out.alloc (by simp only [World.size_alloc]; omega) (.cells #[] 9)) rfl (by omega) (sv_one _) (by unfold maxLen; omega) (by omega) (by simp) ?_; intro v1 w1 own1 gr1 nil1 at1) | (at_builtin; refine wpList_app sty26 (.tmp 28) (.tmp 29) rfl rfl (w.heap.size + 1 + 1) (own1.alloc _) rfl 1 1 (rd_one _ _ _) rfl rfl (by simp [Value.oneCell']) (by unfold maxLen; omega) (by omega) (by have hgs := gr1.size; simp only [World.size_alloc] at hgs ⊢; omega) ?_; intro v2 w2 own2 gr2 nil2 at2; have hb2 := kept2 HE0.out gr1 own1 gr2; have own2 := own_eq (m := n + 1) (ys := sv (l ++ [behind])) own2 (by omega) (by simp [sv, behind]); obtain ⟨g, c2, ev2, hnc2, hcm2, hg1, hg2⟩ := own_blk own2 (by omega); subst ev2))
  have P2 : Hid (PkR w w2 (s1, s2) (t1, t2) A l w2.heap.size g) := by
    have hbb := HB0.out.trans (hb2.mono (by rw [HE0.out]; omega))
    have hs2 : w.heap.size + 1 + 1 ≤ w2.heap.size := by have := hb2.size; rw [HE0.out] at this; exact this
    exact ⟨hbb, by omega, Nat.le_refl _, BS0.out.below hb2 (by rw [HE0.out]; omega), BT0.out.below hb2 (by rw [HE0.out]; omega), HR0.out.below (hb2.mono (by rw [HE0.out]; omega)), Rd.own own2, hg2⟩
  clear hb2 own2 own1 gr1 gr2 nil1 nil2 at1 at2 HLIT HE0 HB0 BS0 BT0 HR0 hg1 hnc2 hcm2
  go_wp2_with fail
  refine (H1.out (some ⟨g, 0, none⟩) c2 w2.heap.size _ P2.out.rl).mono ?_
  rintro e w' ⟨rfl, q1, rfl⟩
  have P3 : Hid (PkR w (w2.drewN q1) (s1, s2) (t1, t2) A l w2.heap.size g) := P2.out.next (bel_dn (Below.refl _ _) q1)
  go_wp2_with fail
  refine (H2.out A c w.heap.size _ P3.out.rs P3.out.bel.size).mono ?_
  rintro e w4 ⟨rfl, hb⟩
  have P4 : Hid (PkR w w4 (s1, s2) (t1, t2) A l w2.heap.size g) := P3.out.next hb
  clear hb P2 P3 H1 H2
  go_wp2_with fail
  refine (H3.out (some ⟨g, 0, none⟩) c2 w2.heap.size _ P4.out.rl P4.out.b3).mono ?_
  rintro e w5 ⟨rfl, hb⟩
  have P5 : Hid (PkR w w5 (s1, s2) (t1, t2) A l w2.heap.size g) := P4.out.next hb
  clear hb P4 H3
  have hl5 := P5.out.b3
  go_wp2_with fail
  refine (H4.out A c w.heap.size _ (P5.out.alloc _).rs (P5.out.alloc _).bel.size).mono ?_
  rintro e w6 ⟨rfl, hb⟩
  have P6 : Hid (PkR w w6 (s1, s2) (t1, t2) A l w2.heap.size g) := (P5.out.alloc _).next hb
  have F6 : Hid (FzB w6 w5.heap.size) := (FzB.new _ _ _).next hb
  have X6 : Hid (BxS w6 w5.heap.size sf sT) := BxS.next ⟨by simp, by simp [go_sem], by simp [go_sem]⟩ hb
  obtain ⟨b17, hb17⟩ : ∃ b, b = w5.heap.size := ⟨_, rfl⟩
  rw [← hb17] at X6 F6 ⊢
  have hl17 : w2.heap.size ≤ b17 := by omega
  clear hb P5 H4 hb17 hl5
  have hlt6 := X6.out.1
  go_wp2_with fail
  refine (lives21_any _).mono ?_
  rintro e w7 ⟨rfl, hb⟩
  have P7 : Hid (PkR w w7 (s1, s2) (t1, t2) A l w2.heap.size g) := (P6.out.alloc _).next hb
  have F7 : Hid (FzB w7 b17) := (F6.out.next ((Below.refl _ _).alloc (Nat.le_refl _) _)).next hb
  have G7 : Hid (FzB w7 w6.heap.size) := (FzB.new _ _ _).next hb
  have X7 : Hid (BxS w7 b17 sf sT) := (X6.out.alloc _).next hb
  have Y7 : Hid (BxS w7 w6.heap.size sf sT) := BxS.next ⟨by simp, by simp [go_sem], by simp [go_sem]⟩ hb
  obtain ⟨b19, hb19⟩ : ∃ b, b = w6.heap.size := ⟨_, rfl⟩
  rw [← hb19] at Y7 G7 ⊢
  have hl19 : b17 < b19 := by omega
  clear hb P6 X6 hb19 hlt6
  go_wp2_with fail
  refine (H5.out (some ⟨g, 0, none⟩) c2 w2.heap.size _ P7.out.rl).mono ?_
  rintro e w' ⟨rfl, q7, rfl⟩
  have P8 : Hid (PkR w (w7.drewN q7) (s1, s2) (t1, t2) A l w2.heap.size g) := P7.out.next (bel_dn (Below.refl _ _) q7)
  go_wp2_with fail
  refine (H6.out A c w.heap.size _ P8.out.rs).mono ?_
  rintro e w' ⟨rfl, q8, rfl⟩
  have P9 : Hid (PkR w ((w7.drewN q7).drewN q8) (s1, s2) (t1, t2) A l w2.heap.size g) := P8.out.next (bel_dn (Below.refl _ _) q8)
  have F9 : Hid (FzB ((w7.drewN q7).drewN q8) b17) := (F7.out.next (bel_dn (Below.refl _ _) q7)).next (bel_dn (Below.refl _ _) q8)
  have G9 : Hid (FzB ((w7.drewN q7).drewN q8) b19) := (G7.out.next (bel_dn (Below.refl _ _) q7)).next (bel_dn (Below.refl _ _) q8)
  have X9 : Hid (BxS ((w7.drewN q7).drewN q8) b17 sf sT) := (X7.out.next (bel_dn (Below.refl _ _) q7)).next (bel_dn (Below.refl _ _) q8)
  have Y9 : Hid (BxS ((w7.drewN q7).drewN q8) b19 sf sT) := (Y7.out.next (bel_dn (Below.refl _ _) q7)).next (bel_dn (Below.refl _ _) q8)
  generalize (w7.drewN q7).drewN q8 = w9 at *
  clear P7 P8 X7 Y7 F7 G7 H5 H6
  obtain ⟨x0, x1, x2⟩ := X9.out
  obtain ⟨y0, y1, y2⟩ := Y9.out
  go_wp2_with fail
  refine (H7.out (some ⟨g, 0, none⟩) c2 w2.heap.size _ P9.out.rl).mono ?_
  rintro e w' ⟨rfl, q9, rfl⟩
  have P10 : Hid (PkR w (w9.drewN q9) (s1, s2) (t1, t2) A l w2.heap.size g) := P9.out.next (bel_dn (Below.refl _ _) q9)
  clear x0 x1 x2 y0 y1 y2
  go_wp2_with fail
  refine (H8.out A c w.heap.size _ P10.out.rs P10.out.bel.size).mono ?_
  rintro e w11 ⟨rfl, hb⟩
  have hbx := (bel_dn (Below.refl w9.heap.size w9) q9).trans hb
  have P11 : Hid (PkR w w11 (s1, s2) (t1, t2) A l w2.heap.size g) := P9.out.next hbx
  have F11 : Hid (FzB w11 b17) := F9.out.next hbx
  have G11 : Hid (FzB w11 b19) := G9.out.next hbx
  have X11 : Hid (BxS w11 b17 sf sT) := X9.out.next hbx
  have Y11 : Hid (BxS w11 b19 sf sT) := Y9.out.next hbx
  clear hb hbx P9 P10 X9 Y9 F9 G9 H7 H8
  obtain ⟨x0, x1, x2⟩ := P11.out.bs
  simp only at x1 x2
  go_wp2_with fail
  refine (H9.out (some ⟨g, 0, none⟩) c2 w2.heap.size _ P11.out.rl P11.out.b3).mono ?_
  rintro e w12 ⟨v12, rfl, own, hb⟩
  have P12 : Hid (PkR w w12 (s1, s2) (t1, t2) A l w2.heap.size g) := P11.out.next hb
  have F12 : Hid (FzB w12 b17) := F11.out.next hb
  have G12 : Hid (FzB w12 b19) := G11.out.next hb
  have X12 : Hid (BxS w12 b17 sf sT) := X11.out.next hb
  have Y12 : Hid (BxS w12 b19 sf sT) := Y11.out.next hb
  obtain ⟨A3, c3, rfl, rp⟩ := own_rdR own (by decide)
  have RP12 := Lib.hid rp
  have hlp : b19 < w11.heap.size := Y11.out.1
  clear hb own rp P11 X11 Y11 F11 G11 H9 x0 x1 x2
  obtain ⟨x0, x1, x2⟩ := P12.out.bs
  simp only at x1 x2
  go_wp2_with fail
  refine (H10.out A c w.heap.size _ P12.out.rs P12.out.bel.size).mono ?_
  rintro e w13 ⟨v13, rfl, own, hb⟩
  have P13 : Hid (PkR w w13 (s1, s2) (t1, t2) A l w2.heap.size g) := P12.out.next hb
  have F13 : Hid (FzB w13 b17) := F12.out.next hb
  have G13 : Hid (FzB w13 b19) := G12.out.next hb
  have X13 : Hid (BxS w13 b17 sf sT) := X12.out.next hb
  have Y13 : Hid (BxS w13 b19 sf sT) := Y12.out.next hb
  have RP13 := Lib.hid (RP12.out.below hb (Nat.le_refl _))
  obtain ⟨A4, c4, rfl, rq⟩ := own_rdR own (by decide)
  have RQ13 := Lib.hid rq
  have hlq : b19 < w12.heap.size := Y12.out.1
  have hpq := hb.size
  clear hb own rq P12 X12 Y12 F12 G12 H10 x0 x1 x2 RP12
  obtain ⟨x0, x1, x2⟩ := P13.out.bs
  obtain ⟨y0, y1, y2⟩ := P13.out.bt
  simp only at x1 x2 y1 y2
  go_wp2_with fail
  refine (H11.out _).mono ?_
  rintro e w14 ⟨rfl, hb⟩
  have P14 : Hid (PkR w w14 (s1, s2) (t1, t2) A l w2.heap.size g) := P13.out.next hb
  have F14 : Hid (FzB w14 b17) := F13.out.next hb
  have G14 : Hid (FzB w14 b19) := G13.out.next hb
  have X14 : Hid (BxS w14 b17 sf sT) := X13.out.next hb
  have Y14 : Hid (BxS w14 b19 sf sT) := Y13.out.next hb
  have RP14 := Lib.hid (RP13.out.below hb (by have := hpq; omega))
  have RQ14 := Lib.hid (RQ13.out.below hb (Nat.le_refl _))
  have HSZ : Hid (w12.heap.size ≤ w14.heap.size ∧ w13.heap.size ≤ w14.heap.size) := ⟨Nat.le_trans hpq hb.size, hb.size⟩
  clear hb P13 X13 Y13 F13 G13 RP13 RQ13 x0 x1 x2 y0 y1 y2 H11
  have P15 : Hid (PkR w ((w14.setCell ⟨b17, 0, none⟩ (.string f2)).setCell ⟨b17, 1, none⟩ (.string u2)) (s1, s2) (t1, t2) A l w2.heap.size g) := (P14.out.setCell hl17 _ _).setCell hl17 _ _
  have X15 : Hid (BxS ((w14.setCell ⟨b17, 0, none⟩ (.string f2)).setCell ⟨b17, 1, none⟩ (.string u2)) b17 f2 u2) := X14.out.set2 _ _
  have Y15 : Hid (BxS ((w14.setCell ⟨b17, 0, none⟩ (.string f2)).setCell ⟨b17, 1, none⟩ (.string u2)) b19 sf sT) := (Y14.out.setOther (by omega) _ _).setOther (by omega) _ _
  have RP15 := Lib.hid ((RP14.out.setCell (b0 := b17) (by omega) 0 (.string f2)).setCell (b0 := b17) (by omega) 1 (.string u2))
  have RQ15 := Lib.hid ((RQ14.out.setCell (b0 := b17) (by omega) 0 (.string f2)).setCell (b0 := b17) (by omega) 1 (.string u2))
  obtain ⟨x0, x1, x2⟩ := P14.out.bs
  obtain ⟨y0, y1, y2⟩ := P14.out.bt
  obtain ⟨z0, z1, z2⟩ := X14.out
  have z3 := F14.out.2 0
  have z4 := F14.out.2 1
  simp only at x1 x2 y1 y2
  have hn1 : w.heap.size ≠ b17 := by have := P14.out.b2; omega
  have hn2 : w.heap.size + 1 ≠ b17 := by have := P14.out.b2; omega
  have hn3 : b17 ≠ w.heap.size := hn1.symm
  have hn4 : b17 ≠ w.heap.size + 1 := hn2.symm
  go_wp2_with fail
  refine (H12.out _).mono ?_
  rintro e w16 ⟨rfl, hb⟩
  have P16 : Hid (PkR w w16 (s1, s2) (t1, t2) A l w2.heap.size g) := P15.out.next hb
  have G16 : Hid (FzB w16 b19) := FzB.next ⟨by simpa using G14.out.1, fun o => by simpa using G14.out.2 o⟩ hb
  have X16 : Hid (BxS w16 b17 f2 u2) := X15.out.next hb
  have Y16 : Hid (BxS w16 b19 sf sT) := Y15.out.next hb
  have hs14 : ((w14.setCell ⟨b17, 0, none⟩ (.string f2)).setCell ⟨b17, 1, none⟩ (.string u2)).heap.size = w14.heap.size := by simp
  have hl13 := P14.out.b3
  have hp14 : w12.heap.size ≤ w14.heap.size ∧ w13.heap.size ≤ w14.heap.size := HSZ.out
  have RP16 := Lib.hid (RP15.out.below hb (by rw [hs14]; exact hp14.1))
  have RQ16 := Lib.hid (RQ15.out.below hb (by rw [hs14]; exact hp14.2))
  clear hb P14 P15 X14 X15 Y14 Y15 F14 G14 RP14 RQ14 RP15 RQ15 x0 x1 x2 y0 y1 y2 z0 z1 z2 z3 z4 hn1 hn2 hn3 hn4 H12 hs14 hl13
  have P17 : Hid (PkR w ((w16.setCell ⟨b19, 0, none⟩ (.string f2)).setCell ⟨b19, 1, none⟩ (.string u2)) (s1, s2) (t1, t2) A l w2.heap.size g) := (P16.out.setCell (by omega) _ _).setCell (by omega) _ _
  have X17 : Hid (BxS ((w16.setCell ⟨b19, 0, none⟩ (.string f2)).setCell ⟨b19, 1, none⟩ (.string u2)) b17 f2 u2) := (X16.out.setOther (by omega) _ _).setOther (by omega) _ _
  have Y17 : Hid (BxS ((w16.setCell ⟨b19, 0, none⟩ (.string f2)).setCell ⟨b19, 1, none⟩ (.string u2)) b19 f2 u2) := Y16.out.set2 _ _
  have RP17 := Lib.hid ((RP16.out.setCell (b0 := b19) (by omega) 0 (.string f2)).setCell (b0 := b19) (by omega) 1 (.string u2))
  have RQ17 := Lib.hid ((RQ16.out.setCell (b0 := b19) (by omega) 0 (.string f2)).setCell (b0 := b19) (by omega) 1 (.string u2))
  obtain ⟨z0, z1, z2⟩ := Y16.out
  have z3 := G16.out.2 0
  have z4 := G16.out.2 1
  go_wp2_with fail
  clear z0 z1 z2 z3 z4 P16 X16 Y16 G16 RP16 RQ16
  generalize (w16.setCell ⟨b19, 0, none⟩ (.string f2)).setCell ⟨b19, 1, none⟩ (.string u2) = w17 at *
  refine (spans21_any A3 A4 PL.length PL.length c3 c4 _ _ PL PL rfl rfl (by omega) (by omega) _ RP17.out.rd RQ17.out.rd).mono ?_
  rintro e w' ⟨rfl, q18, rfl⟩
  rw [decide_eq_true rfl]
  obtain ⟨x0, x1, x2⟩ := X17.out
  obtain ⟨y0, y1, y2⟩ := Y17.out
  go_wp2_with fail
  clear x0 x1 x2 y0 y1 y2 X17 Y17 RP17 RQ17
  go_loopw [25] (fun i wr => ∃ j m : Nat, j ≤ n ∧ i = .int .i64 j ∧ wr = w17.drewN m) (fun i _ => n - (intOf i).toNat)
  case atStart => exact ⟨0, q18, Nat.zero_le _, rfl, rfl⟩
  case round =>
    obtain ⟨j, m, hj, rfl, rfl⟩ := hrel
    by_cases hlt : j < n
    · have hjl : j < l.length := by rw [HL.out]; exact hlt
      obtain ⟨_, _, e, _, ca⟩ := P17.out.rl.at_ (HGE.out j hjl)
      injection e with e; injection e with e1 e2; subst e1 e2
      obtain ⟨b, off, rfl, hb, cb⟩ := P17.out.rs.at_ (HGE.out j hjl)
      rw [Nat.zero_add] at ca
      generalize l[j] = x at *
      go_wp2
      go_quiet (fail)
      go_wp2
      go_roundw
      case rel => exact ⟨j + 1, m + nq, by omega, by go_num, by simp⟩
      case measure => simp [intOf]; omega
    · obtain rfl : n = j := by omega
      have P18 : Hid (PkR w (w17.drewN m) (s1, s2) (t1, t2) A l w2.heap.size g) := P17.out.next (bel_dn (Below.refl _ _) m)
      clear P17
      generalize w17.drewN m = w18 at *
      obtain ⟨_, _, e, _, ca⟩ := P18.out.ro.at_ (i := n) (v := .string behind) (by rw [sv_get _ n (by simp [HL.out])]; congr 1; simp [← HL.out])
      injection e with e; injection e with e1 e2; subst e1 e2
      rw [Nat.zero_add] at ca
      unfold behind at ca
      obtain ⟨x0, x1, x2⟩ := P18.out.bs
      simp only at x1 x2
      have hgb : g < w18.heap.size := World.block_lt_of_cell? _ _ ca
      go_wp2_with fail
      refine wp_qall (by kernel_rfl) (by kernel_rfl) ?_
      intro hcg
      repeat (first | go_big_quiet_step (first | with_reducible exact Calls.reg (H13.out _) | with_reducible exact Calls.reg (H14.out _) | with_reducible exact Calls.reg (H15.out _) | with_reducible exact Calls.reg (H16.out _) | with_reducible exact Calls.reg (H17.out _) | with_reducible exact Calls.reg (H18.out _)) | quiet_step (first | with_reducible exact Calls.reg (H13.out _) | with_reducible exact Calls.reg (H14.out _) | with_reducible exact Calls.reg (H15.out _) | with_reducible exact Calls.reg (H16.out _) | with_reducible exact Calls.reg (H17.out _) | with_reducible exact Calls.reg (H18.out _)))
      refine wpQuiet_nil ?_
      intro wq hbwq hcwq hfwq
      clear hcg
      have HBq : Hid (Below w.heap.size w wq) := Below.go P18.out.bel hbwq P18.out.bel.size
      clear hbwq hcwq hfwq
      go_wp2
      go_ret
      exact ⟨rfl, HBq.out⟩
end Go.Proofs.Ytlpdihcgdgkkbaa

