/- The walk: a record that is told shares no memory with what was handed in. -/
import Derived.Test.YthigmjcepbgljaaVs
namespace Go.Proofs.Ythigmjcepbgljaa
open Go.RowKit Go.St
set_option linter.unusedVariables false
set_option linter.unusedSimpArgs false
set_option maxRecDepth 100000

theorem BxQ.grown {W W' : World} {b : Nat} {r : Rec} {row : Option Nat} (h : BxQ W b r) (hg : W.grownBy W' row) (hne : row ≠ some b) : BxQ W' b r := by
  have hc := fun o => World.grownBy.cell_far hg ⟨b, o, none⟩ h.lt (fun e => hne e.symm)
  have hf := fun o => World.grownBy.frozen_far hg ⟨b, o, none⟩ h.lt (fun e => hne e.symm)
  exact ⟨Nat.lt_of_lt_of_le h.lt hg.size, fun o => (hf o).trans (h.fz o), (hc 0).trans h.c0, (hc 1).trans h.c1, (hc 2).trans h.c2, (hc 3).trans h.c3, (hc 4).trans h.c4, (hc 5).trans h.c5, (hc 6).trans h.c6, (hc 7).trans h.c7, (hc 8).trans h.c8, (hc 9).trans h.c9, (hc 10).trans h.c10⟩
theorem BxS.grown {W W' : World} {b : Nat} {s : Stp} {row : Option Nat} (h : BxS W b s) (hg : W.grownBy W' row) (hne : row ≠ some b) : BxS W' b s := by
  have hc := fun o => World.grownBy.cell_far hg ⟨b, o, none⟩ h.lt (fun e => hne e.symm)
  have hf := fun o => World.grownBy.frozen_far hg ⟨b, o, none⟩ h.lt (fun e => hne e.symm)
  exact ⟨Nat.lt_of_lt_of_le h.lt hg.size, fun o => (hf o).trans (h.fz o), (hc 0).trans h.c0, (hc 1).trans h.c1, (hc 2).trans h.c2⟩
/-- Reads as cells that lie between two marks. -/
def RdB (w : World) (lo hi : Nat) (A : Option Addr) (xs : List Value) : Prop :=
  hi ≤ w.heap.size ∧ (xs ≠ [] → ∃ b off, A = some ⟨b, off, none⟩ ∧ lo ≤ b ∧ b < hi ∧ ∀ i v, xs[i]? = some v → w.cell? ⟨b, off + i, none⟩ = some v)
theorem RdB.rd {w : World} {lo hi : Nat} {A : Option Addr} {xs : List Value} (h : RdB w lo hi A xs) : Rd w hi A xs := fun hn => by
  obtain ⟨b, off, e, _, h2, h3⟩ := h.2 hn
  exact ⟨b, off, e, h2, h3⟩
theorem RdB.next {w w' : World} {lo hi : Nat} {A : Option Addr} {xs : List Value} (h : RdB w lo hi A xs) (hb : Below w.heap.size w w') : RdB w' lo hi A xs :=
  ⟨Nat.le_trans h.1 hb.size, fun hn => by
    obtain ⟨b, off, e, h1, h2, h3⟩ := h.2 hn
    exact ⟨b, off, e, h1, h2, fun i v hv => (hb.cell (p := ⟨b, off + i, none⟩) (Nat.lt_of_lt_of_le h2 h.1)).trans (h3 i v hv)⟩⟩
theorem RdB.grown {w w' : World} {lo hi : Nat} {A : Option Addr} {xs : List Value} {row : Option Nat} (h : RdB w lo hi A xs) (hg : w.grownBy w' row) (hne : ∀ g, row = some g → g < lo ∨ hi ≤ g) : RdB w' lo hi A xs :=
  ⟨Nat.le_trans h.1 hg.size, fun hn => by
    obtain ⟨b, off, e, h1, h2, h3⟩ := h.2 hn
    exact ⟨b, off, e, h1, h2, fun i v hv => (World.grownBy.cell_far hg ⟨b, off + i, none⟩ (Nat.lt_of_lt_of_le h2 h.1) (fun e => by have := hne b e.symm; omega)).trans (h3 i v hv)⟩⟩
theorem RdN.rdb {w : World} {lo : Nat} {A : Option Addr} {xs : List Value} (h : RdN w lo A xs) : RdB w lo w.heap.size A xs := ⟨Nat.le_refl _, h⟩
/-- The record and the stamp that came in. -/
structure PkA (w W : World) (r : Rec) (s : Stp) : Prop where
  bel : Below w.heap.size w W
  x : BxQ W w.heap.size r
  s : BxS W (w.heap.size + 1) s
theorem PkA.next {w W W' : World} {r : Rec} {s : Stp} (h : PkA w W r s) (hb : Below W.heap.size W W') : PkA w W' r s :=
  ⟨h.bel.trans (hb.mono h.bel.size), h.x.next hb, h.s.next hb⟩
theorem PkA.grown {w W W' : World} {r : Rec} {s : Stp} {row : Option Nat} (h : PkA w W r s) (hg : W.grownBy W' row) (hr : ∀ g, row = some g → w.heap.size + 2 ≤ g) : PkA w W' r s :=
  ⟨h.bel.grown hg h.bel.size (fun k e => by have := hr k e; omega), h.x.grown hg (fun e => by have := hr _ e; omega), h.s.grown hg (fun e => by have := hr _ e; omega)⟩
theorem own_grow {w w' : World} {base : Nat} {e : TypeId} {size : Nat} {v : Value} {n : Nat} {xs : List Value} {row : Option Nat} (h : w.ownsRow base e size v n xs) (hg : w.grownBy w' row) (hne : ∀ g, v.ownBlock = some g → row ≠ some g) : w'.ownsRow base e size v n xs :=
  h.kept hg (by
    cases hv : v.ownBlock with
    | none => exact .inl rfl
    | some g => exact .inr (fun e => hne g hv e.symm))
theorem same_is {W : World} {lo hi lo' hi' : Nat} {O : Rec} {A A' : Option Addr} {c c' : Nat} (h : RdB W lo hi A (sv O.l)) (h' : RdB W lo' hi' A' (sv O.l)) (hl : fit O) (hn : O.n ≤ 140737488355328) (W' : World) (hb : Below W.heap.size W W') :
    Calls Try.prog 14 #[.agg #[.int .i32 O.nd, .int .i32 O.nu, .int .u8 O.st, .int .i64 O.at_.wall, .int .i32 O.at_.logic, .int .i32 O.at_.tag, .slice A O.n c, .int .i64 O.beat, .int .i64 O.pu.wall, .int .i32 O.pu.logic, .int .i32 O.pu.tag], .agg #[.int .i32 O.nd, .int .i32 O.nu, .int .u8 O.st, .int .i64 O.at_.wall, .int .i32 O.at_.logic, .int .i32 O.at_.tag, .slice A' O.n c', .int .i64 O.beat, .int .i64 O.pu.wall, .int .i32 O.pu.logic, .int .i32 O.pu.tag]] W' fun e w' => e = .returned (.bool true) ∧ Below W'.heap.size W' w' :=
  rsame_yes (O.to A c) A' c' hl (show O.n ≤ _ by omega) W.heap.size W' ((h.rd.more h.1).below hb) ((h'.rd.more h'.1).below hb) hb.size
theorem sv_set (l : List ByteArray) (k : Nat) (b : ByteArray) : (sv l).set k (.string b) = sv (l.set k b) := by simp [sv, List.map_set]

set_option maxHeartbeats 12800000 in
theorem recordApart_walk (w : World) (r : Rec) (hl : fit r) (hn : (r.n + 1) * 16 ≤ 140737488355328) (hr : Rd w w.heap.size r.A (sv r.l)) (s : Stp) (A2 : Option Addr) (n2 c2 : Nat) (l2 : List ByteArray) (hl2 : l2.length = n2) (hn2 : n2 * 16 ≤ 140737488355328) (hk : Rd w w.heap.size A2 (sv l2)) :
    Calls Try.prog 7 #[r.v, stv s, .slice A2 n2 c2] w fun e w' => e = .returned (.bool true) ∧ Below w.heap.size w w' := by
  have HR := Lib.hid (fun W (h : Below w.heap.size w W) => hr.below h)
  have HK := Lib.hid (fun W (h : Below w.heap.size w W) => hk.below h)
  have HOWN := Lib.hid (fun W (h : Below w.heap.size w W) => ownR_any r hl hn w.heap.size W (hr.below h) h.size)
  have hn1 : r.n * 16 ≤ 140737488355328 := by omega
  clear hr hk
  unfold Rec.v at HOWN
  unfold Rec.v stv
  have HL2 := Lib.hid hl2
  have HLR := Lib.hid hl
  clear hl2 hl
  go_enter Try.func7, Try.ntmps7
  go_wp2_with fail
  refine (lives22_any _).mono ?_
  rintro e w1 ⟨rfl, hb⟩
  have X1 := BxQ.new w r 30
  replace X1 := (X1.alloc (.cells #[.int .i64 s.wall, .int .i32 s.logic, .int .i32 s.tag] 27)).next hb
  have S1 := BxS.new (w.alloc (.cells #[.int .i32 r.nd, .int .i32 r.nu, .int .u8 r.st, .int .i64 r.at_.wall, .int .i32 r.at_.logic, .int .i32 r.at_.tag, .slice r.A r.n r.c, .int .i64 r.beat, .int .i64 r.pu.wall, .int .i32 r.pu.logic, .int .i32 r.pu.tag] 30)) s 27
  rw [World.size_alloc] at S1
  replace S1 := S1.next hb
  have P1 : Hid (PkA w w1 r s) := Lib.hid ⟨Below.go (by go_grown) hb (by simp; omega), X1, S1⟩
  have hs1 : w.heap.size + 2 ≤ w1.heap.size := by have := hb.size; simp at this; omega
  clear hb X1 S1
  go_upto_region 4 with (at_builtin; refine wpList_app sty55 (.tmp 25) (.tmp 26) rfl rfl w1.heap.size (World.ownsRow_lit w1 #[] 0 (Nat.le_refl _) (by decide) rfl) rfl n2 c2 ((HK.out w1 P1.out.bel).alloc P1.out.bel.size _) rfl (by rw [sv_length, HL2.out]; omega) (sv_one _) (by unfold maxLen; omega) (by omega) (by simp) ?_; intro v2 w2 own2 gr2 nil2 at2)
  have B2 : Below w1.heap.size w1 w2 := ((Below.refl _ _).alloc (Nat.le_refl _) _).grown gr2 (by simp) (by simp [Value.ownBlock])
  have P2 := Lib.hid (P1.out.next B2)
  simp only [List.nil_append, Nat.zero_add] at own2
  obtain ⟨A7, c7, rfl, hnc7, hcm7, hr7⟩ := own_rd4 own2
  have O7_2 := Lib.hid own2
  have h7 : Hid (∀ k, (Value.slice A7 n2 c7).ownBlock = some k → w1.heap.size ≤ k ∧ k < w2.heap.size) := Lib.hid (fun k hk => O7_2.out.lt k hk)
  have hs2 : w1.heap.size ≤ w2.heap.size := B2.size
  clear gr2 nil2 at2 hr7 own2 B2 P1
  obtain ⟨O1, E1, fit1, nb1, H1, G1⟩ : ∃ (O : Rec) (E : Int), Hid (fit O) ∧ Hid (O.n ≤ 140737488355328) ∧ Hid (∀ W, PkA w W r s → Rd W W.heap.size A7 (sv l2) → Calls Try.prog 29 #[.agg #[.int .i32 r.nd, .int .i32 r.nu, .int .u8 r.st, .int .i64 r.at_.wall, .int .i32 r.at_.logic, .int .i32 r.at_.tag, .slice r.A r.n r.c, .int .i64 r.beat, .int .i64 r.pu.wall, .int .i32 r.pu.logic, .int .i32 r.pu.tag], .agg #[.int .i64 s.wall, .int .i32 s.logic, .int .i32 s.tag], .slice A7 n2 c7, .int .i64 r.beat] W (OutR O E W)) ∧ Hid (∀ W, PkA w W r s → Calls Try.prog 33 #[.agg #[.int .i32 r.nd, .int .i32 r.nu, .int .u8 r.st, .int .i64 r.at_.wall, .int .i32 r.at_.logic, .int .i32 r.at_.tag, .slice r.A r.n r.c, .int .i64 r.beat, .int .i64 r.pu.wall, .int .i32 r.pu.logic, .int .i32 r.pu.tag], .agg #[.int .i64 s.wall, .int .i32 s.logic, .int .i32 s.tag], .slice A2 n2 c2, .int .i64 r.beat] W (OutR O E W)) :=
    ⟨stageO r s n2 l2 r.beat, stageE r s n2 l2 r.beat, Lib.hid (fit_stage r s HL2.out r.beat), Lib.hid (n_stage r s hn2 r.beat), Lib.hid (fun W P hq => stage_any r s A7 n2 c7 l2 r.beat HLR.out HL2.out hn2 W.heap.size W ((HR.out W P.bel).more P.bel.size) hq (Nat.le_refl _)), Lib.hid (fun W P => rstage_any r s A2 n2 c2 l2 r.beat HLR.out HL2.out hn2 w.heap.size W (HR.out W P.bel) (HK.out W P.bel) P.bel.size)⟩
  obtain ⟨O2, E2, fit2, nb2, H2, G2⟩ : ∃ (O : Rec) (E : Int), Hid (fit O) ∧ Hid (O.n ≤ 140737488355328) ∧ Hid (∀ W, PkA w W r s → Rd W W.heap.size A7 (sv l2) → Calls Try.prog 30 #[.agg #[.int .i32 r.nd, .int .i32 r.nu, .int .u8 r.st, .int .i64 r.at_.wall, .int .i32 r.at_.logic, .int .i32 r.at_.tag, .slice r.A r.n r.c, .int .i64 r.beat, .int .i64 r.pu.wall, .int .i32 r.pu.logic, .int .i32 r.pu.tag], .agg #[.int .i64 s.wall, .int .i32 s.logic, .int .i32 s.tag], .slice A7 n2 c7] W (OutR O E W)) ∧ Hid (∀ W, PkA w W r s → Calls Try.prog 34 #[.agg #[.int .i32 r.nd, .int .i32 r.nu, .int .u8 r.st, .int .i64 r.at_.wall, .int .i32 r.at_.logic, .int .i32 r.at_.tag, .slice r.A r.n r.c, .int .i64 r.beat, .int .i64 r.pu.wall, .int .i32 r.pu.logic, .int .i32 r.pu.tag], .agg #[.int .i64 s.wall, .int .i32 s.logic, .int .i32 s.tag], .slice A2 n2 c2] W (OutR O E W)) :=
    ⟨commitO r s n2 l2, commitE r s n2 l2, Lib.hid (fit_commit r s HL2.out), Lib.hid (n_commit r s hn2), Lib.hid (fun W P hq => commit_any r s A7 n2 c7 l2 HLR.out HL2.out hn2 W.heap.size W ((HR.out W P.bel).more P.bel.size) hq (Nat.le_refl _)), Lib.hid (fun W P => rcommit_any r s A2 n2 c2 l2 HLR.out HL2.out hn2 w.heap.size W (HR.out W P.bel) (HK.out W P.bel) P.bel.size)⟩
  obtain ⟨y0, y1, y2, y3, y4, y5, y6, y7, y8, y9, y10, y11, y12⟩ := P2.out.x
  try dsimp only [Rec.to] at y2 y3 y4 y5 y6 y7 y8 y9 y10 y11 y12
  obtain ⟨z0, z1, z2, z3, z4⟩ := P2.out.s
  go_wp2_with fail
  refine (H1.out _ P2.out (Rd.own O7_2.out)).mono ?_
  rintro e v3 ⟨K3, c3, rfl, hk, hb⟩
  dsimp only [Rec.v, Rec.to]
  clear y0 y1 y2 y3 y4 y5 y6 y7 y8 y9 y10 y11 y12 z0 z1 z2 z3 z4
  replace hk := hk.rdb
  have lba : w2.heap.size ≤ v3.heap.size := hb.size
  have P_3 := Lib.hid (P2.out.next hb); clear P2
  have O7__3 := Lib.hid (own_keep O7_2.out hb (Nat.le_refl _)); clear O7_2
  go_upto_region 5 with (fail)
  have P3 := Lib.hid (P_3.out.next ((Below.refl v3.heap.size v3).alloc (Nat.le_refl _) (.cells #[.int .i32 O1.nd, .int .i32 O1.nu, .int .u8 O1.st, .int .i64 O1.at_.wall, .int .i32 O1.at_.logic, .int .i32 O1.at_.tag, .slice K3 O1.n c3, .int .i64 O1.beat, .int .i64 O1.pu.wall, .int .i32 O1.pu.logic, .int .i32 O1.pu.tag] 30))); clear P_3
  have O7_3 := Lib.hid (own_keep O7__3.out ((Below.refl v3.heap.size v3).alloc (Nat.le_refl _) (.cells #[.int .i32 O1.nd, .int .i32 O1.nu, .int .u8 O1.st, .int .i64 O1.at_.wall, .int .i32 O1.at_.logic, .int .i32 O1.at_.tag, .slice K3 O1.n c3, .int .i64 O1.beat, .int .i64 O1.pu.wall, .int .i32 O1.pu.logic, .int .i32 O1.pu.tag] 30)) (Nat.le_refl _)); clear O7__3
  have Xba_3 : Hid (BxQ (v3.alloc (.cells #[.int .i32 O1.nd, .int .i32 O1.nu, .int .u8 O1.st, .int .i64 O1.at_.wall, .int .i32 O1.at_.logic, .int .i32 O1.at_.tag, .slice K3 O1.n c3, .int .i64 O1.beat, .int .i64 O1.pu.wall, .int .i32 O1.pu.logic, .int .i32 O1.pu.tag] 30)) v3.heap.size (O1.to K3 c3)) := Lib.hid (BxQ.new v3 (O1.to K3 c3) 30)
  have Kba_3 := Lib.hid (hk.next ((Below.refl v3.heap.size v3).alloc (Nat.le_refl _) (.cells #[.int .i32 O1.nd, .int .i32 O1.nu, .int .u8 O1.st, .int .i64 O1.at_.wall, .int .i32 O1.at_.logic, .int .i32 O1.at_.tag, .slice K3 O1.n c3, .int .i64 O1.beat, .int .i64 O1.pu.wall, .int .i32 O1.pu.logic, .int .i32 O1.pu.tag] 30)))
  clear hk hb
  have mba : v3.heap.size < (v3.alloc (.cells #[.int .i32 O1.nd, .int .i32 O1.nu, .int .u8 O1.st, .int .i64 O1.at_.wall, .int .i32 O1.at_.logic, .int .i32 O1.at_.tag, .slice K3 O1.n c3, .int .i64 O1.beat, .int .i64 O1.pu.wall, .int .i32 O1.pu.logic, .int .i32 O1.pu.tag] 30)).heap.size := by simp
  generalize hw3 : (v3.alloc (.cells #[.int .i32 O1.nd, .int .i32 O1.nu, .int .u8 O1.st, .int .i64 O1.at_.wall, .int .i32 O1.at_.logic, .int .i32 O1.at_.tag, .slice K3 O1.n c3, .int .i64 O1.beat, .int .i64 O1.pu.wall, .int .i32 O1.pu.logic, .int .i32 O1.pu.tag] 30)) = w3 at *
  generalize hv3 : v3.heap.size = ba at *
  clear hw3 hv3
  obtain ⟨y0, y1, y2, y3, y4, y5, y6, y7, y8, y9, y10, y11, y12⟩ := P3.out.x
  try dsimp only [Rec.to] at y2 y3 y4 y5 y6 y7 y8 y9 y10 y11 y12
  obtain ⟨z0, z1, z2, z3, z4⟩ := P3.out.s
  go_wp2_with fail
  refine (H2.out _ P3.out (Rd.own O7_3.out)).mono ?_
  rintro e v4 ⟨K4, c4, rfl, hk, hb⟩
  dsimp only [Rec.v, Rec.to]
  clear y0 y1 y2 y3 y4 y5 y6 y7 y8 y9 y10 y11 y12 z0 z1 z2 z3 z4
  replace hk := hk.rdb
  have lbc : w3.heap.size ≤ v4.heap.size := hb.size
  have P_4 := Lib.hid (P3.out.next hb); clear P3
  have O7__4 := Lib.hid (own_keep O7_3.out hb (Nat.le_refl _)); clear O7_3
  have Xba__4 := Lib.hid (Xba_3.out.next hb); clear Xba_3
  have Kba__4 := Lib.hid (Kba_3.out.next hb); clear Kba_3
  go_upto_region 6 with (fail)
  have P4 := Lib.hid (P_4.out.next ((Below.refl v4.heap.size v4).alloc (Nat.le_refl _) (.cells #[.int .i32 O2.nd, .int .i32 O2.nu, .int .u8 O2.st, .int .i64 O2.at_.wall, .int .i32 O2.at_.logic, .int .i32 O2.at_.tag, .slice K4 O2.n c4, .int .i64 O2.beat, .int .i64 O2.pu.wall, .int .i32 O2.pu.logic, .int .i32 O2.pu.tag] 30))); clear P_4
  have O7_4 := Lib.hid (own_keep O7__4.out ((Below.refl v4.heap.size v4).alloc (Nat.le_refl _) (.cells #[.int .i32 O2.nd, .int .i32 O2.nu, .int .u8 O2.st, .int .i64 O2.at_.wall, .int .i32 O2.at_.logic, .int .i32 O2.at_.tag, .slice K4 O2.n c4, .int .i64 O2.beat, .int .i64 O2.pu.wall, .int .i32 O2.pu.logic, .int .i32 O2.pu.tag] 30)) (Nat.le_refl _)); clear O7__4
  have Xba_4 := Lib.hid (Xba__4.out.next ((Below.refl v4.heap.size v4).alloc (Nat.le_refl _) (.cells #[.int .i32 O2.nd, .int .i32 O2.nu, .int .u8 O2.st, .int .i64 O2.at_.wall, .int .i32 O2.at_.logic, .int .i32 O2.at_.tag, .slice K4 O2.n c4, .int .i64 O2.beat, .int .i64 O2.pu.wall, .int .i32 O2.pu.logic, .int .i32 O2.pu.tag] 30))); clear Xba__4
  have Kba_4 := Lib.hid (Kba__4.out.next ((Below.refl v4.heap.size v4).alloc (Nat.le_refl _) (.cells #[.int .i32 O2.nd, .int .i32 O2.nu, .int .u8 O2.st, .int .i64 O2.at_.wall, .int .i32 O2.at_.logic, .int .i32 O2.at_.tag, .slice K4 O2.n c4, .int .i64 O2.beat, .int .i64 O2.pu.wall, .int .i32 O2.pu.logic, .int .i32 O2.pu.tag] 30))); clear Kba__4
  have Xbc_4 : Hid (BxQ (v4.alloc (.cells #[.int .i32 O2.nd, .int .i32 O2.nu, .int .u8 O2.st, .int .i64 O2.at_.wall, .int .i32 O2.at_.logic, .int .i32 O2.at_.tag, .slice K4 O2.n c4, .int .i64 O2.beat, .int .i64 O2.pu.wall, .int .i32 O2.pu.logic, .int .i32 O2.pu.tag] 30)) v4.heap.size (O2.to K4 c4)) := Lib.hid (BxQ.new v4 (O2.to K4 c4) 30)
  have Kbc_4 := Lib.hid (hk.next ((Below.refl v4.heap.size v4).alloc (Nat.le_refl _) (.cells #[.int .i32 O2.nd, .int .i32 O2.nu, .int .u8 O2.st, .int .i64 O2.at_.wall, .int .i32 O2.at_.logic, .int .i32 O2.at_.tag, .slice K4 O2.n c4, .int .i64 O2.beat, .int .i64 O2.pu.wall, .int .i32 O2.pu.logic, .int .i32 O2.pu.tag] 30)))
  clear hk hb
  have mbc : v4.heap.size < (v4.alloc (.cells #[.int .i32 O2.nd, .int .i32 O2.nu, .int .u8 O2.st, .int .i64 O2.at_.wall, .int .i32 O2.at_.logic, .int .i32 O2.at_.tag, .slice K4 O2.n c4, .int .i64 O2.beat, .int .i64 O2.pu.wall, .int .i32 O2.pu.logic, .int .i32 O2.pu.tag] 30)).heap.size := by simp
  generalize hw4 : (v4.alloc (.cells #[.int .i32 O2.nd, .int .i32 O2.nu, .int .u8 O2.st, .int .i64 O2.at_.wall, .int .i32 O2.at_.logic, .int .i32 O2.at_.tag, .slice K4 O2.n c4, .int .i64 O2.beat, .int .i64 O2.pu.wall, .int .i32 O2.pu.logic, .int .i32 O2.pu.tag] 30)) = w4 at *
  generalize hv4 : v4.heap.size = bc at *
  clear hw4 hv4
  obtain ⟨y0, y1, y2, y3, y4, y5, y6, y7, y8, y9, y10, y11, y12⟩ := P4.out.x
  try dsimp only [Rec.to] at y2 y3 y4 y5 y6 y7 y8 y9 y10 y11 y12
  go_wp2_with fail
  refine (HOWN.out _ P4.out.bel).mono ?_
  rintro e v5 ⟨g, cx, rfl, own, hb⟩
  dsimp only [Rec.v, Rec.to]
  clear HOWN y0 y1 y2 y3 y4 y5 y6 y7 y8 y9 y10 y11 y12
  have hcx : r.n + 1 ≤ cx := own_cap own
  have hgl : w4.heap.size ≤ g ∧ g < v5.heap.size := own.lt g rfl
  have P_5 := Lib.hid (P4.out.next hb); clear P4
  have O7__5 := Lib.hid (own_keep O7_4.out hb (Nat.le_refl _)); clear O7_4
  have Xba__5 := Lib.hid (Xba_4.out.next hb); clear Xba_4
  have Kba__5 := Lib.hid (Kba_4.out.next hb); clear Kba_4
  have Xbc__5 := Lib.hid (Xbc_4.out.next hb); clear Xbc_4
  have Kbc__5 := Lib.hid (Kbc_4.out.next hb); clear Kbc_4
  go_upto_region 7 with (fail)
  have P5 := Lib.hid (P_5.out.next ((Below.refl v5.heap.size v5).alloc (Nat.le_refl _) (.cells #[.int .i32 r.nd, .int .i32 r.nu, .int .u8 r.st, .int .i64 r.at_.wall, .int .i32 r.at_.logic, .int .i32 r.at_.tag, .slice (some ⟨g, 0, none⟩) r.n cx, .int .i64 r.beat, .int .i64 r.pu.wall, .int .i32 r.pu.logic, .int .i32 r.pu.tag] 30))); clear P_5
  have O7_5 := Lib.hid (own_keep O7__5.out ((Below.refl v5.heap.size v5).alloc (Nat.le_refl _) (.cells #[.int .i32 r.nd, .int .i32 r.nu, .int .u8 r.st, .int .i64 r.at_.wall, .int .i32 r.at_.logic, .int .i32 r.at_.tag, .slice (some ⟨g, 0, none⟩) r.n cx, .int .i64 r.beat, .int .i64 r.pu.wall, .int .i32 r.pu.logic, .int .i32 r.pu.tag] 30)) (Nat.le_refl _)); clear O7__5
  have Xba_5 := Lib.hid (Xba__5.out.next ((Below.refl v5.heap.size v5).alloc (Nat.le_refl _) (.cells #[.int .i32 r.nd, .int .i32 r.nu, .int .u8 r.st, .int .i64 r.at_.wall, .int .i32 r.at_.logic, .int .i32 r.at_.tag, .slice (some ⟨g, 0, none⟩) r.n cx, .int .i64 r.beat, .int .i64 r.pu.wall, .int .i32 r.pu.logic, .int .i32 r.pu.tag] 30))); clear Xba__5
  have Kba_5 := Lib.hid (Kba__5.out.next ((Below.refl v5.heap.size v5).alloc (Nat.le_refl _) (.cells #[.int .i32 r.nd, .int .i32 r.nu, .int .u8 r.st, .int .i64 r.at_.wall, .int .i32 r.at_.logic, .int .i32 r.at_.tag, .slice (some ⟨g, 0, none⟩) r.n cx, .int .i64 r.beat, .int .i64 r.pu.wall, .int .i32 r.pu.logic, .int .i32 r.pu.tag] 30))); clear Kba__5
  have Xbc_5 := Lib.hid (Xbc__5.out.next ((Below.refl v5.heap.size v5).alloc (Nat.le_refl _) (.cells #[.int .i32 r.nd, .int .i32 r.nu, .int .u8 r.st, .int .i64 r.at_.wall, .int .i32 r.at_.logic, .int .i32 r.at_.tag, .slice (some ⟨g, 0, none⟩) r.n cx, .int .i64 r.beat, .int .i64 r.pu.wall, .int .i32 r.pu.logic, .int .i32 r.pu.tag] 30))); clear Xbc__5
  have Kbc_5 := Lib.hid (Kbc__5.out.next ((Below.refl v5.heap.size v5).alloc (Nat.le_refl _) (.cells #[.int .i32 r.nd, .int .i32 r.nu, .int .u8 r.st, .int .i64 r.at_.wall, .int .i32 r.at_.logic, .int .i32 r.at_.tag, .slice (some ⟨g, 0, none⟩) r.n cx, .int .i64 r.beat, .int .i64 r.pu.wall, .int .i32 r.pu.logic, .int .i32 r.pu.tag] 30))); clear Kbc__5
  have Xxb_5 : Hid (BxQ (v5.alloc (.cells #[.int .i32 r.nd, .int .i32 r.nu, .int .u8 r.st, .int .i64 r.at_.wall, .int .i32 r.at_.logic, .int .i32 r.at_.tag, .slice (some ⟨g, 0, none⟩) r.n cx, .int .i64 r.beat, .int .i64 r.pu.wall, .int .i32 r.pu.logic, .int .i32 r.pu.tag] 30)) v5.heap.size (r.to (some ⟨g, 0, none⟩) cx)) := Lib.hid (BxQ.new v5 (r.to (some ⟨g, 0, none⟩) cx) 30)
  have O12_5 := Lib.hid (own_keep own ((Below.refl v5.heap.size v5).alloc (Nat.le_refl _) (.cells #[.int .i32 r.nd, .int .i32 r.nu, .int .u8 r.st, .int .i64 r.at_.wall, .int .i32 r.at_.logic, .int .i32 r.at_.tag, .slice (some ⟨g, 0, none⟩) r.n cx, .int .i64 r.beat, .int .i64 r.pu.wall, .int .i32 r.pu.logic, .int .i32 r.pu.tag] 30)) (Nat.le_refl _))
  have mxb : v5.heap.size < (v5.alloc (.cells #[.int .i32 r.nd, .int .i32 r.nu, .int .u8 r.st, .int .i64 r.at_.wall, .int .i32 r.at_.logic, .int .i32 r.at_.tag, .slice (some ⟨g, 0, none⟩) r.n cx, .int .i64 r.beat, .int .i64 r.pu.wall, .int .i32 r.pu.logic, .int .i32 r.pu.tag] 30)).heap.size := by simp
  clear own hb
  generalize hw5 : (v5.alloc (.cells #[.int .i32 r.nd, .int .i32 r.nu, .int .u8 r.st, .int .i64 r.at_.wall, .int .i32 r.at_.logic, .int .i32 r.at_.tag, .slice (some ⟨g, 0, none⟩) r.n cx, .int .i64 r.beat, .int .i64 r.pu.wall, .int .i32 r.pu.logic, .int .i32 r.pu.tag] 30)) = w5 at *
  generalize hv5 : v5.heap.size = xb at *
  clear hw5 hv5
  obtain ⟨O7, E7, fit7, nb7, H7, G7⟩ : ∃ (O : Rec) (E : Int), Hid (fit O) ∧ Hid (O.n ≤ 140737488355328) ∧ Hid (∀ W, PkA w W r s → Rd W W.heap.size (some ⟨g, 0, none⟩) (sv r.l) → Calls Try.prog 32 #[.agg #[.int .i32 r.nd, .int .i32 r.nu, .int .u8 r.st, .int .i64 r.at_.wall, .int .i32 r.at_.logic, .int .i32 r.at_.tag, .slice (some ⟨g, 0, none⟩) r.n cx, .int .i64 r.beat, .int .i64 r.pu.wall, .int .i32 r.pu.logic, .int .i32 r.pu.tag], .int .i64 r.beat] W (OutR O E W)) ∧ Hid (∀ W, PkA w W r s → Calls Try.prog 35 #[.agg #[.int .i32 r.nd, .int .i32 r.nu, .int .u8 r.st, .int .i64 r.at_.wall, .int .i32 r.at_.logic, .int .i32 r.at_.tag, .slice r.A r.n r.c, .int .i64 r.beat, .int .i64 r.pu.wall, .int .i32 r.pu.logic, .int .i32 r.pu.tag], .int .i64 r.beat] W (OutR O E W)) :=
    ⟨beatO r r.beat, beatE r r.beat, Lib.hid (fit_beat HLR.out r.beat), Lib.hid (n_beat hn1 r.beat), Lib.hid (fun W P hq => beat_any (r.to (some ⟨g, 0, none⟩) cx) r.beat HLR.out W.heap.size W hq (Nat.le_refl _) hn1), Lib.hid (fun W P => rbeat_any r r.beat HLR.out w.heap.size W (HR.out W P.bel) P.bel.size hn1)⟩
  have HTK : ∀ (W : World) (base : Nat), W.ownsRow base 9 1 (.slice (some ⟨g, 0, none⟩) (r.n + 1) cx) (r.n + 1) (sv r.l ++ [behind]) → Rd W W.heap.size (some ⟨g, 0, none⟩) (sv r.l) := fun W base h => by
    have := (Rd.own h).take (sv r.l).length
    rwa [List.take_left'] at this
    rfl
  have HTK := Lib.hid HTK
  obtain ⟨x0, x1, x2, x3, x4, x5, x6, x7, x8, x9, x10, x11, x12⟩ := Xxb_5.out
  try dsimp only [Rec.to] at x2 x3 x4 x5 x6 x7 x8 x9 x10 x11 x12
  obtain ⟨y0, y1, y2, y3, y4, y5, y6, y7, y8, y9, y10, y11, y12⟩ := P5.out.x
  try dsimp only [Rec.to] at y2 y3 y4 y5 y6 y7 y8 y9 y10 y11 y12
  go_wp2_with fail
  refine (H7.out _ P5.out (HTK.out _ _ O12_5.out)).mono ?_
  rintro e v6 ⟨K6, c6, rfl, hk, hb⟩
  dsimp only [Rec.v, Rec.to]
  clear x0 x1 x2 x3 x4 x5 x6 x7 x8 x9 x10 x11 x12 y0 y1 y2 y3 y4 y5 y6 y7 y8 y9 y10 y11 y12
  replace hk := hk.rdb
  have lbe : w5.heap.size ≤ v6.heap.size := hb.size
  have P_6 := Lib.hid (P5.out.next hb); clear P5
  have O7__6 := Lib.hid (own_keep O7_5.out hb (Nat.le_refl _)); clear O7_5
  have Xba__6 := Lib.hid (Xba_5.out.next hb); clear Xba_5
  have Kba__6 := Lib.hid (Kba_5.out.next hb); clear Kba_5
  have Xbc__6 := Lib.hid (Xbc_5.out.next hb); clear Xbc_5
  have Kbc__6 := Lib.hid (Kbc_5.out.next hb); clear Kbc_5
  have Xxb__6 := Lib.hid (Xxb_5.out.next hb); clear Xxb_5
  have O12__6 := Lib.hid (own_keep O12_5.out hb (Nat.le_refl _)); clear O12_5
  go_upto_region 8 with (fail)
  have P6 := Lib.hid (P_6.out.next ((Below.refl v6.heap.size v6).alloc (Nat.le_refl _) (.cells #[.int .i32 O7.nd, .int .i32 O7.nu, .int .u8 O7.st, .int .i64 O7.at_.wall, .int .i32 O7.at_.logic, .int .i32 O7.at_.tag, .slice K6 O7.n c6, .int .i64 O7.beat, .int .i64 O7.pu.wall, .int .i32 O7.pu.logic, .int .i32 O7.pu.tag] 30))); clear P_6
  have O7_6 := Lib.hid (own_keep O7__6.out ((Below.refl v6.heap.size v6).alloc (Nat.le_refl _) (.cells #[.int .i32 O7.nd, .int .i32 O7.nu, .int .u8 O7.st, .int .i64 O7.at_.wall, .int .i32 O7.at_.logic, .int .i32 O7.at_.tag, .slice K6 O7.n c6, .int .i64 O7.beat, .int .i64 O7.pu.wall, .int .i32 O7.pu.logic, .int .i32 O7.pu.tag] 30)) (Nat.le_refl _)); clear O7__6
  have Xba_6 := Lib.hid (Xba__6.out.next ((Below.refl v6.heap.size v6).alloc (Nat.le_refl _) (.cells #[.int .i32 O7.nd, .int .i32 O7.nu, .int .u8 O7.st, .int .i64 O7.at_.wall, .int .i32 O7.at_.logic, .int .i32 O7.at_.tag, .slice K6 O7.n c6, .int .i64 O7.beat, .int .i64 O7.pu.wall, .int .i32 O7.pu.logic, .int .i32 O7.pu.tag] 30))); clear Xba__6
  have Kba_6 := Lib.hid (Kba__6.out.next ((Below.refl v6.heap.size v6).alloc (Nat.le_refl _) (.cells #[.int .i32 O7.nd, .int .i32 O7.nu, .int .u8 O7.st, .int .i64 O7.at_.wall, .int .i32 O7.at_.logic, .int .i32 O7.at_.tag, .slice K6 O7.n c6, .int .i64 O7.beat, .int .i64 O7.pu.wall, .int .i32 O7.pu.logic, .int .i32 O7.pu.tag] 30))); clear Kba__6
  have Xbc_6 := Lib.hid (Xbc__6.out.next ((Below.refl v6.heap.size v6).alloc (Nat.le_refl _) (.cells #[.int .i32 O7.nd, .int .i32 O7.nu, .int .u8 O7.st, .int .i64 O7.at_.wall, .int .i32 O7.at_.logic, .int .i32 O7.at_.tag, .slice K6 O7.n c6, .int .i64 O7.beat, .int .i64 O7.pu.wall, .int .i32 O7.pu.logic, .int .i32 O7.pu.tag] 30))); clear Xbc__6
  have Kbc_6 := Lib.hid (Kbc__6.out.next ((Below.refl v6.heap.size v6).alloc (Nat.le_refl _) (.cells #[.int .i32 O7.nd, .int .i32 O7.nu, .int .u8 O7.st, .int .i64 O7.at_.wall, .int .i32 O7.at_.logic, .int .i32 O7.at_.tag, .slice K6 O7.n c6, .int .i64 O7.beat, .int .i64 O7.pu.wall, .int .i32 O7.pu.logic, .int .i32 O7.pu.tag] 30))); clear Kbc__6
  have Xxb_6 := Lib.hid (Xxb__6.out.next ((Below.refl v6.heap.size v6).alloc (Nat.le_refl _) (.cells #[.int .i32 O7.nd, .int .i32 O7.nu, .int .u8 O7.st, .int .i64 O7.at_.wall, .int .i32 O7.at_.logic, .int .i32 O7.at_.tag, .slice K6 O7.n c6, .int .i64 O7.beat, .int .i64 O7.pu.wall, .int .i32 O7.pu.logic, .int .i32 O7.pu.tag] 30))); clear Xxb__6
  have O12_6 := Lib.hid (own_keep O12__6.out ((Below.refl v6.heap.size v6).alloc (Nat.le_refl _) (.cells #[.int .i32 O7.nd, .int .i32 O7.nu, .int .u8 O7.st, .int .i64 O7.at_.wall, .int .i32 O7.at_.logic, .int .i32 O7.at_.tag, .slice K6 O7.n c6, .int .i64 O7.beat, .int .i64 O7.pu.wall, .int .i32 O7.pu.logic, .int .i32 O7.pu.tag] 30)) (Nat.le_refl _)); clear O12__6
  have Xbe_6 : Hid (BxQ (v6.alloc (.cells #[.int .i32 O7.nd, .int .i32 O7.nu, .int .u8 O7.st, .int .i64 O7.at_.wall, .int .i32 O7.at_.logic, .int .i32 O7.at_.tag, .slice K6 O7.n c6, .int .i64 O7.beat, .int .i64 O7.pu.wall, .int .i32 O7.pu.logic, .int .i32 O7.pu.tag] 30)) v6.heap.size (O7.to K6 c6)) := Lib.hid (BxQ.new v6 (O7.to K6 c6) 30)
  have Kbe_6 := Lib.hid (hk.next ((Below.refl v6.heap.size v6).alloc (Nat.le_refl _) (.cells #[.int .i32 O7.nd, .int .i32 O7.nu, .int .u8 O7.st, .int .i64 O7.at_.wall, .int .i32 O7.at_.logic, .int .i32 O7.at_.tag, .slice K6 O7.n c6, .int .i64 O7.beat, .int .i64 O7.pu.wall, .int .i32 O7.pu.logic, .int .i32 O7.pu.tag] 30)))
  clear hk hb
  have mbe : v6.heap.size < (v6.alloc (.cells #[.int .i32 O7.nd, .int .i32 O7.nu, .int .u8 O7.st, .int .i64 O7.at_.wall, .int .i32 O7.at_.logic, .int .i32 O7.at_.tag, .slice K6 O7.n c6, .int .i64 O7.beat, .int .i64 O7.pu.wall, .int .i32 O7.pu.logic, .int .i32 O7.pu.tag] 30)).heap.size := by simp
  generalize hw6 : (v6.alloc (.cells #[.int .i32 O7.nd, .int .i32 O7.nu, .int .u8 O7.st, .int .i64 O7.at_.wall, .int .i32 O7.at_.logic, .int .i32 O7.at_.tag, .slice K6 O7.n c6, .int .i64 O7.beat, .int .i64 O7.pu.wall, .int .i32 O7.pu.logic, .int .i32 O7.pu.tag] 30)) = w6 at *
  generalize hv6 : v6.heap.size = be at *
  clear hw6 hv6
  obtain ⟨xs, hxs, hxl⟩ : ∃ xs : List ByteArray, sv l2 = sv xs ∧ xs.length = n2 := ⟨l2, rfl, HL2.out⟩
  have OW := O7_6.out
  rw [hxs] at OW
  have OW0 := Lib.hid OW; have HXL := Lib.hid hxl; clear OW hxs hxl O7_6
  go_wp2_with fail
  go_loopw [15] (fun i wr => ∃ (k : Nat) (ys : List ByteArray), k ≤ n2 ∧ Hid (ys.length = n2) ∧ i = .int .i64 k ∧ Hid (wr.ownsRow w1.heap.size 9 1 (.slice A7 n2 c7) n2 (sv ys)) ∧ Hid (w6.grownBy wr (Value.slice A7 n2 c7).ownBlock)) (fun i _ => n2 - (intOf i).toNat)
  case atStart => exact ⟨0, xs, Nat.zero_le _, HXL, rfl, OW0, Lib.hid (World.grownBy.refl _ _)⟩
  case round =>
    obtain ⟨k, ys, hk, hyl, rfl, hown, hgr⟩ := hrel
    clear OW0 HXL
    by_cases hlt : k < n2
    · skip
      obtain ⟨kb, c9, e9, -, -, -, -⟩ := own_blk hown.out (by omega)
      injection e9 with e9 _ e8
      subst e9 e8
      have hky : k < ys.length := by rw [hyl.out]; omega
      have hcx := hown.out.cellAt k (by omega)
      rw [sv_get ys k hky] at hcx
      have hfx := hown.out.frozenAt k
      generalize ys[k] = yk at *
      have i1 : (k : Int) < (n2 : Int) := by omega
      have i0 : (0 : Int) ≤ (k : Int) := by omega
      go_wp2
      have o2 := (hown.out.stored k (.string ⟨#[111, 118, 101, 114]⟩)).1
      have g2 := (hown.out.stored k (.string ⟨#[111, 118, 101, 114]⟩)).2
      rw [sv_set] at o2
      exact ⟨⟨k + 1, ys.set k ⟨#[111, 118, 101, 114]⟩, by omega, Lib.hid (by rw [List.length_set]; exact hyl.out), by go_num, Lib.hid o2, Lib.hid (hgr.out.trans g2)⟩, by simp [intOf]; omega⟩
    · have hkn : n2 = k := by omega
      subst hkn
      have hrow : ∀ j, (Value.slice A7 n2 c7).ownBlock = some j → (w1.heap.size ≤ j ∧ j < w2.heap.size) := h7.out
      have hrow := Lib.hid hrow
      obtain ⟨w7, rfl⟩ : ∃ x, x = wr := ⟨_, rfl⟩
      have P7 := Lib.hid (P6.out.grown hgr.out (fun j e => by have := hrow.out j e; omega)); clear P6
      have Xba_7 := Lib.hid (Xba_6.out.grown hgr.out (fun e => by have := hrow.out _ e; omega)); clear Xba_6
      have Kba_7 := Lib.hid (Kba_6.out.grown hgr.out (fun j e => by have := hrow.out j e; omega)); clear Kba_6
      have Xbc_7 := Lib.hid (Xbc_6.out.grown hgr.out (fun e => by have := hrow.out _ e; omega)); clear Xbc_6
      have Kbc_7 := Lib.hid (Kbc_6.out.grown hgr.out (fun j e => by have := hrow.out j e; omega)); clear Kbc_6
      have Xxb_7 := Lib.hid (Xxb_6.out.grown hgr.out (fun e => by have := hrow.out _ e; omega)); clear Xxb_6
      have O12_7 := Lib.hid (own_grow O12_6.out hgr.out (fun j e9 e => by have h1 := hrow.out j e; have h2 := (fun j (e9 : (Value.slice (some ⟨g, 0, none⟩) (r.n + 1) cx).ownBlock = some j) => show j = g by simpa [Value.ownBlock] using e9.symm) j e9; omega)); clear O12_6
      have Xbe_7 := Lib.hid (Xbe_6.out.grown hgr.out (fun e => by have := hrow.out _ e; omega)); clear Xbe_6
      have Kbe_7 := Lib.hid (Kbe_6.out.grown hgr.out (fun j e => by have := hrow.out j e; omega)); clear Kbe_6
      have hsz7 := hgr.out.size
      clear hown hgr hyl hrow
      obtain ⟨xs, hxs, hxl⟩ : ∃ xs : List ByteArray, sv r.l ++ [behind] = sv xs ∧ xs.length = (r.n + 1) := ⟨r.l ++ [⟨#[98, 101, 104, 105, 110, 100]⟩], by simp [sv, behind], by simp; exact HLR.out⟩
      have OW := O12_7.out
      rw [hxs] at OW
      have OW0 := Lib.hid OW; have HXL := Lib.hid hxl; clear OW hxs hxl O12_7
      go_wp2_with fail
      go_loopw [16] (fun i wr => ∃ (k : Nat) (ys : List ByteArray), k ≤ r.n ∧ Hid (ys.length = (r.n + 1)) ∧ i = .int .i64 k ∧ Hid (wr.ownsRow w4.heap.size 9 1 (.slice (some ⟨g, 0, none⟩) (r.n + 1) cx) (r.n + 1) (sv ys)) ∧ Hid (w7.grownBy wr (some g))) (fun i _ => r.n - (intOf i).toNat)
      case atStart => exact ⟨0, xs, Nat.zero_le _, HXL, rfl, OW0, Lib.hid (World.grownBy.refl _ _)⟩
      case round =>
        obtain ⟨k, ys, hk, hyl, rfl, hown, hgr⟩ := hrel
        clear OW0 HXL
        by_cases hlt : k < r.n
        · skip
          have hky : k < ys.length := by rw [hyl.out]; omega
          have hcx := hown.out.cellAt k (by omega)
          rw [sv_get ys k hky] at hcx
          have hfx := hown.out.frozenAt k
          have XX := Lib.hid (Xxb_7.out.grown hgr.out (by simp; omega))
          obtain ⟨x0, x1, x2, x3, x4, x5, x6, x7, x8, x9, x10, x11, x12⟩ := XX.out
          try dsimp only [Rec.to] at x2 x3 x4 x5 x6 x7 x8 x9 x10 x11 x12
          generalize ys[k] = yk at *
          have i1 : (k : Int) < (r.n : Int) := by omega
          have i0 : (0 : Int) ≤ (k : Int) := by omega
          go_wp2
          have o2 := (hown.out.stored k (.string ⟨#[111, 118, 101, 114]⟩)).1
          have g2 := (hown.out.stored k (.string ⟨#[111, 118, 101, 114]⟩)).2
          rw [sv_set] at o2
          exact ⟨⟨k + 1, ys.set k ⟨#[111, 118, 101, 114]⟩, by omega, Lib.hid (by rw [List.length_set]; exact hyl.out), by go_num, Lib.hid o2, Lib.hid (hgr.out.trans g2)⟩, by simp [intOf]; omega⟩
        · have hkn : r.n = k := by omega
          have HKN := Lib.hid hkn; clear hkn
          have XX := Lib.hid (Xxb_7.out.grown hgr.out (by simp; omega))
          obtain ⟨x0, x1, x2, x3, x4, x5, x6, x7, x8, x9, x10, x11, x12⟩ := XX.out
          try dsimp only [Rec.to] at x2 x3 x4 x5 x6 x7 x8 x9 x10 x11 x12
          have i2 : ¬ ((k : Int) < (r.n : Int)) := by have := HKN.out; omega
          have hrow : ∀ j, (some g) = some j → (w4.heap.size ≤ j ∧ j < xb) := fun j e => by cases e; exact hgl
          have hrow := Lib.hid hrow
          obtain ⟨w8, rfl⟩ : ∃ x, x = wr := ⟨_, rfl⟩
          have P8 := Lib.hid (P7.out.grown hgr.out (fun j e => by have := hrow.out j e; omega)); clear P7
          have Xba_8 := Lib.hid (Xba_7.out.grown hgr.out (fun e => by have := hrow.out _ e; omega)); clear Xba_7
          have Kba_8 := Lib.hid (Kba_7.out.grown hgr.out (fun j e => by have := hrow.out j e; omega)); clear Kba_7
          have Xbc_8 := Lib.hid (Xbc_7.out.grown hgr.out (fun e => by have := hrow.out _ e; omega)); clear Xbc_7
          have Kbc_8 := Lib.hid (Kbc_7.out.grown hgr.out (fun j e => by have := hrow.out j e; omega)); clear Kbc_7
          have Xxb_8 := Lib.hid (Xxb_7.out.grown hgr.out (fun e => by have := hrow.out _ e; omega)); clear Xxb_7
          have Xbe_8 := Lib.hid (Xbe_7.out.grown hgr.out (fun e => by have := hrow.out _ e; omega)); clear Xbe_7
          have Kbe_8 := Lib.hid (Kbe_7.out.grown hgr.out (fun j e => by have := hrow.out j e; omega)); clear Kbe_7
          have hsz8 := hgr.out.size
          clear hown hgr hyl hrow XX
          obtain ⟨y0, y1, y2, y3, y4, y5, y6, y7, y8, y9, y10, y11, y12⟩ := P8.out.x
          try dsimp only [Rec.to] at y2 y3 y4 y5 y6 y7 y8 y9 y10 y11 y12
          obtain ⟨z0, z1, z2, z3, z4⟩ := P8.out.s
          go_wp2_with fail
          refine (G1.out _ P8.out).mono ?_
          rintro e v9 ⟨K9, c9, rfl, hk, hb⟩
          dsimp only [Rec.v, Rec.to]
          clear y0 y1 y2 y3 y4 y5 y6 y7 y8 y9 y10 y11 y12 z0 z1 z2 z3 z4
          replace hk := hk.rdb
          have lbf : w8.heap.size ≤ v9.heap.size := hb.size
          have P_9 := Lib.hid (P8.out.next hb); clear P8
          have Xba__9 := Lib.hid (Xba_8.out.next hb); clear Xba_8
          have Kba__9 := Lib.hid (Kba_8.out.next hb); clear Kba_8
          have Xbc__9 := Lib.hid (Xbc_8.out.next hb); clear Xbc_8
          have Kbc__9 := Lib.hid (Kbc_8.out.next hb); clear Kbc_8
          have Xxb__9 := Lib.hid (Xxb_8.out.next hb); clear Xxb_8
          have Xbe__9 := Lib.hid (Xbe_8.out.next hb); clear Xbe_8
          have Kbe__9 := Lib.hid (Kbe_8.out.next hb); clear Kbe_8
          go_upto_region 17 with (fail)
          have P9 := Lib.hid (P_9.out.next ((Below.refl v9.heap.size v9).alloc (Nat.le_refl _) (.cells #[.int .i32 O1.nd, .int .i32 O1.nu, .int .u8 O1.st, .int .i64 O1.at_.wall, .int .i32 O1.at_.logic, .int .i32 O1.at_.tag, .slice K9 O1.n c9, .int .i64 O1.beat, .int .i64 O1.pu.wall, .int .i32 O1.pu.logic, .int .i32 O1.pu.tag] 30))); clear P_9
          have Xba_9 := Lib.hid (Xba__9.out.next ((Below.refl v9.heap.size v9).alloc (Nat.le_refl _) (.cells #[.int .i32 O1.nd, .int .i32 O1.nu, .int .u8 O1.st, .int .i64 O1.at_.wall, .int .i32 O1.at_.logic, .int .i32 O1.at_.tag, .slice K9 O1.n c9, .int .i64 O1.beat, .int .i64 O1.pu.wall, .int .i32 O1.pu.logic, .int .i32 O1.pu.tag] 30))); clear Xba__9
          have Kba_9 := Lib.hid (Kba__9.out.next ((Below.refl v9.heap.size v9).alloc (Nat.le_refl _) (.cells #[.int .i32 O1.nd, .int .i32 O1.nu, .int .u8 O1.st, .int .i64 O1.at_.wall, .int .i32 O1.at_.logic, .int .i32 O1.at_.tag, .slice K9 O1.n c9, .int .i64 O1.beat, .int .i64 O1.pu.wall, .int .i32 O1.pu.logic, .int .i32 O1.pu.tag] 30))); clear Kba__9
          have Xbc_9 := Lib.hid (Xbc__9.out.next ((Below.refl v9.heap.size v9).alloc (Nat.le_refl _) (.cells #[.int .i32 O1.nd, .int .i32 O1.nu, .int .u8 O1.st, .int .i64 O1.at_.wall, .int .i32 O1.at_.logic, .int .i32 O1.at_.tag, .slice K9 O1.n c9, .int .i64 O1.beat, .int .i64 O1.pu.wall, .int .i32 O1.pu.logic, .int .i32 O1.pu.tag] 30))); clear Xbc__9
          have Kbc_9 := Lib.hid (Kbc__9.out.next ((Below.refl v9.heap.size v9).alloc (Nat.le_refl _) (.cells #[.int .i32 O1.nd, .int .i32 O1.nu, .int .u8 O1.st, .int .i64 O1.at_.wall, .int .i32 O1.at_.logic, .int .i32 O1.at_.tag, .slice K9 O1.n c9, .int .i64 O1.beat, .int .i64 O1.pu.wall, .int .i32 O1.pu.logic, .int .i32 O1.pu.tag] 30))); clear Kbc__9
          have Xxb_9 := Lib.hid (Xxb__9.out.next ((Below.refl v9.heap.size v9).alloc (Nat.le_refl _) (.cells #[.int .i32 O1.nd, .int .i32 O1.nu, .int .u8 O1.st, .int .i64 O1.at_.wall, .int .i32 O1.at_.logic, .int .i32 O1.at_.tag, .slice K9 O1.n c9, .int .i64 O1.beat, .int .i64 O1.pu.wall, .int .i32 O1.pu.logic, .int .i32 O1.pu.tag] 30))); clear Xxb__9
          have Xbe_9 := Lib.hid (Xbe__9.out.next ((Below.refl v9.heap.size v9).alloc (Nat.le_refl _) (.cells #[.int .i32 O1.nd, .int .i32 O1.nu, .int .u8 O1.st, .int .i64 O1.at_.wall, .int .i32 O1.at_.logic, .int .i32 O1.at_.tag, .slice K9 O1.n c9, .int .i64 O1.beat, .int .i64 O1.pu.wall, .int .i32 O1.pu.logic, .int .i32 O1.pu.tag] 30))); clear Xbe__9
          have Kbe_9 := Lib.hid (Kbe__9.out.next ((Below.refl v9.heap.size v9).alloc (Nat.le_refl _) (.cells #[.int .i32 O1.nd, .int .i32 O1.nu, .int .u8 O1.st, .int .i64 O1.at_.wall, .int .i32 O1.at_.logic, .int .i32 O1.at_.tag, .slice K9 O1.n c9, .int .i64 O1.beat, .int .i64 O1.pu.wall, .int .i32 O1.pu.logic, .int .i32 O1.pu.tag] 30))); clear Kbe__9
          have Xbf_9 : Hid (BxQ (v9.alloc (.cells #[.int .i32 O1.nd, .int .i32 O1.nu, .int .u8 O1.st, .int .i64 O1.at_.wall, .int .i32 O1.at_.logic, .int .i32 O1.at_.tag, .slice K9 O1.n c9, .int .i64 O1.beat, .int .i64 O1.pu.wall, .int .i32 O1.pu.logic, .int .i32 O1.pu.tag] 30)) v9.heap.size (O1.to K9 c9)) := Lib.hid (BxQ.new v9 (O1.to K9 c9) 30)
          have Kbf_9 := Lib.hid (hk.next ((Below.refl v9.heap.size v9).alloc (Nat.le_refl _) (.cells #[.int .i32 O1.nd, .int .i32 O1.nu, .int .u8 O1.st, .int .i64 O1.at_.wall, .int .i32 O1.at_.logic, .int .i32 O1.at_.tag, .slice K9 O1.n c9, .int .i64 O1.beat, .int .i64 O1.pu.wall, .int .i32 O1.pu.logic, .int .i32 O1.pu.tag] 30)))
          clear hk hb
          have mbf : v9.heap.size < (v9.alloc (.cells #[.int .i32 O1.nd, .int .i32 O1.nu, .int .u8 O1.st, .int .i64 O1.at_.wall, .int .i32 O1.at_.logic, .int .i32 O1.at_.tag, .slice K9 O1.n c9, .int .i64 O1.beat, .int .i64 O1.pu.wall, .int .i32 O1.pu.logic, .int .i32 O1.pu.tag] 30)).heap.size := by simp
          generalize hw9 : (v9.alloc (.cells #[.int .i32 O1.nd, .int .i32 O1.nu, .int .u8 O1.st, .int .i64 O1.at_.wall, .int .i32 O1.at_.logic, .int .i32 O1.at_.tag, .slice K9 O1.n c9, .int .i64 O1.beat, .int .i64 O1.pu.wall, .int .i32 O1.pu.logic, .int .i32 O1.pu.tag] 30)) = w9 at *
          generalize hv9 : v9.heap.size = bf at *
          clear hw9 hv9
          obtain ⟨y0, y1, y2, y3, y4, y5, y6, y7, y8, y9, y10, y11, y12⟩ := P9.out.x
          try dsimp only [Rec.to] at y2 y3 y4 y5 y6 y7 y8 y9 y10 y11 y12
          obtain ⟨z0, z1, z2, z3, z4⟩ := P9.out.s
          go_wp2_with fail
          refine (G2.out _ P9.out).mono ?_
          rintro e v10 ⟨K10, c10, rfl, hk, hb⟩
          dsimp only [Rec.v, Rec.to]
          clear y0 y1 y2 y3 y4 y5 y6 y7 y8 y9 y10 y11 y12 z0 z1 z2 z3 z4
          replace hk := hk.rdb
          have lbg : w9.heap.size ≤ v10.heap.size := hb.size
          have P_10 := Lib.hid (P9.out.next hb); clear P9
          have Xba__10 := Lib.hid (Xba_9.out.next hb); clear Xba_9
          have Kba__10 := Lib.hid (Kba_9.out.next hb); clear Kba_9
          have Xbc__10 := Lib.hid (Xbc_9.out.next hb); clear Xbc_9
          have Kbc__10 := Lib.hid (Kbc_9.out.next hb); clear Kbc_9
          have Xxb__10 := Lib.hid (Xxb_9.out.next hb); clear Xxb_9
          have Xbe__10 := Lib.hid (Xbe_9.out.next hb); clear Xbe_9
          have Kbe__10 := Lib.hid (Kbe_9.out.next hb); clear Kbe_9
          have Xbf__10 := Lib.hid (Xbf_9.out.next hb); clear Xbf_9
          have Kbf__10 := Lib.hid (Kbf_9.out.next hb); clear Kbf_9
          go_upto_region 18 with (fail)
          have P10 := Lib.hid (P_10.out.next ((Below.refl v10.heap.size v10).alloc (Nat.le_refl _) (.cells #[.int .i32 O2.nd, .int .i32 O2.nu, .int .u8 O2.st, .int .i64 O2.at_.wall, .int .i32 O2.at_.logic, .int .i32 O2.at_.tag, .slice K10 O2.n c10, .int .i64 O2.beat, .int .i64 O2.pu.wall, .int .i32 O2.pu.logic, .int .i32 O2.pu.tag] 30))); clear P_10
          have Xba_10 := Lib.hid (Xba__10.out.next ((Below.refl v10.heap.size v10).alloc (Nat.le_refl _) (.cells #[.int .i32 O2.nd, .int .i32 O2.nu, .int .u8 O2.st, .int .i64 O2.at_.wall, .int .i32 O2.at_.logic, .int .i32 O2.at_.tag, .slice K10 O2.n c10, .int .i64 O2.beat, .int .i64 O2.pu.wall, .int .i32 O2.pu.logic, .int .i32 O2.pu.tag] 30))); clear Xba__10
          have Kba_10 := Lib.hid (Kba__10.out.next ((Below.refl v10.heap.size v10).alloc (Nat.le_refl _) (.cells #[.int .i32 O2.nd, .int .i32 O2.nu, .int .u8 O2.st, .int .i64 O2.at_.wall, .int .i32 O2.at_.logic, .int .i32 O2.at_.tag, .slice K10 O2.n c10, .int .i64 O2.beat, .int .i64 O2.pu.wall, .int .i32 O2.pu.logic, .int .i32 O2.pu.tag] 30))); clear Kba__10
          have Xbc_10 := Lib.hid (Xbc__10.out.next ((Below.refl v10.heap.size v10).alloc (Nat.le_refl _) (.cells #[.int .i32 O2.nd, .int .i32 O2.nu, .int .u8 O2.st, .int .i64 O2.at_.wall, .int .i32 O2.at_.logic, .int .i32 O2.at_.tag, .slice K10 O2.n c10, .int .i64 O2.beat, .int .i64 O2.pu.wall, .int .i32 O2.pu.logic, .int .i32 O2.pu.tag] 30))); clear Xbc__10
          have Kbc_10 := Lib.hid (Kbc__10.out.next ((Below.refl v10.heap.size v10).alloc (Nat.le_refl _) (.cells #[.int .i32 O2.nd, .int .i32 O2.nu, .int .u8 O2.st, .int .i64 O2.at_.wall, .int .i32 O2.at_.logic, .int .i32 O2.at_.tag, .slice K10 O2.n c10, .int .i64 O2.beat, .int .i64 O2.pu.wall, .int .i32 O2.pu.logic, .int .i32 O2.pu.tag] 30))); clear Kbc__10
          have Xxb_10 := Lib.hid (Xxb__10.out.next ((Below.refl v10.heap.size v10).alloc (Nat.le_refl _) (.cells #[.int .i32 O2.nd, .int .i32 O2.nu, .int .u8 O2.st, .int .i64 O2.at_.wall, .int .i32 O2.at_.logic, .int .i32 O2.at_.tag, .slice K10 O2.n c10, .int .i64 O2.beat, .int .i64 O2.pu.wall, .int .i32 O2.pu.logic, .int .i32 O2.pu.tag] 30))); clear Xxb__10
          have Xbe_10 := Lib.hid (Xbe__10.out.next ((Below.refl v10.heap.size v10).alloc (Nat.le_refl _) (.cells #[.int .i32 O2.nd, .int .i32 O2.nu, .int .u8 O2.st, .int .i64 O2.at_.wall, .int .i32 O2.at_.logic, .int .i32 O2.at_.tag, .slice K10 O2.n c10, .int .i64 O2.beat, .int .i64 O2.pu.wall, .int .i32 O2.pu.logic, .int .i32 O2.pu.tag] 30))); clear Xbe__10
          have Kbe_10 := Lib.hid (Kbe__10.out.next ((Below.refl v10.heap.size v10).alloc (Nat.le_refl _) (.cells #[.int .i32 O2.nd, .int .i32 O2.nu, .int .u8 O2.st, .int .i64 O2.at_.wall, .int .i32 O2.at_.logic, .int .i32 O2.at_.tag, .slice K10 O2.n c10, .int .i64 O2.beat, .int .i64 O2.pu.wall, .int .i32 O2.pu.logic, .int .i32 O2.pu.tag] 30))); clear Kbe__10
          have Xbf_10 := Lib.hid (Xbf__10.out.next ((Below.refl v10.heap.size v10).alloc (Nat.le_refl _) (.cells #[.int .i32 O2.nd, .int .i32 O2.nu, .int .u8 O2.st, .int .i64 O2.at_.wall, .int .i32 O2.at_.logic, .int .i32 O2.at_.tag, .slice K10 O2.n c10, .int .i64 O2.beat, .int .i64 O2.pu.wall, .int .i32 O2.pu.logic, .int .i32 O2.pu.tag] 30))); clear Xbf__10
          have Kbf_10 := Lib.hid (Kbf__10.out.next ((Below.refl v10.heap.size v10).alloc (Nat.le_refl _) (.cells #[.int .i32 O2.nd, .int .i32 O2.nu, .int .u8 O2.st, .int .i64 O2.at_.wall, .int .i32 O2.at_.logic, .int .i32 O2.at_.tag, .slice K10 O2.n c10, .int .i64 O2.beat, .int .i64 O2.pu.wall, .int .i32 O2.pu.logic, .int .i32 O2.pu.tag] 30))); clear Kbf__10
          have Xbg_10 : Hid (BxQ (v10.alloc (.cells #[.int .i32 O2.nd, .int .i32 O2.nu, .int .u8 O2.st, .int .i64 O2.at_.wall, .int .i32 O2.at_.logic, .int .i32 O2.at_.tag, .slice K10 O2.n c10, .int .i64 O2.beat, .int .i64 O2.pu.wall, .int .i32 O2.pu.logic, .int .i32 O2.pu.tag] 30)) v10.heap.size (O2.to K10 c10)) := Lib.hid (BxQ.new v10 (O2.to K10 c10) 30)
          have Kbg_10 := Lib.hid (hk.next ((Below.refl v10.heap.size v10).alloc (Nat.le_refl _) (.cells #[.int .i32 O2.nd, .int .i32 O2.nu, .int .u8 O2.st, .int .i64 O2.at_.wall, .int .i32 O2.at_.logic, .int .i32 O2.at_.tag, .slice K10 O2.n c10, .int .i64 O2.beat, .int .i64 O2.pu.wall, .int .i32 O2.pu.logic, .int .i32 O2.pu.tag] 30)))
          clear hk hb
          have mbg : v10.heap.size < (v10.alloc (.cells #[.int .i32 O2.nd, .int .i32 O2.nu, .int .u8 O2.st, .int .i64 O2.at_.wall, .int .i32 O2.at_.logic, .int .i32 O2.at_.tag, .slice K10 O2.n c10, .int .i64 O2.beat, .int .i64 O2.pu.wall, .int .i32 O2.pu.logic, .int .i32 O2.pu.tag] 30)).heap.size := by simp
          generalize hw10 : (v10.alloc (.cells #[.int .i32 O2.nd, .int .i32 O2.nu, .int .u8 O2.st, .int .i64 O2.at_.wall, .int .i32 O2.at_.logic, .int .i32 O2.at_.tag, .slice K10 O2.n c10, .int .i64 O2.beat, .int .i64 O2.pu.wall, .int .i32 O2.pu.logic, .int .i32 O2.pu.tag] 30)) = w10 at *
          generalize hv10 : v10.heap.size = bg at *
          clear hw10 hv10
          obtain ⟨y0, y1, y2, y3, y4, y5, y6, y7, y8, y9, y10, y11, y12⟩ := P10.out.x
          try dsimp only [Rec.to] at y2 y3 y4 y5 y6 y7 y8 y9 y10 y11 y12
          go_wp2_with fail
          refine (G7.out _ P10.out).mono ?_
          rintro e v11 ⟨K11, c11, rfl, hk, hb⟩
          dsimp only [Rec.v, Rec.to]
          clear y0 y1 y2 y3 y4 y5 y6 y7 y8 y9 y10 y11 y12
          replace hk := hk.rdb
          have lbh : w10.heap.size ≤ v11.heap.size := hb.size
          have P_11 := Lib.hid (P10.out.next hb); clear P10
          have Xba__11 := Lib.hid (Xba_10.out.next hb); clear Xba_10
          have Kba__11 := Lib.hid (Kba_10.out.next hb); clear Kba_10
          have Xbc__11 := Lib.hid (Xbc_10.out.next hb); clear Xbc_10
          have Kbc__11 := Lib.hid (Kbc_10.out.next hb); clear Kbc_10
          have Xxb__11 := Lib.hid (Xxb_10.out.next hb); clear Xxb_10
          have Xbe__11 := Lib.hid (Xbe_10.out.next hb); clear Xbe_10
          have Kbe__11 := Lib.hid (Kbe_10.out.next hb); clear Kbe_10
          have Xbf__11 := Lib.hid (Xbf_10.out.next hb); clear Xbf_10
          have Kbf__11 := Lib.hid (Kbf_10.out.next hb); clear Kbf_10
          have Xbg__11 := Lib.hid (Xbg_10.out.next hb); clear Xbg_10
          have Kbg__11 := Lib.hid (Kbg_10.out.next hb); clear Kbg_10
          go_upto_region 19 with (fail)
          have P11 := Lib.hid (P_11.out.next ((Below.refl v11.heap.size v11).alloc (Nat.le_refl _) (.cells #[.int .i32 O7.nd, .int .i32 O7.nu, .int .u8 O7.st, .int .i64 O7.at_.wall, .int .i32 O7.at_.logic, .int .i32 O7.at_.tag, .slice K11 O7.n c11, .int .i64 O7.beat, .int .i64 O7.pu.wall, .int .i32 O7.pu.logic, .int .i32 O7.pu.tag] 30))); clear P_11
          have Xba_11 := Lib.hid (Xba__11.out.next ((Below.refl v11.heap.size v11).alloc (Nat.le_refl _) (.cells #[.int .i32 O7.nd, .int .i32 O7.nu, .int .u8 O7.st, .int .i64 O7.at_.wall, .int .i32 O7.at_.logic, .int .i32 O7.at_.tag, .slice K11 O7.n c11, .int .i64 O7.beat, .int .i64 O7.pu.wall, .int .i32 O7.pu.logic, .int .i32 O7.pu.tag] 30))); clear Xba__11
          have Kba_11 := Lib.hid (Kba__11.out.next ((Below.refl v11.heap.size v11).alloc (Nat.le_refl _) (.cells #[.int .i32 O7.nd, .int .i32 O7.nu, .int .u8 O7.st, .int .i64 O7.at_.wall, .int .i32 O7.at_.logic, .int .i32 O7.at_.tag, .slice K11 O7.n c11, .int .i64 O7.beat, .int .i64 O7.pu.wall, .int .i32 O7.pu.logic, .int .i32 O7.pu.tag] 30))); clear Kba__11
          have Xbc_11 := Lib.hid (Xbc__11.out.next ((Below.refl v11.heap.size v11).alloc (Nat.le_refl _) (.cells #[.int .i32 O7.nd, .int .i32 O7.nu, .int .u8 O7.st, .int .i64 O7.at_.wall, .int .i32 O7.at_.logic, .int .i32 O7.at_.tag, .slice K11 O7.n c11, .int .i64 O7.beat, .int .i64 O7.pu.wall, .int .i32 O7.pu.logic, .int .i32 O7.pu.tag] 30))); clear Xbc__11
          have Kbc_11 := Lib.hid (Kbc__11.out.next ((Below.refl v11.heap.size v11).alloc (Nat.le_refl _) (.cells #[.int .i32 O7.nd, .int .i32 O7.nu, .int .u8 O7.st, .int .i64 O7.at_.wall, .int .i32 O7.at_.logic, .int .i32 O7.at_.tag, .slice K11 O7.n c11, .int .i64 O7.beat, .int .i64 O7.pu.wall, .int .i32 O7.pu.logic, .int .i32 O7.pu.tag] 30))); clear Kbc__11
          have Xxb_11 := Lib.hid (Xxb__11.out.next ((Below.refl v11.heap.size v11).alloc (Nat.le_refl _) (.cells #[.int .i32 O7.nd, .int .i32 O7.nu, .int .u8 O7.st, .int .i64 O7.at_.wall, .int .i32 O7.at_.logic, .int .i32 O7.at_.tag, .slice K11 O7.n c11, .int .i64 O7.beat, .int .i64 O7.pu.wall, .int .i32 O7.pu.logic, .int .i32 O7.pu.tag] 30))); clear Xxb__11
          have Xbe_11 := Lib.hid (Xbe__11.out.next ((Below.refl v11.heap.size v11).alloc (Nat.le_refl _) (.cells #[.int .i32 O7.nd, .int .i32 O7.nu, .int .u8 O7.st, .int .i64 O7.at_.wall, .int .i32 O7.at_.logic, .int .i32 O7.at_.tag, .slice K11 O7.n c11, .int .i64 O7.beat, .int .i64 O7.pu.wall, .int .i32 O7.pu.logic, .int .i32 O7.pu.tag] 30))); clear Xbe__11
          have Kbe_11 := Lib.hid (Kbe__11.out.next ((Below.refl v11.heap.size v11).alloc (Nat.le_refl _) (.cells #[.int .i32 O7.nd, .int .i32 O7.nu, .int .u8 O7.st, .int .i64 O7.at_.wall, .int .i32 O7.at_.logic, .int .i32 O7.at_.tag, .slice K11 O7.n c11, .int .i64 O7.beat, .int .i64 O7.pu.wall, .int .i32 O7.pu.logic, .int .i32 O7.pu.tag] 30))); clear Kbe__11
          have Xbf_11 := Lib.hid (Xbf__11.out.next ((Below.refl v11.heap.size v11).alloc (Nat.le_refl _) (.cells #[.int .i32 O7.nd, .int .i32 O7.nu, .int .u8 O7.st, .int .i64 O7.at_.wall, .int .i32 O7.at_.logic, .int .i32 O7.at_.tag, .slice K11 O7.n c11, .int .i64 O7.beat, .int .i64 O7.pu.wall, .int .i32 O7.pu.logic, .int .i32 O7.pu.tag] 30))); clear Xbf__11
          have Kbf_11 := Lib.hid (Kbf__11.out.next ((Below.refl v11.heap.size v11).alloc (Nat.le_refl _) (.cells #[.int .i32 O7.nd, .int .i32 O7.nu, .int .u8 O7.st, .int .i64 O7.at_.wall, .int .i32 O7.at_.logic, .int .i32 O7.at_.tag, .slice K11 O7.n c11, .int .i64 O7.beat, .int .i64 O7.pu.wall, .int .i32 O7.pu.logic, .int .i32 O7.pu.tag] 30))); clear Kbf__11
          have Xbg_11 := Lib.hid (Xbg__11.out.next ((Below.refl v11.heap.size v11).alloc (Nat.le_refl _) (.cells #[.int .i32 O7.nd, .int .i32 O7.nu, .int .u8 O7.st, .int .i64 O7.at_.wall, .int .i32 O7.at_.logic, .int .i32 O7.at_.tag, .slice K11 O7.n c11, .int .i64 O7.beat, .int .i64 O7.pu.wall, .int .i32 O7.pu.logic, .int .i32 O7.pu.tag] 30))); clear Xbg__11
          have Kbg_11 := Lib.hid (Kbg__11.out.next ((Below.refl v11.heap.size v11).alloc (Nat.le_refl _) (.cells #[.int .i32 O7.nd, .int .i32 O7.nu, .int .u8 O7.st, .int .i64 O7.at_.wall, .int .i32 O7.at_.logic, .int .i32 O7.at_.tag, .slice K11 O7.n c11, .int .i64 O7.beat, .int .i64 O7.pu.wall, .int .i32 O7.pu.logic, .int .i32 O7.pu.tag] 30))); clear Kbg__11
          have Xbh_11 : Hid (BxQ (v11.alloc (.cells #[.int .i32 O7.nd, .int .i32 O7.nu, .int .u8 O7.st, .int .i64 O7.at_.wall, .int .i32 O7.at_.logic, .int .i32 O7.at_.tag, .slice K11 O7.n c11, .int .i64 O7.beat, .int .i64 O7.pu.wall, .int .i32 O7.pu.logic, .int .i32 O7.pu.tag] 30)) v11.heap.size (O7.to K11 c11)) := Lib.hid (BxQ.new v11 (O7.to K11 c11) 30)
          have Kbh_11 := Lib.hid (hk.next ((Below.refl v11.heap.size v11).alloc (Nat.le_refl _) (.cells #[.int .i32 O7.nd, .int .i32 O7.nu, .int .u8 O7.st, .int .i64 O7.at_.wall, .int .i32 O7.at_.logic, .int .i32 O7.at_.tag, .slice K11 O7.n c11, .int .i64 O7.beat, .int .i64 O7.pu.wall, .int .i32 O7.pu.logic, .int .i32 O7.pu.tag] 30)))
          clear hk hb
          have mbh : v11.heap.size < (v11.alloc (.cells #[.int .i32 O7.nd, .int .i32 O7.nu, .int .u8 O7.st, .int .i64 O7.at_.wall, .int .i32 O7.at_.logic, .int .i32 O7.at_.tag, .slice K11 O7.n c11, .int .i64 O7.beat, .int .i64 O7.pu.wall, .int .i32 O7.pu.logic, .int .i32 O7.pu.tag] 30)).heap.size := by simp
          generalize hw11 : (v11.alloc (.cells #[.int .i32 O7.nd, .int .i32 O7.nu, .int .u8 O7.st, .int .i64 O7.at_.wall, .int .i32 O7.at_.logic, .int .i32 O7.at_.tag, .slice K11 O7.n c11, .int .i64 O7.beat, .int .i64 O7.pu.wall, .int .i32 O7.pu.logic, .int .i32 O7.pu.tag] 30)) = w11 at *
          generalize hv11 : v11.heap.size = bh at *
          clear hw11 hv11
          have T1 := Lib.hid (fun W' hb => same_is (c := c3) (c' := c9) Kba_11.out Kbf_11.out fit1.out nb1.out W' hb)
          have T2 := Lib.hid (fun W' hb => same_is (c := c4) (c' := c10) Kbc_11.out Kbg_11.out fit2.out nb2.out W' hb)
          have T7 := Lib.hid (fun W' hb => same_is (c := c6) (c' := c11) Kbe_11.out Kbh_11.out fit7.out nb7.out W' hb)
          have D0 : Hid (Below w11.heap.size w11 w11) := Lib.hid (Below.refl _ _)
          cases e1 : (E1 != 0)
          · skip
            obtain ⟨a0, a1, a2, a3, a4, a5, a6, a7, a8, a9, a10, a11, a12⟩ := (Xba_11.out.next D0.out)
            try dsimp only [Rec.to] at a2 a3 a4 a5 a6 a7 a8 a9 a10 a11 a12
            obtain ⟨b0, b1, b2, b3, b4, b5, b6, b7, b8, b9, b10, b11, b12⟩ := (Xbf_11.out.next D0.out)
            try dsimp only [Rec.to] at b2 b3 b4 b5 b6 b7 b8 b9 b10 b11 b12
            go_wp2_with fail
            refine (T1.out _ D0.out).mono ?_
            rintro e u1 ⟨rfl, hb⟩
            clear a0 a1 a2 a3 a4 a5 a6 a7 a8 a9 a10 a11 a12 b0 b1 b2 b3 b4 b5 b6 b7 b8 b9 b10 b11 b12
            have D1 := Lib.hid (Below.trans D0.out (hb.mono (Below.size D0.out))); clear hb
            cases e2 : (E2 != 0)
            · skip
              obtain ⟨a0, a1, a2, a3, a4, a5, a6, a7, a8, a9, a10, a11, a12⟩ := (Xbc_11.out.next D1.out)
              try dsimp only [Rec.to] at a2 a3 a4 a5 a6 a7 a8 a9 a10 a11 a12
              obtain ⟨b0, b1, b2, b3, b4, b5, b6, b7, b8, b9, b10, b11, b12⟩ := (Xbg_11.out.next D1.out)
              try dsimp only [Rec.to] at b2 b3 b4 b5 b6 b7 b8 b9 b10 b11 b12
              go_wp2_with fail
              refine (T2.out _ D1.out).mono ?_
              rintro e u2 ⟨rfl, hb⟩
              clear a0 a1 a2 a3 a4 a5 a6 a7 a8 a9 a10 a11 a12 b0 b1 b2 b3 b4 b5 b6 b7 b8 b9 b10 b11 b12
              have D2 := Lib.hid (Below.trans D1.out (hb.mono (Below.size D1.out))); clear hb
              cases e7 : (E7 != 0)
              · skip
                obtain ⟨a0, a1, a2, a3, a4, a5, a6, a7, a8, a9, a10, a11, a12⟩ := (Xbe_11.out.next D2.out)
                try dsimp only [Rec.to] at a2 a3 a4 a5 a6 a7 a8 a9 a10 a11 a12
                obtain ⟨b0, b1, b2, b3, b4, b5, b6, b7, b8, b9, b10, b11, b12⟩ := (Xbh_11.out.next D2.out)
                try dsimp only [Rec.to] at b2 b3 b4 b5 b6 b7 b8 b9 b10 b11 b12
                go_wp2_with fail
                refine (T7.out _ D2.out).mono ?_
                rintro e u7 ⟨rfl, hb⟩
                clear a0 a1 a2 a3 a4 a5 a6 a7 a8 a9 a10 a11 a12 b0 b1 b2 b3 b4 b5 b6 b7 b8 b9 b10 b11 b12
                have D7 := Lib.hid (Below.trans D2.out (hb.mono (Below.size D2.out))); clear hb
                go_wp2_with fail
                go_ret
                exact ⟨rfl, (P11.out.next D7.out).bel⟩
              · skip
                go_wp2_with fail
                go_ret
                exact ⟨rfl, (P11.out.next D2.out).bel⟩
            · skip
              cases e7 : (E7 != 0)
              · skip
                obtain ⟨a0, a1, a2, a3, a4, a5, a6, a7, a8, a9, a10, a11, a12⟩ := (Xbe_11.out.next D1.out)
                try dsimp only [Rec.to] at a2 a3 a4 a5 a6 a7 a8 a9 a10 a11 a12
                obtain ⟨b0, b1, b2, b3, b4, b5, b6, b7, b8, b9, b10, b11, b12⟩ := (Xbh_11.out.next D1.out)
                try dsimp only [Rec.to] at b2 b3 b4 b5 b6 b7 b8 b9 b10 b11 b12
                go_wp2_with fail
                refine (T7.out _ D1.out).mono ?_
                rintro e u7 ⟨rfl, hb⟩
                clear a0 a1 a2 a3 a4 a5 a6 a7 a8 a9 a10 a11 a12 b0 b1 b2 b3 b4 b5 b6 b7 b8 b9 b10 b11 b12
                have D7 := Lib.hid (Below.trans D1.out (hb.mono (Below.size D1.out))); clear hb
                go_wp2_with fail
                go_ret
                exact ⟨rfl, (P11.out.next D7.out).bel⟩
              · skip
                go_wp2_with fail
                go_ret
                exact ⟨rfl, (P11.out.next D1.out).bel⟩
          · skip
            cases e2 : (E2 != 0)
            · skip
              obtain ⟨a0, a1, a2, a3, a4, a5, a6, a7, a8, a9, a10, a11, a12⟩ := (Xbc_11.out.next D0.out)
              try dsimp only [Rec.to] at a2 a3 a4 a5 a6 a7 a8 a9 a10 a11 a12
              obtain ⟨b0, b1, b2, b3, b4, b5, b6, b7, b8, b9, b10, b11, b12⟩ := (Xbg_11.out.next D0.out)
              try dsimp only [Rec.to] at b2 b3 b4 b5 b6 b7 b8 b9 b10 b11 b12
              go_wp2_with fail
              refine (T2.out _ D0.out).mono ?_
              rintro e u2 ⟨rfl, hb⟩
              clear a0 a1 a2 a3 a4 a5 a6 a7 a8 a9 a10 a11 a12 b0 b1 b2 b3 b4 b5 b6 b7 b8 b9 b10 b11 b12
              have D2 := Lib.hid (Below.trans D0.out (hb.mono (Below.size D0.out))); clear hb
              cases e7 : (E7 != 0)
              · skip
                obtain ⟨a0, a1, a2, a3, a4, a5, a6, a7, a8, a9, a10, a11, a12⟩ := (Xbe_11.out.next D2.out)
                try dsimp only [Rec.to] at a2 a3 a4 a5 a6 a7 a8 a9 a10 a11 a12
                obtain ⟨b0, b1, b2, b3, b4, b5, b6, b7, b8, b9, b10, b11, b12⟩ := (Xbh_11.out.next D2.out)
                try dsimp only [Rec.to] at b2 b3 b4 b5 b6 b7 b8 b9 b10 b11 b12
                go_wp2_with fail
                refine (T7.out _ D2.out).mono ?_
                rintro e u7 ⟨rfl, hb⟩
                clear a0 a1 a2 a3 a4 a5 a6 a7 a8 a9 a10 a11 a12 b0 b1 b2 b3 b4 b5 b6 b7 b8 b9 b10 b11 b12
                have D7 := Lib.hid (Below.trans D2.out (hb.mono (Below.size D2.out))); clear hb
                go_wp2_with fail
                go_ret
                exact ⟨rfl, (P11.out.next D7.out).bel⟩
              · skip
                go_wp2_with fail
                go_ret
                exact ⟨rfl, (P11.out.next D2.out).bel⟩
            · skip
              cases e7 : (E7 != 0)
              · skip
                obtain ⟨a0, a1, a2, a3, a4, a5, a6, a7, a8, a9, a10, a11, a12⟩ := (Xbe_11.out.next D0.out)
                try dsimp only [Rec.to] at a2 a3 a4 a5 a6 a7 a8 a9 a10 a11 a12
                obtain ⟨b0, b1, b2, b3, b4, b5, b6, b7, b8, b9, b10, b11, b12⟩ := (Xbh_11.out.next D0.out)
                try dsimp only [Rec.to] at b2 b3 b4 b5 b6 b7 b8 b9 b10 b11 b12
                go_wp2_with fail
                refine (T7.out _ D0.out).mono ?_
                rintro e u7 ⟨rfl, hb⟩
                clear a0 a1 a2 a3 a4 a5 a6 a7 a8 a9 a10 a11 a12 b0 b1 b2 b3 b4 b5 b6 b7 b8 b9 b10 b11 b12
                have D7 := Lib.hid (Below.trans D0.out (hb.mono (Below.size D0.out))); clear hb
                go_wp2_with fail
                go_ret
                exact ⟨rfl, (P11.out.next D7.out).bel⟩
              · skip
                go_wp2_with fail
                go_ret
                exact ⟨rfl, (P11.out.next D0.out).bel⟩
end Go.Proofs.Ythigmjcepbgljaa
