/- The walk: whatever answers a recovery gets, one by one, it wants and tells what the document says. -/
import Derived.Test.YthigmjcepbgljaaYd
import Derived.Test.YthigmjcepbgljaaYe
import Derived.Test.YthigmjcepbgljaaWj
import Derived.Test.YthigmjcepbgljaaWh
import Derived.Test.YthigmjcepbgljaaWk
import Derived.Test.YthigmjcepbgljaaVq
import Derived.Test.YthigmjcepbgljaaOans
import Derived.Deep.CutRange
namespace Go.Proofs.Ythigmjcepbgljaa
open Go.RowKit Go.St
set_option linter.unusedVariables false
set_option linter.unusedSimpArgs false
set_option maxRecDepth 100000

theorem rise_of {r : Rec} (h : newE r = 0) : riseB r.l = true := by
  obtain ⟨h1, h2, _, _⟩ := newE_st h
  unfold chkR at h1
  split at h1
  · cases h1
  · split at h1
    · rename_i k
      unfold okR at k
      rw [h2] at k
      simp at k
      exact k.2.2
    · cases h1
theorem BxQ.setK {W : World} {b : Nat} {r : Rec} (h : BxQ W b r) (A : Option Addr) (c : Nat) : BxQ (W.setCell ⟨b, 6, none⟩ (.slice A r.n c)) b (r.to A c) := by
  obtain ⟨x0, x1, x2, x3, x4, x5, x6, x7, x8, x9, x10, x11, x12⟩ := h
  constructor <;> first | (intro o; simp [x1]) | simp [Rec.to, go_sem, *]
/-- An answer's cells within their list. -/
structure AnI (W : World) (b o : Nat) (s : AnsL) : Prop where
  c0 : W.cell? ⟨b, o, none⟩ = some (.string s.k)
  c1 : W.cell? ⟨b, o + 1, none⟩ = some (.bool s.y)
theorem ans_at {w : World} {B : Nat} {A : Option Addr} {l : List AnsL} (h : Rd w B A (l.map ansCells).flatten) (j : Nat) (s : AnsL) (hj : l[j]? = some s) :
    ∃ b off, A = some ⟨b, off, none⟩ ∧ b < B ∧ AnI w b (off + j * 2) s := by
  have hg : ∀ (i : Nat) (v : Value), (ansCells s)[i]? = some v → (l.map ansCells).flatten[j * 2 + i]? = some v := fun i v hv =>
    flatten_get (n := 2) (l.map ansCells) (fun c hc => by obtain ⟨x, _, rfl⟩ := List.mem_map.1 hc; rfl) j i (ansCells s) v (by rw [List.getElem?_map, hj]; rfl) hv
  obtain ⟨b, off, e, hb, h0⟩ := h.at_ (hg 0 _ rfl)
  subst e
  have hc : ∀ (i : Nat) (v : Value), (ansCells s)[i]? = some v → w.cell? ⟨b, off + j * 2 + i, none⟩ = some v := fun i v hv => by
    obtain ⟨b', off', e', _, h'⟩ := h.at_ (hg i _ hv)
    injection e' with e'
    injection e' with e1 e2
    subst e1 e2
    rw [Nat.add_assoc]
    exact h'
  exact ⟨b, off, rfl, hb, hc 0 _ rfl, hc 1 _ rfl⟩
theorem AnI.keep {W W' : World} {b o : Nat} {s : AnsL} (h : AnI W b o s) (hc : ∀ p : Addr, p.block = b → W'.cell? p = W.cell? p) : AnI W' b o s := ⟨(hc _ rfl).trans h.c0, (hc _ rfl).trans h.c1⟩
theorem AnI.below {W W' : World} {B b o : Nat} {s : AnsL} (h : AnI W b o s) (hb : Below B W W') (hB : b < B) : AnI W' b o s := h.keep (fun p hp => hb.cell (by rw [hp]; exact hB))
theorem not_some {j k : Nat} (h : j ≠ k) : some j ≠ some k := fun e => h (by injection e)
/-- Both works, side by side. -/
structure Wks (wA W : World) (M b g b' g' y' : Nat) (r : Rec) (ans ans' : List Int) : Prop where
  bel : Below wA.heap.size wA W
  ex : ∃ lo hi lo' hi' A c A' c', WkB W lo hi b g (r.to A c) ans ∧ RkB W lo' hi' b' g' y' (r.to A' c') ans' ∧ hi ≤ lo' ∧ wA.heap.size ≤ lo ∧ M ≤ lo
theorem Wks.next {wA W W' : World} {M b g b' g' y' : Nat} {r : Rec} {ans ans' : List Int} (h : Wks wA W M b g b' g' y' r ans ans') (hb : Below W.heap.size W W') : Wks wA W' M b g b' g' y' r ans ans' := by
  obtain ⟨h0, lo, hi, lo', hi', A, c, A', c', h1, h2, h3, h4⟩ := h
  exact ⟨h0.trans (hb.mono h0.size), lo, hi, lo', hi', A, c, A', c', h1.next hb, h2.next hb, h3, h4⟩
theorem Wks.grown {wA W W' : World} {M b g b' g' y' k : Nat} {r : Rec} {ans ans' : List Int} (h : Wks wA W M b g b' g' y' r ans ans') (hg : W.grownBy W' (some k)) (hk : wA.heap.size ≤ k) (hM : k < M) : Wks wA W' M b g b' g' y' r ans ans' := by
  obtain ⟨h0, lo, hi, lo', hi', A, c, A', c', h1, h2, h3, h4, h5⟩ := h
  have z1 := h1.hh
  have z2 := h2.hh
  have z3 := h1.bl
  refine ⟨h0.grown hg h0.size (fun j e => by cases e; exact hk), lo, hi, lo', hi', A, c, A', c', h1.keep hg.size (fun j o hj1 hj2 => ?_) (fun j o hj1 hj2 => ?_), h2.keep hg.size (fun j o hj1 hj2 => ?_) (fun j o hj1 hj2 => ?_), h3, h4, h5⟩
  · exact World.grownBy.cell_far hg ⟨j, o, none⟩ (by show j < _; omega) (not_some (by first | omega | (show _ ≠ _; omega) | (dsimp only; omega)))
  · exact World.grownBy.frozen_far hg ⟨j, o, none⟩ (by show j < _; omega) (not_some (by first | omega | (show _ ≠ _; omega) | (dsimp only; omega)))
  · exact World.grownBy.cell_far hg ⟨j, o, none⟩ (by show j < _; omega) (not_some (by first | omega | (show _ ≠ _; omega) | (dsimp only; omega)))
  · exact World.grownBy.frozen_far hg ⟨j, o, none⟩ (by show j < _; omega) (not_some (by first | omega | (show _ ≠ _; omega) | (dsimp only; omega)))
theorem wks_got {wA W : World} {M b g b' g' y' : Nat} {r : Rec} {ans ans' : List Int} (h : Wks wA W M b g b' g' y' r ans ans') (key : ByteArray) (yes : Bool) :
    Calls Try.prog 12 #[.pointer (some ⟨b, 0, none⟩), .string key, .bool yes] W fun e w' => e = .returned (.int .i64 (gotE r.l ans key)) ∧ Below wA.heap.size W w' ∧ Wks wA w' M b g b' g' y' r (gotA r.l ans key yes) ans' := by
  obtain ⟨h0, lo, hi, lo', hi', A, c, A', c', h1, h2, h3, h4⟩ := h
  refine (got_any (r := r.to A c) key yes W h1).mono ?_
  rintro e w' ⟨rfl, ho, hw⟩
  have hg := h1.gl
  have hh := h1.hh
  refine ⟨rfl, (ho.mono h0.size).to_below (by omega), ⟨h0.trans ((ho.mono h0.size).to_below (by omega)), lo, hi, lo', hi', A, c, A', c', hw, h2.keep ho.size (fun k o hk1 hk2 => ?_) (fun k o hk1 hk2 => ?_), h3, h4⟩⟩
  · have := h2.hh
    exact ho.cell (p := ⟨k, o, none⟩) (by show k < _; omega) (by show k ≠ _; omega)
  · have := h2.hh
    exact ho.frozen (p := ⟨k, o, none⟩) (by show k < _; omega) (by show k ≠ _; omega)
theorem wks_rgot {wA W : World} {M b g b' g' y' : Nat} {r : Rec} {ans ans' : List Int} (h : Wks wA W M b g b' g' y' r ans ans') (hri : riseB r.l = true) (key : ByteArray) (yes : Bool) :
    Calls Try.prog 22 #[.pointer (some ⟨b', 0, none⟩), .string key, .bool yes] W fun e w' => e = .returned (.int .i64 (gotE r.l ans' key)) ∧ Below wA.heap.size W w' ∧ Wks wA w' M b g b' g' y' r ans (gotA r.l ans' key yes) := by
  obtain ⟨h0, lo, hi, lo', hi', A, c, A', c', h1, h2, h3, h4⟩ := h
  refine (rgot_any (r := r.to A' c') key yes hri W h2).mono ?_
  rintro e w' ⟨rfl, ho, hw⟩
  have hg := h2.gl
  have hy := h2.yl
  have hh := h1.bl
  have hb9 : Below wA.heap.size W w' := (ho.mono h0.size).to_below (by omega) (by omega)
  refine ⟨rfl, hb9, ⟨h0.trans hb9, lo, hi, lo', hi', A, c, A', c', h1.keep ho.size (fun k o hk1 hk2 => ?_) (fun k o hk1 hk2 => ?_), hw, h3, h4⟩⟩
  · have := h1.hh
    exact ho.cell (p := ⟨k, o, none⟩) (by show k < _; omega) (by show k ≠ _; omega) (by show k ≠ _; omega)
  · have := h1.hh
    exact ho.frozen (p := ⟨k, o, none⟩) (by show k < _; omega) (by show k ≠ _; omega) (by show k ≠ _; omega)
theorem wks_want {wA W : World} {M b g b' g' y' : Nat} {r : Rec} {ans ans' : List Int} (h : Wks wA W M b g b' g' y' r ans ans') :
    Calls Try.prog 13 #[.pointer (some ⟨b, 0, none⟩)] W (OutS (wantF r.l ans).length (wantF r.l ans) W) := by
  obtain ⟨h0, lo, hi, lo', hi', A, c, A', c', h1, h2, h3, h4⟩ := h
  exact want_any (r := r.to A c) W h1
theorem wks_rwant {wA W : World} {M b g b' g' y' : Nat} {r : Rec} {ans ans' : List Int} (h : Wks wA W M b g b' g' y' r ans ans') :
    Calls Try.prog 24 #[.pointer (some ⟨b', 0, none⟩)] W (OutS (wantF r.l ans').length (wantF r.l ans') W) := by
  obtain ⟨h0, lo, hi, lo', hi', A, c, A', c', h1, h2, h3, h4⟩ := h
  exact rwant_any (r := r.to A' c') W h2
theorem wks_done {wA W : World} {M b g b' g' y' : Nat} {r : Rec} {ans ans' : List Int} (h : Wks wA W M b g b' g' y' r ans ans') :
    Calls Try.prog 11 #[.pointer (some ⟨b, 0, none⟩)] W fun e w' => e = .returned (.tuple #[.bool (wholeB ans), .bool (doneB ans)]) ∧ W = w' := by
  obtain ⟨h0, lo, hi, lo', hi', A, c, A', c', h1, h2, h3, h4⟩ := h
  exact done_any W h1
theorem wks_rdone {wA W : World} {M b g b' g' y' : Nat} {r : Rec} {ans ans' : List Int} (h : Wks wA W M b g b' g' y' r ans ans') :
    Calls Try.prog 25 #[.pointer (some ⟨b', 0, none⟩)] W fun e w' => e = .returned (.tuple #[.bool (wholeB ans'), .bool (doneB ans')]) ∧ W = w' := by
  obtain ⟨h0, lo, hi, lo', hi', A, c, A', c', h1, h2, h3, h4⟩ := h
  exact rdone_any W h2
theorem wks_rec {wA W : World} {M b g b' g' y' : Nat} {r : Rec} {ans ans' : List Int} (h : Wks wA W M b g b' g' y' r ans ans') : Calls Try.prog 15 #[.pointer (some ⟨b, 0, none⟩)] W fun e w' => ∃ A c, e = .returned (.agg #[.int .i32 r.nd, .int .i32 r.nu, .int .u8 r.st, .int .i64 r.at_.wall, .int .i32 r.at_.logic, .int .i32 r.at_.tag, .slice A r.n c, .int .i64 r.beat, .int .i64 r.pu.wall, .int .i32 r.pu.logic, .int .i32 r.pu.tag]) ∧ RdF w' W.heap.size A (sv r.l) ∧ Below W.heap.size W w' := by
  obtain ⟨h0, lo, hi, lo', hi', A, c, A', c', h1, h2, h3, h4⟩ := h
  exact wrecF_any (r := r.to A c) W h1
/-- The record that came in, the record that is lent, its keys. -/
structure Cy (wA W : World) (B b0 lb g c2 : Nat) (r : Rec) (ys : List ByteArray) : Prop where
  bel : Below wA.heap.size wA W
  x : BxQ W b0 r
  l : BxQ W lb (r.to (some ⟨g, 0, none⟩) c2)
  own : W.ownsRow B 9 1 (.slice (some ⟨g, 0, none⟩) (r.n + 1) c2) (r.n + 1) (sv ys)
theorem Cy.next {wA W W' : World} {B b0 lb g c2 : Nat} {r : Rec} {ys : List ByteArray} (h : Cy wA W B b0 lb g c2 r ys) (hb : Below W.heap.size W W') : Cy wA W' B b0 lb g c2 r ys :=
  ⟨h.bel.trans (hb.mono h.bel.size), h.x.next hb, h.l.next hb, own_keep h.own hb (Nat.le_refl _)⟩
theorem Cy.rd {wA W : World} {B b0 lb g c2 : Nat} {r : Rec} {l : List ByteArray} (h : Cy wA W B b0 lb g c2 r (l ++ [⟨#[98, 101, 104, 105, 110, 100]⟩])) : Rd W W.heap.size (some ⟨g, 0, none⟩) (sv l) := by
  have := (Rd.own h.own).take (sv l).length
  rwa [show sv (l ++ [⟨#[98, 101, 104, 105, 110, 100]⟩]) = sv l ++ [.string ⟨#[98, 101, 104, 105, 110, 100]⟩] by simp [sv], List.take_left'] at this
  rfl
theorem svs_set (l : List ByteArray) (k : Nat) (b : ByteArray) : (sv l).set k (.string b) = sv (l.set k b) := by simp [sv, List.map_set]
/-- Texts in a block that may be written. -/
structure LyF (W : World) (kb off : Nat) (ys : List ByteArray) : Prop where
  c : ∀ i v, (sv ys)[i]? = some v → W.cell? ⟨kb, off + i, none⟩ = some v
  f : ∀ i v, (sv ys)[i]? = some v → W.frozen? ⟨kb, off + i, none⟩ = false
theorem LyF.put {W : World} {kb off : Nat} {ys : List ByteArray} (h : LyF W kb off ys) (k : Nat) (hk : k < ys.length) (s : ByteArray) : LyF (W.setCell ⟨kb, off + k, none⟩ (.string s)) kb off (ys.set k s) := by
  have hl : (sv (ys.set k s)).length = ys.length := by rw [sv_length, List.length_set]
  constructor
  · intro i v hv
    by_cases e : i = k
    · subst e
      rw [sv_get _ i (by rw [List.length_set]; exact hk)] at hv
      simp at hv
      subst hv
      have h1 := h.c i _ (sv_get ys i hk)
      exact World.cell?_setCell_same _ _ _ h1
    · rw [World.cell?_setCell_other W _ _ _ (fun e2 => e (by have := congrArg Addr.off e2; simp at this; omega))]
      refine h.c i v ?_
      rw [← svs_set, List.getElem?_set_ne (Ne.symm e)] at hv
      exact hv
  · intro i v hv
    have hi : i < ys.length := by
      have := (List.getElem?_eq_some_iff.1 hv).1
      omega
    have := h.f i _ (sv_get ys i hi)
    simpa using this
theorem eq_texts {A A' : Option Addr} {n c c' : Nat} {l : List ByteArray} (hl : l.length = n) (hn : n ≤ 9223372036854775807) (B B' : Nat) (w : World) (h : Rd w B A (sv l)) (h' : Rd w B' A' (sv l)) :
    Calls Try.prog 23 #[.slice A n c, .slice A' n c'] w fun e w' => e = .returned (.bool true) ∧ ∃ m, w' = w.drewN m := by
  refine (ktexts_any A A' n n c c' B B' l l hl hl hn w h h').mono ?_
  rintro e w' ⟨rfl, hm⟩
  refine ⟨?_, hm⟩
  have : eqL l l = true := by unfold eqL; simp
  rw [this]
set_option maxHeartbeats 12800000 in
theorem recoveryScript_walk (w : World) (r : Rec) (hl : fit r) (hn : (r.n + 1) * 16 ≤ 140737488355328) (hr : Rd w w.heap.size r.A (sv r.l)) (Al : Option Addr) (nl cl : Nat) (al : List AnsL) (hal : al.length = nl) (hra : Rd w w.heap.size Al (al.map ansCells).flatten)
    (sm : Bool) (At : Option Addr) (nt ct : Nat) (th : List Bool) (ht : th.length = nt) (hnt : nt ≤ 140737488355328) (hrt : Rd w w.heap.size At (lv th)) :
    Calls Try.prog 5 #[r.v, .slice Al nl cl, .bool sm, .slice At nt ct] w fun e w' => e = .returned (.bool true) ∧ Below w.heap.size w w' := by
  have HR := Lib.hid (fun W (h : Below w.heap.size w W) => hr.below h)
  have HLA := Lib.hid (fun W (h : Below w.heap.size w W) => hra.below h)
  have HT := Lib.hid (fun W (h : Below w.heap.size w W) => hrt.below h)
  have HAL := Lib.hid hal; have HTL := Lib.hid ht; have HLR := Lib.hid hl
  have HE : Hid (newE r = 0 ∨ newE r ≠ 0) := Lib.hid (by omega)
  clear hr hra hrt hal ht hl
  unfold Rec.v
  go_enter Try.func5, Try.ntmps5
  go_wp2_with fail
  refine (lives29_any _).mono ?_
  rintro e w1 ⟨rfl, hb⟩
  have XA := BxQ.new w r 30
  have BA : Below w.heap.size w (w.alloc (.cells #[.int .i32 r.nd, .int .i32 r.nu, .int .u8 r.st, .int .i64 r.at_.wall, .int .i32 r.at_.logic, .int .i32 r.at_.tag, .slice r.A r.n r.c, .int .i64 r.beat, .int .i64 r.pu.wall, .int .i32 r.pu.logic, .int .i32 r.pu.tag] 30)) := (Below.refl _ _).alloc (Nat.le_refl _) _
  generalize hwA : w.alloc (.cells #[.int .i32 r.nd, .int .i32 r.nu, .int .u8 r.st, .int .i64 r.at_.wall, .int .i32 r.at_.logic, .int .i32 r.at_.tag, .slice r.A r.n r.c, .int .i64 r.beat, .int .i64 r.pu.wall, .int .i32 r.pu.logic, .int .i32 r.pu.tag] 30) = wA at *
  obtain ⟨b0, hb0⟩ : ∃ b, b = w.heap.size := ⟨_, rfl⟩
  rw [← hb0] at XA ⊢
  clear hwA
  have b0l : w.heap.size ≤ b0 := by omega
  have b0A : b0 < wA.heap.size := XA.lt
  have BA := Lib.hid BA; have XA := Lib.hid XA
  clear hb0
  by_cases h100 : nl ≤ 100
  · skip
    have i100 : ¬ ((100 : Int) < (nl : Int)) := by omega
    have D1 := Lib.hid hb
    have X1 := Lib.hid (XA.out.next hb)
    clear hb
    obtain ⟨x0, x1, x2, x3, x4, x5, x6, x7, x8, x9, x10, x11, x12⟩ := X1.out
    try dsimp only [Rec.to] at x2 x3 x4 x5 x6 x7 x8 x9 x10 x11 x12
    go_upto_region 6 with (fail)
    have D5 : Hid (Below wA.heap.size wA (w1.alloc (.cells #[.int .i32 r.nd, .int .i32 r.nu, .int .u8 r.st, .int .i64 r.at_.wall, .int .i32 r.at_.logic, .int .i32 r.at_.tag, .slice r.A r.n r.c, .int .i64 r.beat, .int .i64 r.pu.wall, .int .i32 r.pu.logic, .int .i32 r.pu.tag] 30))) := Lib.hid (D1.out.alloc D1.out.size _)
    have L5 : Hid (BxQ (w1.alloc (.cells #[.int .i32 r.nd, .int .i32 r.nu, .int .u8 r.st, .int .i64 r.at_.wall, .int .i32 r.at_.logic, .int .i32 r.at_.tag, .slice r.A r.n r.c, .int .i64 r.beat, .int .i64 r.pu.wall, .int .i32 r.pu.logic, .int .i32 r.pu.tag] 30)) w1.heap.size r) := Lib.hid (BxQ.new w1 r 30)
    have X5 : Hid (BxQ (w1.alloc (.cells #[.int .i32 r.nd, .int .i32 r.nu, .int .u8 r.st, .int .i64 r.at_.wall, .int .i32 r.at_.logic, .int .i32 r.at_.tag, .slice r.A r.n r.c, .int .i64 r.beat, .int .i64 r.pu.wall, .int .i32 r.pu.logic, .int .i32 r.pu.tag] 30)) b0 r) := Lib.hid (X1.out.next ((Below.refl _ _).alloc (Nat.le_refl _) _))
    clear x0 x1 x2 x3 x4 x5 x6 x7 x8 x9 x10 x11 x12 X1
    have lbA : wA.heap.size ≤ w1.heap.size := D1.out.size
    clear D1
    generalize hw5 : w1.alloc (.cells #[.int .i32 r.nd, .int .i32 r.nu, .int .u8 r.st, .int .i64 r.at_.wall, .int .i32 r.at_.logic, .int .i32 r.at_.tag, .slice r.A r.n r.c, .int .i64 r.beat, .int .i64 r.pu.wall, .int .i32 r.pu.logic, .int .i32 r.pu.tag] 30) = W0 at *
    generalize hlb : w1.heap.size = lb at *
    clear hw5 hlb w1
    have hb0 : b0 < W0.heap.size := X5.out.lt
    have hb1 : lb < W0.heap.size := L5.out.lt
    have x8 := X5.out.c6
    have D0s : wA.heap.size ≤ W0.heap.size := D5.out.size
    have HR1 : Hid (∀ W, Below W0.heap.size W0 W → Rd W w.heap.size r.A (sv r.l)) := Lib.hid (fun W h => HR.out W (BA.out.trans ((D5.out.trans (h.mono D0s)).mono BA.out.size)))
    go_cut [8] from 26 to 42 (fun s8 wc => ∃ (g : Nat) (c2 : Nat), s8 = .bool false ∧ r.n ≤ c2 ∧ W0.heap.size ≤ g ∧ g < wc.heap.size ∧ Hid (BxQ wc b0 r ∧ BxQ wc lb (r.to (some ⟨g, 0, none⟩) c2) ∧ wc.ownsRow W0.heap.size 9 1 (.slice (some ⟨g, 0, none⟩) (r.n + 1) c2) (r.n + 1) (sv r.l ++ [behind]) ∧ Below wA.heap.size wA wc))
    case first =>
      refine wp_heldcut (S := fun W => W.cell? ⟨b0, 6, none⟩ = some (.slice r.A r.n r.c)) 9 (by kernel_rfl) (by kernel_rfl) (by go_simp) (fun hHeld => ?_)
      simp only [List.take_succ_cons, List.take_zero]
      refine takeL (i := 1) (v := ?_) rfl (by kernel_rfl) (by kernel_rfl) (by kernel_rfl) (fun _ _ _ h => h) ⟨by rfl, ?_⟩ (by assumption) ?_
      rotate_left
      · intro W9 hSw
        (try dsimp only at hSw)
        go_simp
        try with_reducible rfl
      (try simp only [Act.put, List.setIfInBounds_toArray, List.set_cons_zero, List.set_cons_succ])
      refine takeL (i := 2) (v := ?_) rfl (by kernel_rfl) (by kernel_rfl) (by kernel_rfl) (fun _ _ _ h => h) ⟨by rfl, ?_⟩ (by assumption) ?_
      rotate_left
      · intro W9 hSw
        (try dsimp only at hSw)
        go_simp
        try with_reducible rfl
      (try simp only [Act.put, List.setIfInBounds_toArray, List.set_cons_zero, List.set_cons_succ])
      refine takeL (i := 6) (v := ?_) rfl (by kernel_rfl) (by kernel_rfl) (by kernel_rfl) (fun _ _ _ h => h) ⟨by rfl, ?_⟩ (by assumption) ?_
      rotate_left
      · intro W9 hSw
        (try dsimp only at hSw)
        go_simp
        try with_reducible rfl
      (try simp only [Act.put, List.setIfInBounds_toArray, List.set_cons_zero, List.set_cons_succ])
      refine takeL (i := 7) (v := ?_) rfl (by kernel_rfl) (by kernel_rfl) (by kernel_rfl) (fun _ _ _ h => h) ⟨by rfl, ?_⟩ (by assumption) ?_
      rotate_left
      · intro W9 hSw
        (try dsimp only at hSw)
        go_simp
        try with_reducible rfl
      (try simp only [Act.put, List.setIfInBounds_toArray, List.set_cons_zero, List.set_cons_succ])
      refine takeL (i := 8) (v := ?_) rfl (by kernel_rfl) (by kernel_rfl) (by kernel_rfl) (fun _ _ _ h => h) ⟨by rfl, ?_⟩ (by assumption) ?_
      rotate_left
      · intro W9 hSw
        (try dsimp only at hSw)
        go_simp
        try with_reducible rfl
      (try simp only [Act.put, List.setIfInBounds_toArray, List.set_cons_zero, List.set_cons_succ])
      have kX : Below W0.heap.size W0 W0.drew := Below.drew (Below.refl _ _)
      have hX := hHeld
      have zX : b0 < W0.drew.heap.size := hb0
      clear hHeld
      generalize W0.drew = X at *
      refine wpAnyH_ready (rs := [0, 4]) (by kernel_rfl) (by simp) ?_
      refine consL rfl (by rfl) (fun K hK => ?_) ?_
      · skip
        go_simp
        refine hK.out _ _ ((World.cell?_alloc_lt _ _ _ zX).trans hX) (fun hX' => ?_)
        clear hK K
        have own0 := World.ownsRow_lit (base := W0.heap.size) (size := 1) (e := 9) X #[] 0 kX.size (by decide) rfl
        have zN : X.heap.size < (X.alloc (.cells #[] 9)).heap.size := by simp
        have k2 : Below W0.heap.size W0 (X.alloc (.cells #[] 9)) := kX.alloc kX.size _
        have z2 : b0 < (X.alloc (.cells #[] 9)).heap.size := by simp; omega
        have hXs := kX.size
        generalize hX9 : X.alloc (.cells #[] 9) = X2 at *
        generalize hX8 : X.heap.size = g0 at *
        clear hX9 hX hXs hX8 kX zX
        obtain ⟨hX, kX, zX⟩ : (X2.cell? ⟨b0, 6, none⟩ = some (.slice r.A r.n r.c)) ∧ Below W0.heap.size W0 X2 ∧ b0 < X2.heap.size := ⟨hX', k2, z2⟩
        clear hX' k2 z2
        clear X
        obtain ⟨X, rfl⟩ : ∃ x, x = X2 := ⟨_, rfl⟩
        refine wpAnyH_ready (rs := [3, 4]) (by kernel_rfl) (by simp) ?_
        refine consL rfl (by rfl) (fun K hK => ?_) ?_
        · skip
          clear zN
          refine wp_app sty55 (.tmp 32) (.tmp 34) rfl W0.heap.size own0 rfl r.n r.c (HR1.out _ kX) rfl (by rw [sv_length, Nat.mul_one]; exact HLR.out) (sv_one _) (by unfold maxLen; omega) (by omega) kX.size ?_
          intro v1 w1 own1 gr1 nil1 at1
          have k1 : Below W0.heap.size W0 w1 := Below.grown kX gr1 kX.size (by intro k hk; exact (own0.lt k hk).1)
          have z1 : b0 < w1.heap.size := Nat.lt_of_lt_of_le zX gr1.size
          refine hK.out _ _ ((k1.cell (p := ⟨b0, 6, none⟩) hb0).trans x8) (fun hX' => ?_)
          clear hK K gr1 nil1 at1 hX kX zX own0
          simp only [List.nil_append, Nat.zero_add] at own1
          obtain ⟨hX, kX, zX⟩ : (w1.cell? ⟨b0, 6, none⟩ = some (.slice r.A r.n r.c)) ∧ Below W0.heap.size W0 w1 ∧ b0 < w1.heap.size := ⟨hX', k1, z1⟩
          clear hX' k1 z1
          clear X
          obtain ⟨X, rfl⟩ : ∃ x, x = w1 := ⟨_, rfl⟩
          refine wpAnyH_ready (rs := [4]) (by kernel_rfl) (by simp) ?_
          refine consL rfl (by rfl) (fun K hK => ?_) ?_
          · skip
            go_simp
            refine hK.out _ _ ((World.cell?_alloc_lt _ _ _ zX).trans hX) (fun hX' => ?_)
            clear hK K
            have C : (X.alloc (.cells #[(.string ⟨#[98, 101, 104, 105, 110, 100]⟩)] 9)).cell? ⟨X.heap.size, 0, none⟩ = some behind := by simp [behind]
            have gN : X.heap.size < (X.alloc (.cells #[(.string ⟨#[98, 101, 104, 105, 110, 100]⟩)] 9)).heap.size := by simp
            replace own1 := own1.alloc (.cells #[(.string ⟨#[98, 101, 104, 105, 110, 100]⟩)] 9)
            have k2 : Below W0.heap.size W0 (X.alloc (.cells #[(.string ⟨#[98, 101, 104, 105, 110, 100]⟩)] 9)) := kX.alloc kX.size _
            have z2 : b0 < (X.alloc (.cells #[(.string ⟨#[98, 101, 104, 105, 110, 100]⟩)] 9)).heap.size := by simp; omega
            have hXs := kX.size
            generalize hX9 : X.alloc (.cells #[(.string ⟨#[98, 101, 104, 105, 110, 100]⟩)] 9) = X2 at *
            generalize hX8 : X.heap.size = g1 at *
            clear hX9 hX hXs hX8 kX zX
            obtain ⟨hX, kX, zX⟩ : (X2.cell? ⟨b0, 6, none⟩ = some (.slice r.A r.n r.c)) ∧ Below W0.heap.size W0 X2 ∧ b0 < X2.heap.size := ⟨hX', k2, z2⟩
            clear hX' k2 z2
            clear X
            obtain ⟨X, rfl⟩ : ∃ x, x = X2 := ⟨_, rfl⟩
            refine wpAnyH_ready (rs := [5]) (by kernel_rfl) (by simp) ?_
            refine consL rfl (by rfl) (fun K hK => ?_) ?_
            · skip
              refine wp_app sty55 (.tmp 35) (.tmp 36) rfl W0.heap.size own1 rfl 1 1 (news := [behind]) (rd_cell gN C) rfl rfl (by intro u hu; simp at hu; subst hu; rfl) (by unfold maxLen; omega) (by omega) kX.size ?_
              intro v2 w2 own2 gr2 nil2 at2
              have k1 : Below W0.heap.size W0 w2 := Below.grown kX gr2 kX.size (by intro k hk; exact (own1.lt k hk).1)
              refine hK.out _ _ ((k1.cell (p := ⟨b0, 6, none⟩) hb0).trans x8) (fun hX' => ?_)
              clear hK K gr2 nil2 at2 hX kX zX own1 C gN X
              refine wpAnyH_done (by kernel_rfl) ?_ _
              simp only [tailPost, List.drop_succ_cons, List.drop_zero]
              obtain ⟨g, c2, rfl, hg2, hg3⟩ := own2.form (by omega)
              have hc2 := own_cap own2
              have hc3 : r.n ≤ c2 := by omega
              clear hc2
              have X2 := Lib.hid (X5.out.next k1)
              have Y2 := Lib.hid (L5.out.next k1)
              obtain ⟨y0, y1, y2, y3, y4, y5, y6, y7, y8, y9, y10, y11, y12⟩ := Y2.out
              try dsimp only [Rec.to] at y2 y3 y4 y5 y6 y7 y8 y9 y10 y11 y12
              have OWN := Lib.hid own2
              have KK := Lib.hid k1
              clear own2 k1
              go_wp2_with fail
              go_meet
              case rel =>
                have e1 : lb ≠ g := by omega
                refine ⟨g, c2, rfl, hc3, hg2, by simpa using hg3, Lib.hid ⟨BxQ.set X2.out (by show b0 ≠ lb; omega) _, BxQ.setK Y2.out _ c2, own_setNe OWN.out (by simp [Value.ownBlock]; omega) _, ?_⟩⟩
                exact (D5.out.trans (KK.out.mono D0s)).setCell lbA _
            exact AllReadyH.nil
          exact AllReadyH.nil
        refine consL rfl (by rfl) (fun K hK => ?_) ?_
        · skip
          go_simp
          refine hK.out _ _ ((World.cell?_alloc_lt _ _ _ zX).trans hX) (fun hX' => ?_)
          clear hK K
          have C : (X.alloc (.cells #[(.string ⟨#[98, 101, 104, 105, 110, 100]⟩)] 9)).cell? ⟨X.heap.size, 0, none⟩ = some behind := by simp [behind]
          have gN : X.heap.size < (X.alloc (.cells #[(.string ⟨#[98, 101, 104, 105, 110, 100]⟩)] 9)).heap.size := by simp
          replace own0 := own0.alloc (.cells #[(.string ⟨#[98, 101, 104, 105, 110, 100]⟩)] 9)
          have hne : X.heap.size ≠ g0 := Nat.ne_of_gt zN
          clear zN
          have k2 : Below W0.heap.size W0 (X.alloc (.cells #[(.string ⟨#[98, 101, 104, 105, 110, 100]⟩)] 9)) := kX.alloc kX.size _
          have z2 : b0 < (X.alloc (.cells #[(.string ⟨#[98, 101, 104, 105, 110, 100]⟩)] 9)).heap.size := by simp; omega
          have hXs := kX.size
          generalize hX9 : X.alloc (.cells #[(.string ⟨#[98, 101, 104, 105, 110, 100]⟩)] 9) = X2 at *
          generalize hX8 : X.heap.size = g1 at *
          clear hX9 hX hXs hX8 kX zX
          obtain ⟨hX, kX, zX⟩ : (X2.cell? ⟨b0, 6, none⟩ = some (.slice r.A r.n r.c)) ∧ Below W0.heap.size W0 X2 ∧ b0 < X2.heap.size := ⟨hX', k2, z2⟩
          clear hX' k2 z2
          clear X
          obtain ⟨X, rfl⟩ : ∃ x, x = X2 := ⟨_, rfl⟩
          refine wpAnyH_ready (rs := [3]) (by kernel_rfl) (by simp) ?_
          refine consL rfl (by rfl) (fun K hK => ?_) ?_
          · skip
            refine wp_app sty55 (.tmp 32) (.tmp 34) rfl W0.heap.size own0 rfl r.n r.c (HR1.out _ kX) rfl (by rw [sv_length, Nat.mul_one]; exact HLR.out) (sv_one _) (by unfold maxLen; omega) (by omega) kX.size ?_
            intro v1 w1 own1 gr1 nil1 at1
            have k1 : Below W0.heap.size W0 w1 := Below.grown kX gr1 kX.size (by intro k hk; exact (own0.lt k hk).1)
            have z1 : b0 < w1.heap.size := Nat.lt_of_lt_of_le zX gr1.size
            have C2 : w1.cell? ⟨g1, 0, none⟩ = some behind := World.grownBy.cell gr1 C (by simp [Value.ownBlock]; omega)
            have gN2 : g1 < w1.heap.size := Nat.lt_of_lt_of_le gN gr1.size
            refine hK.out _ _ ((k1.cell (p := ⟨b0, 6, none⟩) hb0).trans x8) (fun hX' => ?_)
            clear hK K gr1 nil1 at1 hX kX zX own0
            clear C gN
            simp only [List.nil_append, Nat.zero_add] at own1
            obtain ⟨hX, kX, zX, C, gN⟩ : (w1.cell? ⟨b0, 6, none⟩ = some (.slice r.A r.n r.c)) ∧ Below W0.heap.size W0 w1 ∧ b0 < w1.heap.size ∧ w1.cell? ⟨g1, 0, none⟩ = some behind ∧ g1 < w1.heap.size := ⟨hX', k1, z1, C2, gN2⟩
            clear hX' k1 z1 C2 gN2
            clear X
            obtain ⟨X, rfl⟩ : ∃ x, x = w1 := ⟨_, rfl⟩
            refine wpAnyH_ready (rs := [5]) (by kernel_rfl) (by simp) ?_
            refine consL rfl (by rfl) (fun K hK => ?_) ?_
            · skip
              refine wp_app sty55 (.tmp 35) (.tmp 36) rfl W0.heap.size own1 rfl 1 1 (news := [behind]) (rd_cell gN C) rfl rfl (by intro u hu; simp at hu; subst hu; rfl) (by unfold maxLen; omega) (by omega) kX.size ?_
              intro v2 w2 own2 gr2 nil2 at2
              have k1 : Below W0.heap.size W0 w2 := Below.grown kX gr2 kX.size (by intro k hk; exact (own1.lt k hk).1)
              refine hK.out _ _ ((k1.cell (p := ⟨b0, 6, none⟩) hb0).trans x8) (fun hX' => ?_)
              clear hK K gr2 nil2 at2 hX kX zX own1 C gN X
              refine wpAnyH_done (by kernel_rfl) ?_ _
              simp only [tailPost, List.drop_succ_cons, List.drop_zero]
              obtain ⟨g, c2, rfl, hg2, hg3⟩ := own2.form (by omega)
              have hc2 := own_cap own2
              have hc3 : r.n ≤ c2 := by omega
              clear hc2
              have X2 := Lib.hid (X5.out.next k1)
              have Y2 := Lib.hid (L5.out.next k1)
              obtain ⟨y0, y1, y2, y3, y4, y5, y6, y7, y8, y9, y10, y11, y12⟩ := Y2.out
              try dsimp only [Rec.to] at y2 y3 y4 y5 y6 y7 y8 y9 y10 y11 y12
              have OWN := Lib.hid own2
              have KK := Lib.hid k1
              clear own2 k1
              go_wp2_with fail
              go_meet
              case rel =>
                have e1 : lb ≠ g := by omega
                refine ⟨g, c2, rfl, hc3, hg2, by simpa using hg3, Lib.hid ⟨BxQ.set X2.out (by show b0 ≠ lb; omega) _, BxQ.setK Y2.out _ c2, own_setNe OWN.out (by simp [Value.ownBlock]; omega) _, ?_⟩⟩
                exact (D5.out.trans (KK.out.mono D0s)).setCell lbA _
            exact AllReadyH.nil
          exact AllReadyH.nil
        exact AllReadyH.nil
      refine consL rfl (by rfl) (fun K hK => ?_) ?_
      · skip
        go_simp
        refine hK.out _ _ ((World.cell?_alloc_lt _ _ _ zX).trans hX) (fun hX' => ?_)
        clear hK K
        have C : (X.alloc (.cells #[(.string ⟨#[98, 101, 104, 105, 110, 100]⟩)] 9)).cell? ⟨X.heap.size, 0, none⟩ = some behind := by simp [behind]
        have gN : X.heap.size < (X.alloc (.cells #[(.string ⟨#[98, 101, 104, 105, 110, 100]⟩)] 9)).heap.size := by simp
        have k2 : Below W0.heap.size W0 (X.alloc (.cells #[(.string ⟨#[98, 101, 104, 105, 110, 100]⟩)] 9)) := kX.alloc kX.size _
        have z2 : b0 < (X.alloc (.cells #[(.string ⟨#[98, 101, 104, 105, 110, 100]⟩)] 9)).heap.size := by simp; omega
        have hXs := kX.size
        generalize hX9 : X.alloc (.cells #[(.string ⟨#[98, 101, 104, 105, 110, 100]⟩)] 9) = X2 at *
        generalize hX8 : X.heap.size = g1 at *
        clear hX9 hX hXs hX8 kX zX
        obtain ⟨hX, kX, zX⟩ : (X2.cell? ⟨b0, 6, none⟩ = some (.slice r.A r.n r.c)) ∧ Below W0.heap.size W0 X2 ∧ b0 < X2.heap.size := ⟨hX', k2, z2⟩
        clear hX' k2 z2
        clear X
        obtain ⟨X, rfl⟩ : ∃ x, x = X2 := ⟨_, rfl⟩
        refine wpAnyH_ready (rs := [0]) (by kernel_rfl) (by simp) ?_
        refine consL rfl (by rfl) (fun K hK => ?_) ?_
        · skip
          go_simp
          refine hK.out _ _ ((World.cell?_alloc_lt _ _ _ zX).trans hX) (fun hX' => ?_)
          clear hK K
          have own0 := World.ownsRow_lit (base := W0.heap.size) (size := 1) (e := 9) X #[] 0 kX.size (by decide) rfl
          have zN : X.heap.size < (X.alloc (.cells #[] 9)).heap.size := by simp
          replace C := (World.cell?_alloc_lt X (.cells #[] 9) ⟨g1, 0, none⟩ gN).trans C
          have hne : g1 ≠ X.heap.size := Nat.ne_of_lt gN
          replace gN : g1 < (X.alloc (.cells #[] 9)).heap.size := by simp; omega
          clear zN
          have k2 : Below W0.heap.size W0 (X.alloc (.cells #[] 9)) := kX.alloc kX.size _
          have z2 : b0 < (X.alloc (.cells #[] 9)).heap.size := by simp; omega
          have hXs := kX.size
          generalize hX9 : X.alloc (.cells #[] 9) = X2 at *
          generalize hX8 : X.heap.size = g0 at *
          clear hX9 hX hXs hX8 kX zX
          obtain ⟨hX, kX, zX⟩ : (X2.cell? ⟨b0, 6, none⟩ = some (.slice r.A r.n r.c)) ∧ Below W0.heap.size W0 X2 ∧ b0 < X2.heap.size := ⟨hX', k2, z2⟩
          clear hX' k2 z2
          clear X
          obtain ⟨X, rfl⟩ : ∃ x, x = X2 := ⟨_, rfl⟩
          refine wpAnyH_ready (rs := [3]) (by kernel_rfl) (by simp) ?_
          refine consL rfl (by rfl) (fun K hK => ?_) ?_
          · skip
            refine wp_app sty55 (.tmp 32) (.tmp 34) rfl W0.heap.size own0 rfl r.n r.c (HR1.out _ kX) rfl (by rw [sv_length, Nat.mul_one]; exact HLR.out) (sv_one _) (by unfold maxLen; omega) (by omega) kX.size ?_
            intro v1 w1 own1 gr1 nil1 at1
            have k1 : Below W0.heap.size W0 w1 := Below.grown kX gr1 kX.size (by intro k hk; exact (own0.lt k hk).1)
            have z1 : b0 < w1.heap.size := Nat.lt_of_lt_of_le zX gr1.size
            have C2 : w1.cell? ⟨g1, 0, none⟩ = some behind := World.grownBy.cell gr1 C (by simp [Value.ownBlock]; omega)
            have gN2 : g1 < w1.heap.size := Nat.lt_of_lt_of_le gN gr1.size
            refine hK.out _ _ ((k1.cell (p := ⟨b0, 6, none⟩) hb0).trans x8) (fun hX' => ?_)
            clear hK K gr1 nil1 at1 hX kX zX own0
            clear C gN
            simp only [List.nil_append, Nat.zero_add] at own1
            obtain ⟨hX, kX, zX, C, gN⟩ : (w1.cell? ⟨b0, 6, none⟩ = some (.slice r.A r.n r.c)) ∧ Below W0.heap.size W0 w1 ∧ b0 < w1.heap.size ∧ w1.cell? ⟨g1, 0, none⟩ = some behind ∧ g1 < w1.heap.size := ⟨hX', k1, z1, C2, gN2⟩
            clear hX' k1 z1 C2 gN2
            clear X
            obtain ⟨X, rfl⟩ : ∃ x, x = w1 := ⟨_, rfl⟩
            refine wpAnyH_ready (rs := [5]) (by kernel_rfl) (by simp) ?_
            refine consL rfl (by rfl) (fun K hK => ?_) ?_
            · skip
              refine wp_app sty55 (.tmp 35) (.tmp 36) rfl W0.heap.size own1 rfl 1 1 (news := [behind]) (rd_cell gN C) rfl rfl (by intro u hu; simp at hu; subst hu; rfl) (by unfold maxLen; omega) (by omega) kX.size ?_
              intro v2 w2 own2 gr2 nil2 at2
              have k1 : Below W0.heap.size W0 w2 := Below.grown kX gr2 kX.size (by intro k hk; exact (own1.lt k hk).1)
              refine hK.out _ _ ((k1.cell (p := ⟨b0, 6, none⟩) hb0).trans x8) (fun hX' => ?_)
              clear hK K gr2 nil2 at2 hX kX zX own1 C gN X
              refine wpAnyH_done (by kernel_rfl) ?_ _
              simp only [tailPost, List.drop_succ_cons, List.drop_zero]
              obtain ⟨g, c2, rfl, hg2, hg3⟩ := own2.form (by omega)
              have hc2 := own_cap own2
              have hc3 : r.n ≤ c2 := by omega
              clear hc2
              have X2 := Lib.hid (X5.out.next k1)
              have Y2 := Lib.hid (L5.out.next k1)
              obtain ⟨y0, y1, y2, y3, y4, y5, y6, y7, y8, y9, y10, y11, y12⟩ := Y2.out
              try dsimp only [Rec.to] at y2 y3 y4 y5 y6 y7 y8 y9 y10 y11 y12
              have OWN := Lib.hid own2
              have KK := Lib.hid k1
              clear own2 k1
              go_wp2_with fail
              go_meet
              case rel =>
                have e1 : lb ≠ g := by omega
                refine ⟨g, c2, rfl, hc3, hg2, by simpa using hg3, Lib.hid ⟨BxQ.set X2.out (by show b0 ≠ lb; omega) _, BxQ.setK Y2.out _ c2, own_setNe OWN.out (by simp [Value.ownBlock]; omega) _, ?_⟩⟩
                exact (D5.out.trans (KK.out.mono D0s)).setCell lbA _
            exact AllReadyH.nil
          exact AllReadyH.nil
        exact AllReadyH.nil
      exact AllReadyH.nil
    case rest =>
      obtain ⟨g, c2, rfl, hcn, hg1, hg2, hq⟩ := hcut
      obtain ⟨w6, rfl⟩ : ∃ x, x = wc := ⟨_, rfl⟩
      have Q6 := hq
      clear hq X5 L5 x8
      have C6 : Hid (Cy wA w6 W0.heap.size b0 lb g c2 r (r.l ++ [⟨#[98, 101, 104, 105, 110, 100]⟩])) := Lib.hid ⟨Q6.out.2.2.2, Q6.out.1, Q6.out.2.1, by have := Q6.out.2.2.1; simpa [sv, behind] using this⟩
      clear Q6
      have HV : Hid (∀ W, Cy wA W W0.heap.size b0 lb g c2 r (r.l ++ [⟨#[98, 101, 104, 105, 110, 100]⟩]) → Calls Try.prog 19 #[.agg #[.int .i32 r.nd, .int .i32 r.nu, .int .u8 r.st, .int .i64 r.at_.wall, .int .i32 r.at_.logic, .int .i32 r.at_.tag, .slice (some ⟨g, 0, none⟩) r.n c2, .int .i64 r.beat, .int .i64 r.pu.wall, .int .i32 r.pu.logic, .int .i32 r.pu.tag], .bool sm, .slice At nt ct] W fun e w' => e = .returned (.tuple #[.int .i64 (vdV r sm th), .int .i64 (vdE r sm th)]) ∧ Below W.heap.size W w') :=
        Lib.hid (fun W h => verdict_any (r.to (some ⟨g, 0, none⟩) c2) HLR.out W.heap.size sm At nt ct th HTL.out hnt W h.rd ((HT.out W (BA.out.trans (h.bel.mono BA.out.size))).more (Nat.le_trans BA.out.size h.bel.size)) (Nat.le_refl _))
      have HW : Hid (∀ W, Cy wA W W0.heap.size b0 lb g c2 r (r.l ++ [⟨#[98, 101, 104, 105, 110, 100]⟩]) → Calls Try.prog 20 #[.agg #[.int .i32 r.nd, .int .i32 r.nu, .int .u8 r.st, .int .i64 r.at_.wall, .int .i32 r.at_.logic, .int .i32 r.at_.tag, .slice r.A r.n r.c, .int .i64 r.beat, .int .i64 r.pu.wall, .int .i32 r.pu.logic, .int .i32 r.pu.tag], .bool sm, .slice At nt ct] W fun e w' => e = .returned (.tuple #[.int .i64 (vdV r sm th), .int .i64 (vdE r sm th)]) ∧ Below W.heap.size W w') :=
        Lib.hid (fun W h => rverdict_any r HLR.out w.heap.size sm At nt ct th HTL.out hnt W (HR.out W (BA.out.trans (h.bel.mono BA.out.size))) (HT.out W (BA.out.trans (h.bel.mono BA.out.size))) (Nat.le_trans BA.out.size h.bel.size))
      generalize vdV r sm th = V at *
      generalize vdE r sm th = E at *
      have HSA : Hid (∀ W, Cy wA W W0.heap.size b0 lb g c2 r (r.l ++ [⟨#[98, 101, 104, 105, 110, 100]⟩]) → Calls Try.prog 14 #[.agg #[.int .i32 r.nd, .int .i32 r.nu, .int .u8 r.st, .int .i64 r.at_.wall, .int .i32 r.at_.logic, .int .i32 r.at_.tag, .slice (some ⟨g, 0, none⟩) r.n c2, .int .i64 r.beat, .int .i64 r.pu.wall, .int .i32 r.pu.logic, .int .i32 r.pu.tag], .agg #[.int .i32 r.nd, .int .i32 r.nu, .int .u8 r.st, .int .i64 r.at_.wall, .int .i32 r.at_.logic, .int .i32 r.at_.tag, .slice r.A r.n r.c, .int .i64 r.beat, .int .i64 r.pu.wall, .int .i32 r.pu.logic, .int .i32 r.pu.tag]] W fun e w' => e = .returned (.bool true) ∧ Below W.heap.size W w') :=
        Lib.hid (fun W h => rsame_yes (r.to (some ⟨g, 0, none⟩) c2) r.A r.c HLR.out (by show r.n ≤ _; omega) W.heap.size W h.rd ((HR.out W (BA.out.trans (h.bel.mono BA.out.size))).more (Nat.le_trans BA.out.size h.bel.size)) (Nat.le_refl _))
      have HNN : Hid (∀ W, newE r ≠ 0 → Cy wA W W0.heap.size b0 lb g c2 r (r.l ++ [⟨#[98, 101, 104, 105, 110, 100]⟩]) → Calls Try.prog 18 #[.agg #[.int .i32 r.nd, .int .i32 r.nu, .int .u8 r.st, .int .i64 r.at_.wall, .int .i32 r.at_.logic, .int .i32 r.at_.tag, .slice (some ⟨g, 0, none⟩) r.n c2, .int .i64 r.beat, .int .i64 r.pu.wall, .int .i32 r.pu.logic, .int .i32 r.pu.tag]] W fun e w' => e = .returned (.tuple #[.pointer none, .int .i64 (newE r)]) ∧ Below W.heap.size W w') :=
        Lib.hid (fun W h0 h => wnew_no (r.to (some ⟨g, 0, none⟩) c2) HLR.out W.heap.size W h.rd (Nat.le_refl _) h0)
      have HMN : Hid (∀ W, newE r ≠ 0 → Cy wA W W0.heap.size b0 lb g c2 r (r.l ++ [⟨#[98, 101, 104, 105, 110, 100]⟩]) → Calls Try.prog 21 #[.agg #[.int .i32 r.nd, .int .i32 r.nu, .int .u8 r.st, .int .i64 r.at_.wall, .int .i32 r.at_.logic, .int .i32 r.at_.tag, .slice r.A r.n r.c, .int .i64 r.beat, .int .i64 r.pu.wall, .int .i32 r.pu.logic, .int .i32 r.pu.tag]] W fun e w' => e = .returned (.tuple #[.pointer none, .int .i64 (newE r)]) ∧ Below W.heap.size W w') :=
        Lib.hid (fun W h0 h => rnew_no r HLR.out w.heap.size W (HR.out W (BA.out.trans (h.bel.mono BA.out.size))) (Nat.le_trans BA.out.size h.bel.size) h0)
      have HNO : Hid (∀ W, newE r = 0 → Cy wA W W0.heap.size b0 lb g c2 r (r.l ++ [⟨#[98, 101, 104, 105, 110, 100]⟩]) → Calls Try.prog 18 #[.agg #[.int .i32 r.nd, .int .i32 r.nu, .int .u8 r.st, .int .i64 r.at_.wall, .int .i32 r.at_.logic, .int .i32 r.at_.tag, .slice (some ⟨g, 0, none⟩) r.n c2, .int .i64 r.beat, .int .i64 r.pu.wall, .int .i32 r.pu.logic, .int .i32 r.pu.tag]] W (NewW r W)) :=
        Lib.hid (fun W h0 h => wnew_ok (r.to (some ⟨g, 0, none⟩) c2) HLR.out W.heap.size W h.rd (Nat.le_refl _) h0)
      have HMO : Hid (∀ W, newE r = 0 → Cy wA W W0.heap.size b0 lb g c2 r (r.l ++ [⟨#[98, 101, 104, 105, 110, 100]⟩]) → Calls Try.prog 21 #[.agg #[.int .i32 r.nd, .int .i32 r.nu, .int .u8 r.st, .int .i64 r.at_.wall, .int .i32 r.at_.logic, .int .i32 r.at_.tag, .slice r.A r.n r.c, .int .i64 r.beat, .int .i64 r.pu.wall, .int .i32 r.pu.logic, .int .i32 r.pu.tag]] W (NewR r W)) :=
        Lib.hid (fun W h0 h => rnew_ok r HLR.out w.heap.size W (HR.out W (BA.out.trans (h.bel.mono BA.out.size))) (Nat.le_trans BA.out.size h.bel.size) h0)
      have HRI : Hid (newE r = 0 → riseB r.l = true) := Lib.hid rise_of
      have HRN : Hid (newE r = 0 → 0 < r.n) := Lib.hid (fun h => (newE_st h).2.2.1)
      obtain ⟨z0, z1, z2, z3, z4, z5, z6, z7, z8, z9, z10, z11, z12⟩ := C6.out.l
      try dsimp only [Rec.to] at z2 z3 z4 z5 z6 z7 z8 z9 z10 z11 z12
      go_wp2_with fail
      refine (HV.out w6 C6.out).mono ?_
      rintro e w7 ⟨rfl, hb⟩
      have C7 := Lib.hid (C6.out.next hb)
      clear hb C6 z0 z1 z2 z3 z4 z5 z6 z7 z8 z9 z10 z11 z12
      obtain ⟨x0, x1, x2, x3, x4, x5, x6, x7, x8, x9, x10, x11, x12⟩ := C7.out.x
      go_wp2_with fail
      refine (HW.out w7 C7.out).mono ?_
      rintro e w8 ⟨rfl, hb⟩
      have C8 := Lib.hid (C7.out.next hb)
      clear hb C7 x0 x1 x2 x3 x4 x5 x6 x7 x8 x9 x10 x11 x12 HV HW
      obtain ⟨z0, z1, z2, z3, z4, z5, z6, z7, z8, z9, z10, z11, z12⟩ := C8.out.l
      try dsimp only [Rec.to] at z2 z3 z4 z5 z6 z7 z8 z9 z10 z11 z12
      generalize newE r = EN at *
      rcases HE.out with hE | hE
      · skip
        subst hE
        have HRJ := HRI.out rfl
        have HRM := HRN.out rfl
        have HNO1 := Lib.hid (fun W h => HNO.out W rfl h)
        have HMO1 := Lib.hid (fun W h => HMO.out W rfl h)
        clear HRI HRN HNO HMO HNN HMN HE
        go_wp2_with fail
        refine (HNO1.out w8 C8.out).mono ?_
        rintro e w9 ⟨bw, gw, Aw, cw, rfl, hW, hb⟩
        have C9 := Lib.hid (C8.out.next hb)
        have hg9 : g < w8.heap.size := C8.out.own.lt g rfl |>.2
        have hs8 : wA.heap.size ≤ w8.heap.size := C8.out.bel.size
        have HW9 := Lib.hid hW
        have hs9 : w8.heap.size ≤ w9.heap.size := hb.size
        clear hb C8 hW z0 z1 z2 z3 z4 z5 z6 z7 z8 z9 z10 z11 z12 HNO1
        obtain ⟨x0, x1, x2, x3, x4, x5, x6, x7, x8, x9, x10, x11, x12⟩ := C9.out.x
        go_wp2_with fail
        refine (HMO1.out w9 C9.out).mono ?_
        rintro e w10 ⟨br, gr, yr, Ar, cr, rfl, hW, hb⟩
        have C10 := Lib.hid (C9.out.next hb)
        have K10 : Hid (Wks wA w10 w8.heap.size bw gw br gr yr r (List.replicate r.n 0) (List.replicate r.n 0)) := Lib.hid ⟨C10.out.bel, w8.heap.size, w9.heap.size, w9.heap.size, w10.heap.size, Aw, cw, Ar, cr, HW9.out.next hb, hW, Nat.le_refl _, hs8, Nat.le_refl _⟩
        clear hb C9 hW HW9 x0 x1 x2 x3 x4 x5 x6 x7 x8 x9 x10 x11 x12 HMO1
        obtain ⟨x0, x1, x2, x3, x4, x5, x6, x7, x8, x9, x10, x11, x12⟩ := C10.out.x
        obtain ⟨z0, z1, z2, z3, z4, z5, z6, z7, z8, z9, z10, z11, z12⟩ := C10.out.l
        try dsimp only [Rec.to] at z2 z3 z4 z5 z6 z7 z8 z9 z10 z11 z12
        go_wp2_with fail
        refine (HSA.out w10 C10.out).mono ?_
        rintro e w11 ⟨rfl, hb⟩
        have C11 := Lib.hid (C10.out.next hb)
        have K11 := Lib.hid (K10.out.next hb)
        generalize w8.heap.size = M at *
        clear hb C10 K10 x0 x1 x2 x3 x4 x5 x6 x7 x8 x9 x10 x11 x12 z0 z1 z2 z3 z4 z5 z6 z7 z8 z9 z10 z11 z12 HSA
        go_wp2_with fail
        have OW0 := Lib.hid C11.out.own
        obtain ⟨xs, hxs⟩ : ∃ xs, xs = (r.l ++ [⟨#[98, 101, 104, 105, 110, 100]⟩]) := ⟨_, rfl⟩
        have HXL : Hid (xs.length = r.n + 1) := Lib.hid (by rw [hxs]; simp; exact HLR.out)
        have L11 := Lib.hid C11.out.l
        rw [← hxs] at OW0
        have X11 := Lib.hid C11.out.x
        clear hxs C11
        go_loopw [18] (fun i wr => ∃ (k : Nat) (ys : List ByteArray), k ≤ r.n ∧ Hid (ys.length = r.n + 1) ∧ i = .int .i64 k ∧ Hid (wr.ownsRow W0.heap.size 9 1 (.slice (some ⟨g, 0, none⟩) (r.n + 1) c2) (r.n + 1) (sv ys)) ∧ Hid (w11.grownBy wr (some g))) (fun i _ => r.n - (intOf i).toNat)
        case atStart => exact ⟨0, xs, Nat.zero_le _, HXL, rfl, OW0, Lib.hid (World.grownBy.refl _ _)⟩
        case round =>
          obtain ⟨k, ys, hk, hyl, rfl, hown, hgr⟩ := hrel
          clear OW0 HXL
          have XX := Lib.hid (BxQ.keep L11.out (Nat.lt_of_lt_of_le L11.out.lt hgr.out.size) (fun o => World.grownBy.cell_far hgr.out ⟨lb, o, none⟩ L11.out.lt (not_some (by first | omega | (show _ ≠ _; omega) | (dsimp only; omega)))) (fun o => World.grownBy.frozen_far hgr.out ⟨lb, o, none⟩ L11.out.lt (not_some (by first | omega | (show _ ≠ _; omega) | (dsimp only; omega)))))
          obtain ⟨x0, x1, x2, x3, x4, x5, x6, x7, x8, x9, x10, x11, x12⟩ := XX.out
          try dsimp only [Rec.to] at x2 x3 x4 x5 x6 x7 x8 x9 x10 x11 x12
          by_cases hlt : k < r.n
          · skip
            have hky : k < ys.length := by rw [hyl.out]; omega
            have hcx := hown.out.cellAt k (by omega)
            rw [sv_get ys k hky] at hcx
            have hfx := hown.out.frozenAt k
            generalize ys[k] = yk at *
            have i1 : (k : Int) < (r.n : Int) := by omega
            have i0 : (0 : Int) ≤ (k : Int) := by omega
            go_wp2
            have o2 := (hown.out.stored k (.string ⟨#[111, 118, 101, 114]⟩)).1
            have g2 := (hown.out.stored k (.string ⟨#[111, 118, 101, 114]⟩)).2
            rw [svs_set] at o2
            exact ⟨⟨k + 1, ys.set k ⟨#[111, 118, 101, 114]⟩, by omega, Lib.hid (by rw [List.length_set]; exact hyl.out), by go_num, Lib.hid o2, Lib.hid (hgr.out.trans g2)⟩, by simp [intOf]; omega⟩
          · skip
            have i2 : ¬ ((k : Int) < (r.n : Int)) := by omega
            have K12 := Lib.hid (K11.out.grown hgr.out (by omega) hg9)
            obtain ⟨w12, rfl⟩ : ∃ x, x = wr := ⟨_, rfl⟩
            go_wp2_with fail
            clear hown hgr hyl XX x0 x1 x2 x3 x4 x5 x6 x7 x8 x9 x10 x11 x12 X11 L11 K11 i2 hk hlt
            go_loopw [19] (fun i wr => ∃ (k : Nat) (ans : List Int), k ≤ nl ∧ i = .int .i64 k ∧ Hid (Wks wA wr M bw gw br gr yr r ans ans)) (fun i _ => nl - (intOf i).toNat)
            case atStart => exact ⟨0, _, Nat.zero_le _, rfl, K12⟩
            case round =>
              obtain ⟨j, ans, hj, rfl, Q⟩ := hrel
              clear K12
              obtain ⟨w13, rfl⟩ : ∃ x, x = wr := ⟨_, rfl⟩
              by_cases hlt : j < nl
              · skip
                have hjl : j < al.length := by rw [HAL.out]; exact hlt
                have hBw : Below w.heap.size w w13 := BA.out.trans (Q.out.bel.mono BA.out.size)
                obtain ⟨bb, off, rfl, hbb, T⟩ := ans_at (HLA.out w13 hBw) j al[j] (List.getElem?_eq_getElem hjl)
                generalize al[j] = s at *
                have T := Lib.hid T
                have i1 : (j : Int) < (nl : Int) := by omega
                have i0 : (0 : Int) ≤ (j : Int) := by omega
                clear hBw
                go_upto_region 22 with (fail)
                go_cut [144] from 112 to 143 (fun s9 wc => s9 = .bool false ∧ Hid (Wks wA wc M bw gw br gr yr r (gotA r.l ans s.k s.y) (gotA r.l ans s.k s.y)))
                case first =>
                  refine wp_heldall (S := fun W => AnI W bb (off + j * 2) s) 33 (by kernel_rfl) rfl (T.out.below (Below.drew (Below.refl _ _)) (Nat.lt_of_lt_of_le hbb (Nat.le_trans BA.out.size Q.out.bel.size))) (fun hHeld => ?_)
                  refine takeL (i := 0) (v := ?_) rfl (by kernel_rfl) (by kernel_rfl) (by kernel_rfl) (fun _ _ _ h => h) ⟨by rfl, ?_⟩ (by assumption) ?_
                  rotate_left
                  · intro W9 hSw
                    (try dsimp only at hSw)
                    go_simp
                    try with_reducible rfl
                  (try simp only [Act.put, List.setIfInBounds_toArray, List.set_cons_zero, List.set_cons_succ])
                  refine takeL (i := 1) (v := ?_) rfl (by kernel_rfl) (by kernel_rfl) (by kernel_rfl) (fun _ _ _ h => h) ⟨by rfl, ?_⟩ (by assumption) ?_
                  rotate_left
                  · intro W9 hSw
                    (try dsimp only at hSw)
                    go_simp
                    try with_reducible rfl
                  (try simp only [Act.put, List.setIfInBounds_toArray, List.set_cons_zero, List.set_cons_succ])
                  refine takeL (i := 2) (v := ?_) rfl (by kernel_rfl) (by kernel_rfl) (by kernel_rfl) (fun _ _ _ h => h) ⟨by rfl, ?_⟩ (by assumption) ?_
                  rotate_left
                  · intro W9 hSw
                    (try dsimp only at hSw)
                    go_simp
                    try with_reducible rfl
                  (try simp only [Act.put, List.setIfInBounds_toArray, List.set_cons_zero, List.set_cons_succ])
                  refine takeL (i := 3) (v := ?_) rfl (by kernel_rfl) (by kernel_rfl) (by kernel_rfl) (fun _ _ _ h => h) ⟨by rfl, ?_⟩ (by assumption) ?_
                  rotate_left
                  · intro W9 hSw
                    (try dsimp only at hSw)
                    go_simp
                    try with_reducible rfl
                  (try simp only [Act.put, List.setIfInBounds_toArray, List.set_cons_zero, List.set_cons_succ])
                  refine takeL (i := 4) (v := ?_) rfl (by kernel_rfl) (by kernel_rfl) (by kernel_rfl) (fun _ _ _ h => h) ⟨by rfl, ?_⟩ (by assumption) ?_
                  rotate_left
                  · intro W9 hSw
                    (try dsimp only at hSw)
                    go_simp
                    try with_reducible rfl
                  (try simp only [Act.put, List.setIfInBounds_toArray, List.set_cons_zero, List.set_cons_succ])
                  refine takeL (i := 5) (v := ?_) rfl (by kernel_rfl) (by kernel_rfl) (by kernel_rfl) (fun _ _ _ h => h) ⟨by rfl, ?_⟩ (by assumption) ?_
                  rotate_left
                  · intro W9 hSw
                    (try dsimp only at hSw)
                    obtain ⟨s0, s1⟩ := hSw
                    go_simp
                    try with_reducible rfl
                  (try simp only [Act.put, List.setIfInBounds_toArray, List.set_cons_zero, List.set_cons_succ])
                  refine takeL (i := 6) (v := ?_) rfl (by kernel_rfl) (by kernel_rfl) (by kernel_rfl) (fun _ _ _ h => h) ⟨by rfl, ?_⟩ (by assumption) ?_
                  rotate_left
                  · intro W9 hSw
                    (try dsimp only at hSw)
                    go_simp
                    try with_reducible rfl
                  (try simp only [Act.put, List.setIfInBounds_toArray, List.set_cons_zero, List.set_cons_succ])
                  refine takeL (i := 7) (v := ?_) rfl (by kernel_rfl) (by kernel_rfl) (by kernel_rfl) (fun _ _ _ h => h) ⟨by rfl, ?_⟩ (by assumption) ?_
                  rotate_left
                  · intro W9 hSw
                    (try dsimp only at hSw)
                    go_simp
                    try with_reducible rfl
                  (try simp only [Act.put, List.setIfInBounds_toArray, List.set_cons_zero, List.set_cons_succ])
                  refine takeL (i := 8) (v := ?_) rfl (by kernel_rfl) (by kernel_rfl) (by kernel_rfl) (fun _ _ _ h => h) ⟨by rfl, ?_⟩ (by assumption) ?_
                  rotate_left
                  · intro W9 hSw
                    (try dsimp only at hSw)
                    go_simp
                    try with_reducible rfl
                  (try simp only [Act.put, List.setIfInBounds_toArray, List.set_cons_zero, List.set_cons_succ])
                  refine takeL (i := 9) (v := ?_) rfl (by kernel_rfl) (by kernel_rfl) (by kernel_rfl) (fun _ _ _ h => h) ⟨by rfl, ?_⟩ (by assumption) ?_
                  rotate_left
                  · intro W9 hSw
                    (try dsimp only at hSw)
                    go_simp
                    try with_reducible rfl
                  (try simp only [Act.put, List.setIfInBounds_toArray, List.set_cons_zero, List.set_cons_succ])
                  refine takeL (i := 10) (v := ?_) rfl (by kernel_rfl) (by kernel_rfl) (by kernel_rfl) (fun _ _ _ h => h) ⟨by rfl, ?_⟩ (by assumption) ?_
                  rotate_left
                  · intro W9 hSw
                    (try dsimp only at hSw)
                    obtain ⟨s0, s1⟩ := hSw
                    go_simp
                    try with_reducible rfl
                  (try simp only [Act.put, List.setIfInBounds_toArray, List.set_cons_zero, List.set_cons_succ])
                  refine takeL (i := 12) (v := ?_) rfl (by kernel_rfl) (by kernel_rfl) (by kernel_rfl) (fun _ _ _ h => h) ⟨by rfl, ?_⟩ (by assumption) ?_
                  rotate_left
                  · intro W9 hSw
                    (try dsimp only at hSw)
                    go_simp
                    try with_reducible rfl
                  (try simp only [Act.put, List.setIfInBounds_toArray, List.set_cons_zero, List.set_cons_succ])
                  refine takeL (i := 13) (v := ?_) rfl (by kernel_rfl) (by kernel_rfl) (by kernel_rfl) (fun _ _ _ h => h) ⟨by rfl, ?_⟩ (by assumption) ?_
                  rotate_left
                  · intro W9 hSw
                    (try dsimp only at hSw)
                    go_simp
                    try with_reducible rfl
                  (try simp only [Act.put, List.setIfInBounds_toArray, List.set_cons_zero, List.set_cons_succ])
                  refine takeL (i := 14) (v := ?_) rfl (by kernel_rfl) (by kernel_rfl) (by kernel_rfl) (fun _ _ _ h => h) ⟨by rfl, ?_⟩ (by assumption) ?_
                  rotate_left
                  · intro W9 hSw
                    (try dsimp only at hSw)
                    go_simp
                    try with_reducible rfl
                  (try simp only [Act.put, List.setIfInBounds_toArray, List.set_cons_zero, List.set_cons_succ])
                  refine takeL (i := 15) (v := ?_) rfl (by kernel_rfl) (by kernel_rfl) (by kernel_rfl) (fun _ _ _ h => h) ⟨by rfl, ?_⟩ (by assumption) ?_
                  rotate_left
                  · intro W9 hSw
                    (try dsimp only at hSw)
                    go_simp
                    try with_reducible rfl
                  (try simp only [Act.put, List.setIfInBounds_toArray, List.set_cons_zero, List.set_cons_succ])
                  refine takeL (i := 16) (v := ?_) rfl (by kernel_rfl) (by kernel_rfl) (by kernel_rfl) (fun _ _ _ h => h) ⟨by rfl, ?_⟩ (by assumption) ?_
                  rotate_left
                  · intro W9 hSw
                    (try dsimp only at hSw)
                    go_simp
                    try with_reducible rfl
                  (try simp only [Act.put, List.setIfInBounds_toArray, List.set_cons_zero, List.set_cons_succ])
                  refine takeL (i := 17) (v := ?_) rfl (by kernel_rfl) (by kernel_rfl) (by kernel_rfl) (fun _ _ _ h => h) ⟨by rfl, ?_⟩ (by assumption) ?_
                  rotate_left
                  · intro W9 hSw
                    (try dsimp only at hSw)
                    obtain ⟨s0, s1⟩ := hSw
                    go_simp
                    try with_reducible rfl
                  (try simp only [Act.put, List.setIfInBounds_toArray, List.set_cons_zero, List.set_cons_succ])
                  refine takeL (i := 18) (v := ?_) rfl (by kernel_rfl) (by kernel_rfl) (by kernel_rfl) (fun _ _ _ h => h) ⟨by rfl, ?_⟩ (by assumption) ?_
                  rotate_left
                  · intro W9 hSw
                    (try dsimp only at hSw)
                    go_simp
                    try with_reducible rfl
                  (try simp only [Act.put, List.setIfInBounds_toArray, List.set_cons_zero, List.set_cons_succ])
                  refine takeL (i := 19) (v := ?_) rfl (by kernel_rfl) (by kernel_rfl) (by kernel_rfl) (fun _ _ _ h => h) ⟨by rfl, ?_⟩ (by assumption) ?_
                  rotate_left
                  · intro W9 hSw
                    (try dsimp only at hSw)
                    go_simp
                    try with_reducible rfl
                  (try simp only [Act.put, List.setIfInBounds_toArray, List.set_cons_zero, List.set_cons_succ])
                  refine takeL (i := 20) (v := ?_) rfl (by kernel_rfl) (by kernel_rfl) (by kernel_rfl) (fun _ _ _ h => h) ⟨by rfl, ?_⟩ (by assumption) ?_
                  rotate_left
                  · intro W9 hSw
                    (try dsimp only at hSw)
                    go_simp
                    try with_reducible rfl
                  (try simp only [Act.put, List.setIfInBounds_toArray, List.set_cons_zero, List.set_cons_succ])
                  refine takeL (i := 21) (v := ?_) rfl (by kernel_rfl) (by kernel_rfl) (by kernel_rfl) (fun _ _ _ h => h) ⟨by rfl, ?_⟩ (by assumption) ?_
                  rotate_left
                  · intro W9 hSw
                    (try dsimp only at hSw)
                    go_simp
                    try with_reducible rfl
                  (try simp only [Act.put, List.setIfInBounds_toArray, List.set_cons_zero, List.set_cons_succ])
                  refine takeL (i := 22) (v := ?_) rfl (by kernel_rfl) (by kernel_rfl) (by kernel_rfl) (fun _ _ _ h => h) ⟨by rfl, ?_⟩ (by assumption) ?_
                  rotate_left
                  · intro W9 hSw
                    (try dsimp only at hSw)
                    obtain ⟨s0, s1⟩ := hSw
                    go_simp
                    try with_reducible rfl
                  (try simp only [Act.put, List.setIfInBounds_toArray, List.set_cons_zero, List.set_cons_succ])
                  have kX : Wks wA w13.drew M bw gw br gr yr r ans ans := Q.out.next (Below.drew (Below.refl _ _))
                  have hX := hHeld
                  clear hHeld
                  generalize w13.drew = X at *
                  refine wpAnyH_ready (rs := [11]) (by kernel_rfl) (by simp) ?_
                  refine consL rfl (by rfl) (fun K hK => ?_) ?_
                  · skip
                    go_simp
                    go_at_call 12
                    refine (wks_got kX s.k s.y).mono ?_
                    rintro e X2 ⟨rfl, hb, kX2⟩
                    refine hK.out _ _ (hX.below hb (Nat.lt_of_lt_of_le hbb BA.out.size)) (fun hX' => ?_)
                    clear hK K kX hX hb
                    clear X
                    obtain ⟨X, rfl⟩ : ∃ x, x = X2 := ⟨_, rfl⟩
                    have kX := kX2; have hX := hX'; clear kX2 hX'
                    refine wpAnyH_ready (rs := [23]) (by kernel_rfl) (by simp) ?_
                    refine consL rfl (by rfl) (fun K hK => ?_) ?_
                    · skip
                      go_simp
                      go_at_call 22
                      refine (wks_rgot kX HRJ s.k s.y).mono ?_
                      rintro e X2 ⟨rfl, hb, kX2⟩
                      refine hK.out _ _ (hX.below hb (Nat.lt_of_lt_of_le hbb BA.out.size)) (fun hX' => ?_)
                      clear hK K kX hX hb
                      clear X
                      obtain ⟨X, rfl⟩ : ∃ x, x = X2 := ⟨_, rfl⟩
                      have kX := kX2; have hX := hX'; clear kX2 hX'
                      refine takeL (i := 24) (v := ?_) rfl (by kernel_rfl) (by kernel_rfl) (by kernel_rfl) (fun _ _ _ h => h) ⟨by rfl, ?_⟩ (by assumption) ?_
                      rotate_left
                      · intro W9 hSw
                        (try dsimp only at hSw)
                        go_simp
                        try with_reducible rfl
                      (try simp only [Act.put, List.setIfInBounds_toArray, List.set_cons_zero, List.set_cons_succ])
                      refine takeL (i := 25) (v := ?_) rfl (by kernel_rfl) (by kernel_rfl) (by kernel_rfl) (fun _ _ _ h => h) ⟨by rfl, ?_⟩ (by assumption) ?_
                      rotate_left
                      · intro W9 hSw
                        (try dsimp only at hSw)
                        go_simp
                        try with_reducible rfl
                      (try simp only [Act.put, List.setIfInBounds_toArray, List.set_cons_zero, List.set_cons_succ])
                      refine takeL (i := 26) (v := ?_) rfl (by kernel_rfl) (by kernel_rfl) (by kernel_rfl) (fun _ _ _ h => h) ⟨by rfl, ?_⟩ (by assumption) ?_
                      rotate_left
                      · intro W9 hSw
                        (try dsimp only at hSw)
                        go_simp
                        try with_reducible rfl
                      (try simp only [Act.put, List.setIfInBounds_toArray, List.set_cons_zero, List.set_cons_succ])
                      refine takeL (i := 28) (v := ?_) rfl (by kernel_rfl) (by kernel_rfl) (by kernel_rfl) (fun _ _ _ h => h) ⟨by rfl, ?_⟩ (by assumption) ?_
                      rotate_left
                      · intro W9 hSw
                        (try dsimp only at hSw)
                        go_simp
                        try with_reducible rfl
                      (try simp only [Act.put, List.setIfInBounds_toArray, List.set_cons_zero, List.set_cons_succ])
                      refine wpAnyH_ready (rs := [27]) (by kernel_rfl) (by simp) ?_
                      refine consL rfl (by rfl) (fun K hK => ?_) ?_
                      · skip
                        go_simp
                        go_at_call 13
                        refine (wks_want kX).mono ?_
                        rintro e X2 ⟨A1, c1, rfl, hr1, hb⟩
                        refine hK.out _ _ (hX.below hb (Nat.lt_of_lt_of_le hbb (Nat.le_trans BA.out.size kX.bel.size))) (fun hX' => ?_)
                        have kX2 := kX.next hb
                        replace hr1 := hr1.mono (Nat.zero_le _)
                        clear hK K kX hX hb
                        clear X
                        obtain ⟨X, rfl⟩ : ∃ x, x = X2 := ⟨_, rfl⟩
                        have kX := kX2; have hX := hX'; clear kX2 hX'
                        refine wpAnyH_ready (rs := [29]) (by kernel_rfl) (by simp) ?_
                        refine consL rfl (by rfl) (fun K hK => ?_) ?_
                        · skip
                          go_simp
                          go_at_call 24
                          refine (wks_rwant kX).mono ?_
                          rintro e X2 ⟨A2, c2, rfl, hr2, hb⟩
                          refine hK.out _ _ (hX.below hb (Nat.lt_of_lt_of_le hbb (Nat.le_trans BA.out.size kX.bel.size))) (fun hX' => ?_)
                          have kX2 := kX.next hb
                          replace hr2 := hr2.mono (Nat.zero_le _)
                          have hs1 := hr1.next hb; clear hr1; have hr1 := hs1; clear hs1
                          clear hK K kX hX hb
                          clear X
                          obtain ⟨X, rfl⟩ : ∃ x, x = X2 := ⟨_, rfl⟩
                          have kX := kX2; have hX := hX'; clear kX2 hX'
                          refine wpAnyH_ready (rs := [30]) (by kernel_rfl) (by simp) ?_
                          refine consL rfl (by rfl) (fun K hK => ?_) ?_
                          · skip
                            go_simp
                            go_at_call 23
                            refine (eq_texts rfl (by have := wantF_le r.l (gotA r.l ans s.k s.y); have h2 := kX.ex; obtain ⟨_, _, _, _, _, _, _, _, h3, _⟩ := h2; have h4 := h3.gn; have h5 := h3.rn; simp only [Rec.to] at h4 h5; omega) X.heap.size X.heap.size X hr1.rd hr2.rd).mono ?_
                            rintro e X2 ⟨rfl, m, rfl⟩
                            have hb : Below X.heap.size X (X.drewN m) := ⟨rfl, rfl, rfl, Nat.le_refl _, fun _ _ => rfl⟩
                            refine hK.out _ _ (hX.below hb (Nat.lt_of_lt_of_le hbb (Nat.le_trans BA.out.size kX.bel.size))) (fun hX' => ?_)
                            have kX2 := Lib.hid (kX.next hb)
                            clear hK K kX hX hb hr1 hr2
                            refine takeL (i := 31) (v := ?_) rfl (by kernel_rfl) (by kernel_rfl) (by kernel_rfl) (fun _ _ _ h => h) ⟨by rfl, ?_⟩ (by assumption) ?_
                            rotate_left
                            · intro W9 hSw
                              (try dsimp only at hSw)
                              go_simp
                              try with_reducible rfl
                            (try simp only [Act.put, List.setIfInBounds_toArray, List.set_cons_zero, List.set_cons_succ])
                            refine takeL (i := 32) (v := ?_) rfl (by kernel_rfl) (by kernel_rfl) (by kernel_rfl) (fun _ _ _ h => h) ⟨by rfl, ?_⟩ (by assumption) ?_
                            rotate_left
                            · intro W9 hSw
                              (try dsimp only at hSw)
                              go_simp
                              try with_reducible rfl
                            (try simp only [Act.put, List.setIfInBounds_toArray, List.set_cons_zero, List.set_cons_succ])
                            refine wpAnyH_done (by kernel_rfl) ?_ _
                            clear hX'
                            go_wp2_with fail
                            go_meet
                            case rel => exact ⟨rfl, kX2⟩
                          exact AllReadyH.nil
                        exact AllReadyH.nil
                      exact AllReadyH.nil
                    exact AllReadyH.nil
                  exact AllReadyH.nil
                case rest =>
                  obtain ⟨rfl, kq⟩ := hcut
                  obtain ⟨w14, rfl⟩ : ∃ x, x = wc := ⟨_, rfl⟩
                  clear T Q
                  generalize gotA r.l ans s.k s.y = ans at *
                  have HD1 := Lib.hid (wks_done kq.out)
                  have HD2 := Lib.hid (wks_rdone kq.out)
                  generalize wholeB ans = wh at *
                  generalize doneB ans = dn at *
                  go_wp2_with fail
                  refine HD1.out.mono ?_
                  rintro e w' ⟨rfl, rfl⟩
                  go_wp2_with fail
                  refine HD2.out.mono ?_
                  rintro e w' ⟨rfl, rfl⟩
                  clear HD1 HD2
                  go_wp2_with fail
                  exact ⟨⟨j + 1, ans, by omega, by go_num, kq⟩, by simp [intOf]; omega⟩
              · skip
                have hjn : nl = j := by omega
                subst hjn
                have i2 : ¬ ((nl : Int) < (nl : Int)) := by omega
                have R13 := Lib.hid (wks_rec Q.out)
                go_wp2_with fail
                refine R13.out.mono ?_
                rintro e w15 ⟨A9, c9, rfl, hrf, hb⟩
                obtain ⟨kb, off9, rfl, hkb, hkl, hcells⟩ := hrf (by intro e; have e1 := congrArg List.length e; rw [sv_length, HLR.out] at e1; simp at e1; omega)
                have LY : LyF w15 kb off9 r.l := ⟨fun i v hv => (hcells i v hv).1, fun i v hv => (hcells i v hv).2⟩
                have B15 := Lib.hid hb
                clear hb hcells hrf R13 i2
                go_upto_region 29 with (fail)
                have B16 : Hid (Below w13.heap.size w13 (w15.alloc (.cells #[.int .i32 r.nd, .int .i32 r.nu, .int .u8 r.st, .int .i64 r.at_.wall, .int .i32 r.at_.logic, .int .i32 r.at_.tag, .slice (some ⟨kb, off9, none⟩) r.n c9, .int .i64 r.beat, .int .i64 r.pu.wall, .int .i32 r.pu.logic, .int .i32 r.pu.tag] 30))) := Lib.hid (B15.out.alloc B15.out.size _)
                have T16 : Hid (BxQ (w15.alloc (.cells #[.int .i32 r.nd, .int .i32 r.nu, .int .u8 r.st, .int .i64 r.at_.wall, .int .i32 r.at_.logic, .int .i32 r.at_.tag, .slice (some ⟨kb, off9, none⟩) r.n c9, .int .i64 r.beat, .int .i64 r.pu.wall, .int .i32 r.pu.logic, .int .i32 r.pu.tag] 30)) w15.heap.size (r.to (some ⟨kb, off9, none⟩) c9)) := Lib.hid (BxQ.new w15 (r.to (some ⟨kb, off9, none⟩) c9) 30)
                have Y16 : Hid (LyF (w15.alloc (.cells #[.int .i32 r.nd, .int .i32 r.nu, .int .u8 r.st, .int .i64 r.at_.wall, .int .i32 r.at_.logic, .int .i32 r.at_.tag, .slice (some ⟨kb, off9, none⟩) r.n c9, .int .i64 r.beat, .int .i64 r.pu.wall, .int .i32 r.pu.logic, .int .i32 r.pu.tag] 30)) kb off9 r.l) := Lib.hid ⟨fun i v hv => (World.cell?_alloc_lt w15 (.cells #[.int .i32 r.nd, .int .i32 r.nu, .int .u8 r.st, .int .i64 r.at_.wall, .int .i32 r.at_.logic, .int .i32 r.at_.tag, .slice (some ⟨kb, off9, none⟩) r.n c9, .int .i64 r.beat, .int .i64 r.pu.wall, .int .i32 r.pu.logic, .int .i32 r.pu.tag] 30) ⟨kb, off9 + i, none⟩ hkl).trans (LY.c i v hv), fun i v hv => (World.frozen?_alloc_old (w := w15) (o := .cells #[.int .i32 r.nd, .int .i32 r.nu, .int .u8 r.st, .int .i64 r.at_.wall, .int .i32 r.at_.logic, .int .i32 r.at_.tag, .slice (some ⟨kb, off9, none⟩) r.n c9, .int .i64 r.beat, .int .i64 r.pu.wall, .int .i32 r.pu.logic, .int .i32 r.pu.tag] 30) (a := ⟨kb, off9 + i, none⟩) (Nat.ne_of_lt hkl)).trans (LY.f i v hv)⟩
                have kbl : kb < (w15.alloc (.cells #[.int .i32 r.nd, .int .i32 r.nu, .int .u8 r.st, .int .i64 r.at_.wall, .int .i32 r.at_.logic, .int .i32 r.at_.tag, .slice (some ⟨kb, off9, none⟩) r.n c9, .int .i64 r.beat, .int .i64 r.pu.wall, .int .i32 r.pu.logic, .int .i32 r.pu.tag] 30)).heap.size := by simp; omega
                clear LY
                generalize hw16 : w15.alloc (.cells #[.int .i32 r.nd, .int .i32 r.nu, .int .u8 r.st, .int .i64 r.at_.wall, .int .i32 r.at_.logic, .int .i32 r.at_.tag, .slice (some ⟨kb, off9, none⟩) r.n c9, .int .i64 r.beat, .int .i64 r.pu.wall, .int .i32 r.pu.logic, .int .i32 r.pu.tag] 30) = w16 at *
                generalize htb : w15.heap.size = tb at *
                clear hw16 htb B15
                go_wp2_with fail
                go_loopw [25] (fun i wr => ∃ (k : Nat) (ys : List ByteArray), k ≤ r.n ∧ i = .int .i64 k ∧ Hid (ys.length = r.n) ∧ Hid (LyF wr kb off9 ys) ∧ Hid (Only w16.heap.size kb w16 wr)) (fun i _ => r.n - (intOf i).toNat)
                case atStart => exact ⟨0, r.l, Nat.zero_le _, rfl, HLR, Y16, Lib.hid (Only.refl _ _ _)⟩
                case round =>
                  obtain ⟨k, ys, hk, rfl, hyl, hly, hon⟩ := hrel
                  clear Y16
                  have XX := Lib.hid (T16.out.only hon.out T16.out.lt (by omega))
                  obtain ⟨x0, x1, x2, x3, x4, x5, x6, x7, x8, x9, x10, x11, x12⟩ := XX.out
                  try dsimp only [Rec.to] at x2 x3 x4 x5 x6 x7 x8 x9 x10 x11 x12
                  by_cases hlt : k < r.n
                  · skip
                    have hky : k < ys.length := by rw [hyl.out]; omega
                    have hcx := hly.out.c k _ (sv_get ys k hky)
                    have hfx := hly.out.f k _ (sv_get ys k hky)
                    have LP := Lib.hid (hly.out.put k hky ⟨#[111, 118, 101, 114]⟩)
                    have OP := Lib.hid (hon.out.setCell (p := ⟨kb, off9 + k, none⟩) (.inl rfl) (.string ⟨#[111, 118, 101, 114]⟩))
                    generalize ys[k] = yk at *
                    have i1 : (k : Int) < (r.n : Int) := by omega
                    have i0 : (0 : Int) ≤ (k : Int) := by omega
                    go_wp2
                    exact ⟨⟨k + 1, ys.set k ⟨#[111, 118, 101, 114]⟩, by omega, by go_num, Lib.hid (by rw [List.length_set]; exact hyl.out), LP, OP⟩, by simp [intOf]; omega⟩
                  · skip
                    have i2 : ¬ ((k : Int) < (r.n : Int)) := by omega
                    obtain ⟨w17, rfl⟩ : ∃ x, x = wr := ⟨_, rfl⟩
                    have B17 : Below w13.heap.size w13 w17 := B16.out.trans ((hon.out.mono B16.out.size).to_below hkb)
                    have K17 := Lib.hid (Q.out.next B17)
                    go_wp2_with fail
                    clear XX T16 B16 hly hon i2 B17 Q hyl
                    clear x0 x1 x2 x3 x4 x5 x6 x7 x8 x9 x10 x11 x12
                    have X17 := Lib.hid (XA.out.next K17.out.bel)
                    refine wp_heldcut (S := fun W => BxQ W b0 r) 4 (by kernel_rfl) (by kernel_rfl) (X17.out.next (Below.drew (Below.refl _ _))) (fun hHeld => ?_)
                    simp only [List.take_succ_cons, List.take_zero]
                    refine takeL (i := 0) (v := ?_) rfl (by kernel_rfl) (by kernel_rfl) (by kernel_rfl) (fun _ _ _ h => h) ⟨by rfl, ?_⟩ (by assumption) ?_
                    rotate_left
                    · intro W9 hSw
                      (try dsimp only at hSw)
                      obtain ⟨s0, s1, s2, s3, s4, s5, s6, s7, s8, s9, s10, s11, s12⟩ := hSw
                      go_simp
                      try with_reducible rfl
                    (try simp only [Act.put, List.setIfInBounds_toArray, List.set_cons_zero, List.set_cons_succ])
                    refine takeL (i := 2) (v := ?_) rfl (by kernel_rfl) (by kernel_rfl) (by kernel_rfl) (fun _ _ _ h => h) ⟨by rfl, ?_⟩ (by assumption) ?_
                    rotate_left
                    · intro W9 hSw
                      (try dsimp only at hSw)
                      obtain ⟨s0, s1, s2, s3, s4, s5, s6, s7, s8, s9, s10, s11, s12⟩ := hSw
                      go_simp
                      try with_reducible rfl
                    (try simp only [Act.put, List.setIfInBounds_toArray, List.set_cons_zero, List.set_cons_succ])
                    have kX : Wks wA w17.drew M bw gw br gr yr r ans ans := K17.out.next (Below.drew (Below.refl _ _))
                    have hX := hHeld
                    clear hHeld X17 K17
                    generalize w17.drew = X at *
                    refine wpAnyH_ready (rs := [1]) (by kernel_rfl) (by simp) ?_
                    refine consL rfl (by rfl) (fun K hK => ?_) ?_
                    · skip
                      go_simp
                      go_at_call 15
                      refine (wks_rec kX).mono ?_
                      rintro e X2 ⟨A8, c8, rfl, hr8, hb⟩
                      refine hK.out _ _ (hX.next hb) (fun hX' => ?_)
                      have kX2 := kX.next hb
                      have hr9 := hr8.rdn.mono (Nat.zero_le _)
                      clear hK K kX hX hb hr8
                      clear X
                      obtain ⟨X, rfl⟩ : ∃ x, x = X2 := ⟨_, rfl⟩
                      have kX := kX2; have hX := hX'; clear kX2 hX'
                      refine wpAnyH_ready (rs := [3]) (by kernel_rfl) (by simp) ?_
                      refine consL rfl (by rfl) (fun K hK => ?_) ?_
                      · skip
                        go_simp
                        go_at_call 14
                        refine (rsame_yes (r.to A8 c8) r.A r.c HLR.out (by show r.n ≤ _; omega) X.heap.size X hr9.rd ((HR.out X (BA.out.trans (kX.bel.mono BA.out.size))).more (Nat.le_trans BA.out.size kX.bel.size)) (Nat.le_refl _)).mono ?_
                        rintro e X2 ⟨rfl, hb⟩
                        refine hK.out _ _ (hX.next hb) (fun hX' => ?_)
                        have kX2 := Lib.hid (kX.next hb)
                        clear hK K kX hX hb hX'
                        refine wpAnyH_done (by kernel_rfl) ?_ _
                        simp only [tailPost, List.drop_succ_cons, List.drop_zero]
                        go_wp2_with fail
                        go_ret
                        exact ⟨rfl, BA.out.trans (kX2.out.bel.mono BA.out.size)⟩
                      exact AllReadyH.nil
                    exact AllReadyH.nil
      · skip
        have e1 : (EN == 0) = false := by simpa using hE
        go_wp2_with fail
        refine (HNN.out w8 hE C8.out).mono ?_
        rintro e w9 ⟨rfl, hb⟩
        have C9 := Lib.hid (C8.out.next hb)
        clear hb C8 z0 z1 z2 z3 z4 z5 z6 z7 z8 z9 z10 z11 z12 HNO HNN HMO
        obtain ⟨x0, x1, x2, x3, x4, x5, x6, x7, x8, x9, x10, x11, x12⟩ := C9.out.x
        go_wp2_with fail
        refine (HMN.out w9 hE C9.out).mono ?_
        rintro e w10 ⟨rfl, hb⟩
        have C10 := Lib.hid (C9.out.next hb)
        clear hb C9 x0 x1 x2 x3 x4 x5 x6 x7 x8 x9 x10 x11 x12 HMN
        obtain ⟨x0, x1, x2, x3, x4, x5, x6, x7, x8, x9, x10, x11, x12⟩ := C10.out.x
        obtain ⟨z0, z1, z2, z3, z4, z5, z6, z7, z8, z9, z10, z11, z12⟩ := C10.out.l
        try dsimp only [Rec.to] at z2 z3 z4 z5 z6 z7 z8 z9 z10 z11 z12
        go_wp2_with fail
        refine (HSA.out w10 C10.out).mono ?_
        rintro e w11 ⟨rfl, hb⟩
        have C11 := Lib.hid (C10.out.next hb)
        clear hb C10 x0 x1 x2 x3 x4 x5 x6 x7 x8 x9 x10 x11 x12 z0 z1 z2 z3 z4 z5 z6 z7 z8 z9 z10 z11 z12 HSA
        go_wp2_with fail
        go_ret
        exact ⟨rfl, BA.out.trans (C11.out.bel.mono BA.out.size)⟩
  · skip
    have i100 : (100 : Int) < (nl : Int) := by omega
    have D1 := Lib.hid hb
    clear hb
    go_wp2_with fail
    go_ret
    exact ⟨rfl, BA.out.trans (D1.out.mono BA.out.size)⟩
end Go.Proofs.Ythigmjcepbgljaa
