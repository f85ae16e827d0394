/- The walk: of any record what may become of it, by the program and by the document. -/
import Derived.Test.YthigmjcepbgljaaVr
import Derived.Test.YthigmjcepbgljaaVl
import Derived.Test.YthigmjcepbgljaaVk
import Derived.Test.YthigmjcepbgljaaVj
import Derived.Test.YthigmjcepbgljaaVi
import Derived.Test.YthigmjcepbgljaaVh
import Derived.Test.YthigmjcepbgljaaVgb
import Derived.Test.YthigmjcepbgljaaVg
import Derived.Test.YthigmjcepbgljaaVfb
namespace Go.Proofs.Ythigmjcepbgljaa
open Go.RowKit Go.St
set_option linter.unusedVariables false
set_option linter.unusedSimpArgs false
set_option maxRecDepth 100000

/-- What is carried through the walk: the record, the stamp, the record with keys of its own. -/
structure PkC (w W : World) (r : Rec) (s : Stp) (xb g cx : Nat) : Prop where
  bel : Below w.heap.size w W
  x : BxQ W w.heap.size r
  s : BxS W (w.heap.size + 1) s
  o : BxQ W xb (r.to (some ⟨g, 0, none⟩) cx)
  own : Rd W xb (some ⟨g, 0, none⟩) (sv r.l ++ [behind])
  hb : w.heap.size + 1 < xb
theorem PkC.le {w W : World} {r : Rec} {s : Stp} {xb g cx : Nat} (h : PkC w W r s xb g cx) : xb ≤ W.heap.size := Nat.le_of_lt h.o.lt
theorem PkC.next {w W W' : World} {r : Rec} {s : Stp} {xb g cx : Nat} (h : PkC w W r s xb g cx) (hb : Below W.heap.size W W') : PkC w W' r s xb g cx :=
  ⟨h.bel.trans (hb.mono h.bel.size), h.x.next hb, h.s.next hb, h.o.next hb, h.own.below (hb.mono h.le), h.hb⟩
theorem PkC.alloc {w W : World} {r : Rec} {s : Stp} {xb g cx : Nat} (h : PkC w W r s xb g cx) (o : Obj) : PkC w (W.alloc o) r s xb g cx := h.next ((Below.refl _ _).alloc (Nat.le_refl _) o)
theorem PkC.setR {w W : World} {r : Rec} {s : Stp} {xb g cx : Nat} (h : PkC w W r s xb g cx) {b : Nat} (hb : xb < b) (q : Rec) : PkC w (Go.Proofs.Ythigmjcepbgljaa.setR W b q) r s xb g cx := by
  have h1 := h.hb
  have h2 : ∀ p : Addr, p.block < b → (Go.Proofs.Ythigmjcepbgljaa.setR W b q).cell? p = W.cell? p := fun p hp => by
    have : Below b W (Go.Proofs.Ythigmjcepbgljaa.setR W b q) := bel_setR (Below.refl _ _) (Nat.le_refl _) q
    exact this.cell hp
  exact ⟨bel_setR h.bel (by omega) q, h.x.setO _ (by omega) q, h.s.setR (by omega) q, h.o.setO _ (by omega) q, h.own.keep (fun p hp => h2 p (by omega)), h.hb⟩
theorem PkC.keys {w W : World} {r : Rec} {s : Stp} {xb g cx : Nat} (h : PkC w W r s xb g cx) : Rd W xb (some ⟨g, 0, none⟩) (sv r.l) := by
  have := h.own.take (sv r.l).length
  rwa [List.take_left'] at this
  rfl
theorem told_is {W : World} {lo lo' : Nat} {O : Rec} {E : Int} {A A' : Option Addr} {c c' : Nat} (h : RdN W lo A (sv O.l)) (h' : RdN W lo' A' (sv O.l)) (hl : fit O) (hn : O.n ≤ 140737488355328) (W' : World) (hb : Below W.heap.size W W') :
    Calls Try.prog 44 #[.agg #[.int .i32 O.nd, .int .i32 O.nu, .int .u8 O.st, .int .i64 O.at_.wall, .int .i32 O.at_.logic, .int .i32 O.at_.tag, .slice A O.n c, .int .i64 O.beat, .int .i64 O.pu.wall, .int .i32 O.pu.logic, .int .i32 O.pu.tag], .int .i64 E, .agg #[.int .i32 O.nd, .int .i32 O.nu, .int .u8 O.st, .int .i64 O.at_.wall, .int .i32 O.at_.logic, .int .i32 O.at_.tag, .slice A' O.n c', .int .i64 O.beat, .int .i64 O.pu.wall, .int .i32 O.pu.logic, .int .i32 O.pu.tag], .int .i64 E] W' fun e w' => e = .returned (.bool true) ∧ Below W'.heap.size W' w' :=
  told_yes (O.to A c) E A' c' hl (show O.n ≤ _ by omega) W.heap.size W' (h.rd.below hb) (h'.rd.below hb) hb.size
theorem wrap_tmod2 (x : Int) : IntKind.i64.wrap (x.tmod 2) = x.tmod 2 := by
  have h : x.tmod 2 = x % 2 - ((if 0 ≤ x ∨ (2 : Int) ∣ x then 0 else (2 : Int).natAbs : Nat) : Int) := Int.tmod_eq_emod
  refine IntWalk.i64_in _ ?_
  rw [h]
  split <;> omega
theorem n_stage (r : Rec) (a : Stp) {n : Nat} {l : List ByteArray} (h : n * 16 ≤ 140737488355328) (wall : Int) : (stageO r a n l wall).n ≤ 140737488355328 := by unfold stageO; split; (show n ≤ _; omega); (show (0 : Nat) ≤ _; omega)
theorem n_commit (r : Rec) (a : Stp) {n : Nat} {l : List ByteArray} (h : n * 16 ≤ 140737488355328) : (commitO r a n l).n ≤ 140737488355328 := by unfold commitO; split; (show n ≤ _; omega); (show (0 : Nat) ≤ _; omega)
theorem n_abort (r : Rec) : (abortO r).n ≤ 140737488355328 := by unfold abortO; split <;> exact Nat.zero_le _
theorem n_kill (r : Rec) : (killO r).n ≤ 140737488355328 := by unfold killO; split <;> exact Nat.zero_le _
theorem n_push {r : Rec} (h : r.n * 16 ≤ 140737488355328) (a : Stp) : (pushO r a).n ≤ 140737488355328 := by unfold pushO; split; (show r.n ≤ _; omega); exact Nat.zero_le _
theorem n_settle {r : Rec} (h : r.n * 16 ≤ 140737488355328) (a : Stp) (b : Bool) : (settleO r a b).n ≤ 140737488355328 := by unfold settleO; split; split; (show r.n ≤ _; omega); exact Nat.zero_le _; exact Nat.zero_le _
theorem n_beat {r : Rec} (h : r.n * 16 ≤ 140737488355328) (wall : Int) : (beatO r wall).n ≤ 140737488355328 := by unfold beatO; split; (show r.n ≤ _; omega); exact Nat.zero_le _
theorem n_fresh (nd nu wall : Int) : (freshO nd nu wall).n ≤ 140737488355328 := by unfold freshO; split <;> exact Nat.zero_le _

set_option maxHeartbeats 12800000 in
theorem recordCalls_walk (w : World) (r : Rec) (hl : fit r) (hn : (r.n + 1) * 16 ≤ 140737488355328) (hr : Rd w w.heap.size r.A (sv r.l)) (s : Stp) (A2 : Option Addr) (n2 c2 : Nat) (l2 : List ByteArray) (hl2 : l2.length = n2) (hn2 : n2 * 16 ≤ 140737488355328) (hk : Rd w w.heap.size A2 (sv l2)) (wall : Int) (hw : -9223372036854775808 ≤ wall ∧ wall ≤ 9223372036854775807) :
    Calls Try.prog 9 #[r.v, stv s, .slice A2 n2 c2, .int .i64 wall] w fun e w' => e = .returned (.bool true) ∧ Below w.heap.size w w' := by
  have HR := Lib.hid (fun W (h : Below w.heap.size w W) => hr.below h)
  have HK := Lib.hid (fun W (h : Below w.heap.size w W) => hk.below h)
  have HOWN := Lib.hid (fun W (h : Below w.heap.size w W) => ownR_any r hl hn w.heap.size W (hr.below h) h.size)
  have hn1 : r.n * 16 ≤ 140737488355328 := by omega
  clear hr hk
  unfold Rec.v at HOWN
  unfold Rec.v stv
  go_enter Try.func9, Try.ntmps9
  go_wp2_with fail
  refine (HOWN.out _ (by go_grown)).mono ?_
  rintro e w1 ⟨g, cx, rfl, own, hb⟩
  clear HOWN
  dsimp only [Rec.v, Rec.to]
  have hcx : r.n + 1 ≤ cx := own_cap own
  have hgx : g < w1.heap.size := (own.lt g rfl).2
  have hs1 : w.heap.size + 1 < w1.heap.size := by have := hb.size; simp at this; omega
  have X1 := BxQ.new w r 30
  have X1 := (X1.alloc (.cells #[.int .i64 s.wall, .int .i32 s.logic, .int .i32 s.tag] 27)).next hb
  have S1 := BxS.new (w.alloc (.cells #[.int .i32 r.nd, .int .i32 r.nu, .int .u8 r.st, .int .i64 r.at_.wall, .int .i32 r.at_.logic, .int .i32 r.at_.tag, .slice r.A r.n r.c, .int .i64 r.beat, .int .i64 r.pu.wall, .int .i32 r.pu.logic, .int .i32 r.pu.tag] 30)) s 27
  rw [World.size_alloc] at S1
  have S1 := S1.next hb
  have P1 : Below w.heap.size w w1 := Below.go (by go_grown) hb (by simp; omega)
  go_upto_region 2 with (fail)
  have P2 : PkC w (w1.alloc (.cells #[.int .i32 r.nd, .int .i32 r.nu, .int .u8 r.st, .int .i64 r.at_.wall, .int .i32 r.at_.logic, .int .i32 r.at_.tag, .slice (some ⟨g, 0, none⟩) r.n cx, .int .i64 r.beat, .int .i64 r.pu.wall, .int .i32 r.pu.logic, .int .i32 r.pu.tag] 30)) r s w1.heap.size g cx :=
    ⟨P1.alloc P1.size _, X1.alloc _, S1.alloc _, BxQ.new w1 (r.to (some ⟨g, 0, none⟩) cx) 30, (Rd.own own).alloc (Nat.le_refl _) _, hs1⟩
  have P2 := Lib.hid P2
  clear own hb X1 S1 P1
  generalize hw2 : (w1.alloc (.cells #[.int .i32 r.nd, .int .i32 r.nu, .int .u8 r.st, .int .i64 r.at_.wall, .int .i32 r.at_.logic, .int .i32 r.at_.tag, .slice (some ⟨g, 0, none⟩) r.n cx, .int .i64 r.beat, .int .i64 r.pu.wall, .int .i32 r.pu.logic, .int .i32 r.pu.tag] 30)) = w2 at *
  generalize hx2 : w1.heap.size = xb at *
  clear hw2 hx2
  obtain ⟨O1, E1, fit1, nb1, H1, G1⟩ : ∃ (O : Rec) (E : Int), Hid (fit O) ∧ Hid (O.n ≤ 140737488355328) ∧ Hid (∀ W, PkC w W r s xb g cx → Calls Try.prog 29 #[.agg #[.int .i32 r.nd, .int .i32 r.nu, .int .u8 r.st, .int .i64 r.at_.wall, .int .i32 r.at_.logic, .int .i32 r.at_.tag, .slice (some ⟨g, 0, none⟩) r.n cx, .int .i64 r.beat, .int .i64 r.pu.wall, .int .i32 r.pu.logic, .int .i32 r.pu.tag], .agg #[.int .i64 s.wall, .int .i32 s.logic, .int .i32 s.tag], .slice A2 n2 c2, .int .i64 wall] W (OutR O E W)) ∧ Hid (∀ W, PkC w W r s xb g cx → Calls Try.prog 33 #[.agg #[.int .i32 r.nd, .int .i32 r.nu, .int .u8 r.st, .int .i64 r.at_.wall, .int .i32 r.at_.logic, .int .i32 r.at_.tag, .slice r.A r.n r.c, .int .i64 r.beat, .int .i64 r.pu.wall, .int .i32 r.pu.logic, .int .i32 r.pu.tag], .agg #[.int .i64 s.wall, .int .i32 s.logic, .int .i32 s.tag], .slice A2 n2 c2, .int .i64 wall] W (OutR O E W)) :=
    ⟨stageO r s n2 l2 wall, stageE r s n2 l2 wall, Lib.hid (fit_stage r s hl2 wall), Lib.hid (n_stage r s hn2 wall), Lib.hid (fun W P => stage_any (r.to (some ⟨g, 0, none⟩) cx) s A2 n2 c2 l2 wall hl hl2 hn2 xb W P.keys ((HK.out W P.bel).more (Nat.le_of_lt (Nat.lt_of_succ_lt P.hb))) P.le), Lib.hid (fun W P => rstage_any r s A2 n2 c2 l2 wall hl hl2 hn2 w.heap.size W (HR.out W P.bel) (HK.out W P.bel) P.bel.size)⟩
  obtain ⟨O2, E2, fit2, nb2, H2, G2⟩ : ∃ (O : Rec) (E : Int), Hid (fit O) ∧ Hid (O.n ≤ 140737488355328) ∧ Hid (∀ W, PkC w W r s xb g cx → Calls Try.prog 30 #[.agg #[.int .i32 r.nd, .int .i32 r.nu, .int .u8 r.st, .int .i64 r.at_.wall, .int .i32 r.at_.logic, .int .i32 r.at_.tag, .slice (some ⟨g, 0, none⟩) r.n cx, .int .i64 r.beat, .int .i64 r.pu.wall, .int .i32 r.pu.logic, .int .i32 r.pu.tag], .agg #[.int .i64 s.wall, .int .i32 s.logic, .int .i32 s.tag], .slice A2 n2 c2] W (OutR O E W)) ∧ Hid (∀ W, PkC w W r s xb g cx → Calls Try.prog 34 #[.agg #[.int .i32 r.nd, .int .i32 r.nu, .int .u8 r.st, .int .i64 r.at_.wall, .int .i32 r.at_.logic, .int .i32 r.at_.tag, .slice r.A r.n r.c, .int .i64 r.beat, .int .i64 r.pu.wall, .int .i32 r.pu.logic, .int .i32 r.pu.tag], .agg #[.int .i64 s.wall, .int .i32 s.logic, .int .i32 s.tag], .slice A2 n2 c2] W (OutR O E W)) :=
    ⟨commitO r s n2 l2, commitE r s n2 l2, Lib.hid (fit_commit r s hl2), Lib.hid (n_commit r s hn2), Lib.hid (fun W P => commit_any (r.to (some ⟨g, 0, none⟩) cx) s A2 n2 c2 l2 hl hl2 hn2 xb W P.keys ((HK.out W P.bel).more (Nat.le_of_lt (Nat.lt_of_succ_lt P.hb))) P.le), Lib.hid (fun W P => rcommit_any r s A2 n2 c2 l2 hl hl2 hn2 w.heap.size W (HR.out W P.bel) (HK.out W P.bel) P.bel.size)⟩
  obtain ⟨O3, E3, fit3, nb3, H3, G3⟩ : ∃ (O : Rec) (E : Int), Hid (fit O) ∧ Hid (O.n ≤ 140737488355328) ∧ Hid (∀ W, PkC w W r s xb g cx → Calls Try.prog 41 #[.agg #[.int .i32 r.nd, .int .i32 r.nu, .int .u8 r.st, .int .i64 r.at_.wall, .int .i32 r.at_.logic, .int .i32 r.at_.tag, .slice (some ⟨g, 0, none⟩) r.n cx, .int .i64 r.beat, .int .i64 r.pu.wall, .int .i32 r.pu.logic, .int .i32 r.pu.tag]] W (OutR O E W)) ∧ Hid (∀ W, PkC w W r s xb g cx → Calls Try.prog 45 #[.agg #[.int .i32 r.nd, .int .i32 r.nu, .int .u8 r.st, .int .i64 r.at_.wall, .int .i32 r.at_.logic, .int .i32 r.at_.tag, .slice r.A r.n r.c, .int .i64 r.beat, .int .i64 r.pu.wall, .int .i32 r.pu.logic, .int .i32 r.pu.tag]] W (OutR O E W)) :=
    ⟨abortO r, abortE r, Lib.hid (fit_abort r), Lib.hid (n_abort r), Lib.hid (fun W P => abort_any (r.to (some ⟨g, 0, none⟩) cx) hl xb W P.keys P.le hn1), Lib.hid (fun W P => rabort_any r hl w.heap.size W (HR.out W P.bel) P.bel.size hn1)⟩
  obtain ⟨O4, E4, fit4, nb4, H4, G4⟩ : ∃ (O : Rec) (E : Int), Hid (fit O) ∧ Hid (O.n ≤ 140737488355328) ∧ Hid (∀ W, PkC w W r s xb g cx → Calls Try.prog 40 #[.agg #[.int .i32 r.nd, .int .i32 r.nu, .int .u8 r.st, .int .i64 r.at_.wall, .int .i32 r.at_.logic, .int .i32 r.at_.tag, .slice (some ⟨g, 0, none⟩) r.n cx, .int .i64 r.beat, .int .i64 r.pu.wall, .int .i32 r.pu.logic, .int .i32 r.pu.tag]] W (OutR O E W)) ∧ Hid (∀ W, PkC w W r s xb g cx → Calls Try.prog 46 #[.agg #[.int .i32 r.nd, .int .i32 r.nu, .int .u8 r.st, .int .i64 r.at_.wall, .int .i32 r.at_.logic, .int .i32 r.at_.tag, .slice r.A r.n r.c, .int .i64 r.beat, .int .i64 r.pu.wall, .int .i32 r.pu.logic, .int .i32 r.pu.tag]] W (OutR O E W)) :=
    ⟨killO r, killE r, Lib.hid (fit_kill r), Lib.hid (n_kill r), Lib.hid (fun W P => kill_any (r.to (some ⟨g, 0, none⟩) cx) hl xb W P.keys P.le hn1), Lib.hid (fun W P => rkill_any r hl w.heap.size W (HR.out W P.bel) P.bel.size hn1)⟩
  obtain ⟨O5, E5, fit5, nb5, H5, G5⟩ : ∃ (O : Rec) (E : Int), Hid (fit O) ∧ Hid (O.n ≤ 140737488355328) ∧ Hid (∀ W, PkC w W r s xb g cx → Calls Try.prog 39 #[.agg #[.int .i32 r.nd, .int .i32 r.nu, .int .u8 r.st, .int .i64 r.at_.wall, .int .i32 r.at_.logic, .int .i32 r.at_.tag, .slice (some ⟨g, 0, none⟩) r.n cx, .int .i64 r.beat, .int .i64 r.pu.wall, .int .i32 r.pu.logic, .int .i32 r.pu.tag], .agg #[.int .i64 s.wall, .int .i32 s.logic, .int .i32 s.tag]] W (OutR O E W)) ∧ Hid (∀ W, PkC w W r s xb g cx → Calls Try.prog 47 #[.agg #[.int .i32 r.nd, .int .i32 r.nu, .int .u8 r.st, .int .i64 r.at_.wall, .int .i32 r.at_.logic, .int .i32 r.at_.tag, .slice r.A r.n r.c, .int .i64 r.beat, .int .i64 r.pu.wall, .int .i32 r.pu.logic, .int .i32 r.pu.tag], .agg #[.int .i64 s.wall, .int .i32 s.logic, .int .i32 s.tag]] W (OutR O E W)) :=
    ⟨pushO r s, pushE r s, Lib.hid (fit_push hl s), Lib.hid (n_push hn1 s), Lib.hid (fun W P => push_any (r.to (some ⟨g, 0, none⟩) cx) s hl xb W P.keys P.le hn1), Lib.hid (fun W P => rpush_any r s hl w.heap.size W (HR.out W P.bel) P.bel.size hn1)⟩
  obtain ⟨O6, E6, fit6, nb6, H6, G6⟩ : ∃ (O : Rec) (E : Int), Hid (fit O) ∧ Hid (O.n ≤ 140737488355328) ∧ Hid (∀ W, PkC w W r s xb g cx → Calls Try.prog 27 #[.agg #[.int .i32 r.nd, .int .i32 r.nu, .int .u8 r.st, .int .i64 r.at_.wall, .int .i32 r.at_.logic, .int .i32 r.at_.tag, .slice (some ⟨g, 0, none⟩) r.n cx, .int .i64 r.beat, .int .i64 r.pu.wall, .int .i32 r.pu.logic, .int .i32 r.pu.tag], .agg #[.int .i64 s.wall, .int .i32 s.logic, .int .i32 s.tag], .bool ((wall.tmod 2) == 0)] W (OutR O E W)) ∧ Hid (∀ W, PkC w W r s xb g cx → Calls Try.prog 48 #[.agg #[.int .i32 r.nd, .int .i32 r.nu, .int .u8 r.st, .int .i64 r.at_.wall, .int .i32 r.at_.logic, .int .i32 r.at_.tag, .slice r.A r.n r.c, .int .i64 r.beat, .int .i64 r.pu.wall, .int .i32 r.pu.logic, .int .i32 r.pu.tag], .agg #[.int .i64 s.wall, .int .i32 s.logic, .int .i32 s.tag], .bool ((wall.tmod 2) == 0)] W (OutR O E W)) :=
    ⟨settleO r s ((wall.tmod 2) == 0), settleE r s, Lib.hid (fit_settle hl s _), Lib.hid (n_settle hn1 s _), Lib.hid (fun W P => settle_any (r.to (some ⟨g, 0, none⟩) cx) s _ hl xb W P.keys P.le hn1), Lib.hid (fun W P => rsettle_any r s _ hl w.heap.size W (HR.out W P.bel) P.bel.size hn1)⟩
  obtain ⟨O7, E7, fit7, nb7, H7, G7⟩ : ∃ (O : Rec) (E : Int), Hid (fit O) ∧ Hid (O.n ≤ 140737488355328) ∧ Hid (∀ W, PkC w W r s xb g cx → Calls Try.prog 32 #[.agg #[.int .i32 r.nd, .int .i32 r.nu, .int .u8 r.st, .int .i64 r.at_.wall, .int .i32 r.at_.logic, .int .i32 r.at_.tag, .slice (some ⟨g, 0, none⟩) r.n cx, .int .i64 r.beat, .int .i64 r.pu.wall, .int .i32 r.pu.logic, .int .i32 r.pu.tag], .int .i64 wall] W (OutR O E W)) ∧ Hid (∀ W, PkC w W r s xb g cx → Calls Try.prog 35 #[.agg #[.int .i32 r.nd, .int .i32 r.nu, .int .u8 r.st, .int .i64 r.at_.wall, .int .i32 r.at_.logic, .int .i32 r.at_.tag, .slice r.A r.n r.c, .int .i64 r.beat, .int .i64 r.pu.wall, .int .i32 r.pu.logic, .int .i32 r.pu.tag], .int .i64 wall] W (OutR O E W)) :=
    ⟨beatO r wall, beatE r wall, Lib.hid (fit_beat hl wall), Lib.hid (n_beat hn1 wall), Lib.hid (fun W P => beat_any (r.to (some ⟨g, 0, none⟩) cx) wall hl xb W P.keys P.le hn1), Lib.hid (fun W P => rbeat_any r wall hl w.heap.size W (HR.out W P.bel) P.bel.size hn1)⟩
  obtain ⟨O8, E8, fit8, nb8, H8, G8⟩ : ∃ (O : Rec) (E : Int), Hid (fit O) ∧ Hid (O.n ≤ 140737488355328) ∧ Hid (∀ W, PkC w W r s xb g cx → Calls Try.prog 37 #[.agg #[.int .i32 r.nd, .int .i32 r.nu], .int .i64 wall] W (OutR O E W)) ∧ Hid (∀ W, PkC w W r s xb g cx → Calls Try.prog 49 #[.agg #[.int .i32 r.nd, .int .i32 r.nu], .int .i64 wall] W (OutR O E W)) :=
    ⟨freshO r.nd r.nu wall, freshE r.nd r.nu wall, Lib.hid (fit_fresh _ _ _), Lib.hid (n_fresh _ _ _), Lib.hid (fun W P => fresh_any r.nd r.nu wall W), Lib.hid (fun W P => rfresh_any r.nd r.nu wall W)⟩
  have HC : Hid (∀ W, PkC w W r s xb g cx → Calls Try.prog 42 #[.agg #[.int .i32 r.nd, .int .i32 r.nu, .int .u8 r.st, .int .i64 r.at_.wall, .int .i32 r.at_.logic, .int .i32 r.at_.tag, .slice (some ⟨g, 0, none⟩) r.n cx, .int .i64 r.beat, .int .i64 r.pu.wall, .int .i32 r.pu.logic, .int .i32 r.pu.tag]] W (fun e w' => e = .returned (.int .i64 (chkR r)) ∧ Below W.heap.size W w')) := Lib.hid (fun W P => reccheck_any (r.to (some ⟨g, 0, none⟩) cx) hl xb W P.keys P.le)
  have GC : Hid (∀ W, PkC w W r s xb g cx → Calls Try.prog 43 #[.agg #[.int .i32 r.nd, .int .i32 r.nu, .int .u8 r.st, .int .i64 r.at_.wall, .int .i32 r.at_.logic, .int .i32 r.at_.tag, .slice r.A r.n r.c, .int .i64 r.beat, .int .i64 r.pu.wall, .int .i32 r.pu.logic, .int .i32 r.pu.tag]] W (fun e w' => e = .returned (.int .i64 (chkR r)) ∧ Below W.heap.size W w')) := Lib.hid (fun W P => rreccheck_any r hl w.heap.size W (HR.out W P.bel) P.bel.size)
  have HT : Hid (∀ W, Calls Try.prog 50 #[.agg #[.int .i32 r.nd, .int .i32 r.nu]] W (fun e w' => e = .returned (.tuple #[.int .i32 (tagV r.nd r.nu), .int .i64 (tagE r.nd r.nu)]) ∧ Below W.heap.size W w')) := Lib.hid (fun W => tag_any r.nd r.nu W)
  have GT : Hid (∀ W, Calls Try.prog 51 #[.agg #[.int .i32 r.nd, .int .i32 r.nu]] W (fun e w' => e = .returned (.tuple #[.int .i32 (tagV r.nd r.nu), .int .i64 (tagE r.nd r.nu)]) ∧ Below W.heap.size W w')) := Lib.hid (fun W => rtag_any r.nd r.nu W)
  have HS : Hid (∀ W, PkC w W r s xb g cx → Calls Try.prog 52 #[.agg #[.int .i32 r.nd, .int .i32 r.nu, .int .u8 r.st, .int .i64 r.at_.wall, .int .i32 r.at_.logic, .int .i32 r.at_.tag, .slice (some ⟨g, 0, none⟩) r.n cx, .int .i64 r.beat, .int .i64 r.pu.wall, .int .i32 r.pu.logic, .int .i32 r.pu.tag], .agg #[.int .i32 r.nd, .int .i32 r.nu, .int .u8 r.st, .int .i64 r.at_.wall, .int .i32 r.at_.logic, .int .i32 r.at_.tag, .slice r.A r.n r.c, .int .i64 r.beat, .int .i64 r.pu.wall, .int .i32 r.pu.logic, .int .i32 r.pu.tag]] W (fun e w' => e = .returned (.bool true) ∧ Below W.heap.size W w')) := Lib.hid (fun W P => same_yes (r.to (some ⟨g, 0, none⟩) cx) r.A r.c hl (show r.n ≤ _ by omega) xb W P.keys ((HR.out W P.bel).more (Nat.le_of_lt (Nat.lt_of_succ_lt P.hb))) P.le)
  have HKE : Hid (∀ W, PkC w W r s xb g cx → Calls Try.prog 53 #[.agg #[.int .i32 r.nd, .int .i32 r.nu, .int .u8 r.st, .int .i64 r.at_.wall, .int .i32 r.at_.logic, .int .i32 r.at_.tag, .slice (some ⟨g, 0, none⟩) r.n cx, .int .i64 r.beat, .int .i64 r.pu.wall, .int .i32 r.pu.logic, .int .i32 r.pu.tag], .agg #[.int .i32 r.nd, .int .i32 r.nu, .int .u8 r.st, .int .i64 r.at_.wall, .int .i32 r.at_.logic, .int .i32 r.at_.tag, .slice r.A r.n r.c, .int .i64 r.beat, .int .i64 r.pu.wall, .int .i32 r.pu.logic, .int .i32 r.pu.tag]] W (fun e w' => e = .returned (.bool true) ∧ Below W.heap.size W w')) := Lib.hid (fun W P => kept_yes r g cx hl (by omega) hcx xb W ((HR.out W P.bel).more (Nat.le_of_lt (Nat.lt_of_succ_lt P.hb))) P.own P.le)
  generalize chkR r = ve at *
  generalize tagV r.nd r.nu = tv at *
  generalize tagE r.nd r.nu = te at *
  have hve : (ve != ve) = false := by simp
  have hwr := wrap_tmod2 wall
  have hxb : w.heap.size + 1 < xb := P2.out.hb
  clear hl hn hl2 hn2 hcx hgx hs1
  obtain ⟨x0, x1, x2, x3, x4, x5, x6, x7, x8, x9, x10, x11, x12⟩ := P2.out.o
  try dsimp only [Rec.to] at x2 x3 x4 x5 x6 x7 x8 x9 x10 x11 x12
  obtain ⟨z0, z1, z2, z3, z4⟩ := P2.out.s
  go_wp2_with fail
  refine (H1.out _ P2.out).mono ?_
  rintro e v3 ⟨K3, c3, rfl, hk, hb⟩
  dsimp only [Rec.v, Rec.to]
  clear x0 x1 x2 x3 x4 x5 x6 x7 x8 x9 x10 x11 x12 z0 z1 z2 z3 z4
  have P_3 := Lib.hid (P2.out.next hb); clear P2
  have lba : xb < v3.heap.size := P_3.out.o.lt
  go_upto_region 3 with (fail)
  have P3 := Lib.hid (P_3.out.alloc (.cells #[.int .i32 O1.nd, .int .i32 O1.nu, .int .u8 O1.st, .int .i64 O1.at_.wall, .int .i32 O1.at_.logic, .int .i32 O1.at_.tag, .slice K3 O1.n c3, .int .i64 O1.beat, .int .i64 O1.pu.wall, .int .i32 O1.pu.logic, .int .i32 O1.pu.tag] 30)); clear P_3
  have Xba_3 : Hid (BxQ (v3.alloc (.cells #[.int .i32 O1.nd, .int .i32 O1.nu, .int .u8 O1.st, .int .i64 O1.at_.wall, .int .i32 O1.at_.logic, .int .i32 O1.at_.tag, .slice K3 O1.n c3, .int .i64 O1.beat, .int .i64 O1.pu.wall, .int .i32 O1.pu.logic, .int .i32 O1.pu.tag] 30)) v3.heap.size (O1.to K3 c3)) := Lib.hid (BxQ.new v3 (O1.to K3 c3) 30)
  have Kba_3 := Lib.hid ((RdN.alloc hk (.cells #[.int .i32 O1.nd, .int .i32 O1.nu, .int .u8 O1.st, .int .i64 O1.at_.wall, .int .i32 O1.at_.logic, .int .i32 O1.at_.tag, .slice K3 O1.n c3, .int .i64 O1.beat, .int .i64 O1.pu.wall, .int .i32 O1.pu.logic, .int .i32 O1.pu.tag] 30)).mono (Nat.zero_le _))
  clear hk hb
  generalize hw3 : (v3.alloc (.cells #[.int .i32 O1.nd, .int .i32 O1.nu, .int .u8 O1.st, .int .i64 O1.at_.wall, .int .i32 O1.at_.logic, .int .i32 O1.at_.tag, .slice K3 O1.n c3, .int .i64 O1.beat, .int .i64 O1.pu.wall, .int .i32 O1.pu.logic, .int .i32 O1.pu.tag] 30)) = w3 at *
  generalize hv3 : v3.heap.size = ba at *
  clear hw3 hv3
  obtain ⟨y0, y1, y2, y3, y4, y5, y6, y7, y8, y9, y10, y11, y12⟩ := P3.out.x
  try dsimp only [Rec.to] at y2 y3 y4 y5 y6 y7 y8 y9 y10 y11 y12
  obtain ⟨z0, z1, z2, z3, z4⟩ := P3.out.s
  go_wp2_with fail
  refine (G1.out _ P3.out).mono ?_
  rintro e v4 ⟨K4, c4, rfl, hk, hb⟩
  dsimp only [Rec.v, Rec.to]
  clear y0 y1 y2 y3 y4 y5 y6 y7 y8 y9 y10 y11 y12 z0 z1 z2 z3 z4
  have P_4 := Lib.hid (P3.out.next hb); clear P3
  have Xba__4 := Lib.hid (Xba_3.out.next hb); clear Xba_3
  have Kba__4 := Lib.hid (Kba_3.out.next hb); clear Kba_3
  have lbb : ba < v4.heap.size := Xba__4.out.lt
  go_upto_region 4 with (fail)
  have P4 := Lib.hid (P_4.out.alloc (.cells #[.int .i32 O1.nd, .int .i32 O1.nu, .int .u8 O1.st, .int .i64 O1.at_.wall, .int .i32 O1.at_.logic, .int .i32 O1.at_.tag, .slice K4 O1.n c4, .int .i64 O1.beat, .int .i64 O1.pu.wall, .int .i32 O1.pu.logic, .int .i32 O1.pu.tag] 30)); clear P_4
  have Xba_4 := Lib.hid (Xba__4.out.alloc (.cells #[.int .i32 O1.nd, .int .i32 O1.nu, .int .u8 O1.st, .int .i64 O1.at_.wall, .int .i32 O1.at_.logic, .int .i32 O1.at_.tag, .slice K4 O1.n c4, .int .i64 O1.beat, .int .i64 O1.pu.wall, .int .i32 O1.pu.logic, .int .i32 O1.pu.tag] 30)); clear Xba__4
  have Kba_4 := Lib.hid (Kba__4.out.alloc (.cells #[.int .i32 O1.nd, .int .i32 O1.nu, .int .u8 O1.st, .int .i64 O1.at_.wall, .int .i32 O1.at_.logic, .int .i32 O1.at_.tag, .slice K4 O1.n c4, .int .i64 O1.beat, .int .i64 O1.pu.wall, .int .i32 O1.pu.logic, .int .i32 O1.pu.tag] 30)); clear Kba__4
  have Xbb_4 : Hid (BxQ (v4.alloc (.cells #[.int .i32 O1.nd, .int .i32 O1.nu, .int .u8 O1.st, .int .i64 O1.at_.wall, .int .i32 O1.at_.logic, .int .i32 O1.at_.tag, .slice K4 O1.n c4, .int .i64 O1.beat, .int .i64 O1.pu.wall, .int .i32 O1.pu.logic, .int .i32 O1.pu.tag] 30)) v4.heap.size (O1.to K4 c4)) := Lib.hid (BxQ.new v4 (O1.to K4 c4) 30)
  have Kbb_4 := Lib.hid ((RdN.alloc hk (.cells #[.int .i32 O1.nd, .int .i32 O1.nu, .int .u8 O1.st, .int .i64 O1.at_.wall, .int .i32 O1.at_.logic, .int .i32 O1.at_.tag, .slice K4 O1.n c4, .int .i64 O1.beat, .int .i64 O1.pu.wall, .int .i32 O1.pu.logic, .int .i32 O1.pu.tag] 30)).mono (Nat.zero_le _))
  clear hk hb
  generalize hw4 : (v4.alloc (.cells #[.int .i32 O1.nd, .int .i32 O1.nu, .int .u8 O1.st, .int .i64 O1.at_.wall, .int .i32 O1.at_.logic, .int .i32 O1.at_.tag, .slice K4 O1.n c4, .int .i64 O1.beat, .int .i64 O1.pu.wall, .int .i32 O1.pu.logic, .int .i32 O1.pu.tag] 30)) = w4 at *
  generalize hv4 : v4.heap.size = bb at *
  clear hw4 hv4
  obtain ⟨x0, x1, x2, x3, x4, x5, x6, x7, x8, x9, x10, x11, x12⟩ := P4.out.o
  try dsimp only [Rec.to] at x2 x3 x4 x5 x6 x7 x8 x9 x10 x11 x12
  obtain ⟨z0, z1, z2, z3, z4⟩ := P4.out.s
  go_wp2_with fail
  refine (H2.out _ P4.out).mono ?_
  rintro e v5 ⟨K5, c5, rfl, hk, hb⟩
  dsimp only [Rec.v, Rec.to]
  clear x0 x1 x2 x3 x4 x5 x6 x7 x8 x9 x10 x11 x12 z0 z1 z2 z3 z4
  have P_5 := Lib.hid (P4.out.next hb); clear P4
  have Xba__5 := Lib.hid (Xba_4.out.next hb); clear Xba_4
  have Xbb__5 := Lib.hid (Xbb_4.out.next hb); clear Xbb_4
  have Kba__5 := Lib.hid (Kba_4.out.next hb); clear Kba_4
  have Kbb__5 := Lib.hid (Kbb_4.out.next hb); clear Kbb_4
  have lbc : bb < v5.heap.size := Xbb__5.out.lt
  go_upto_region 5 with (fail)
  have P5 := Lib.hid (P_5.out.alloc (.cells #[.int .i32 O2.nd, .int .i32 O2.nu, .int .u8 O2.st, .int .i64 O2.at_.wall, .int .i32 O2.at_.logic, .int .i32 O2.at_.tag, .slice K5 O2.n c5, .int .i64 O2.beat, .int .i64 O2.pu.wall, .int .i32 O2.pu.logic, .int .i32 O2.pu.tag] 30)); clear P_5
  have Xba_5 := Lib.hid (Xba__5.out.alloc (.cells #[.int .i32 O2.nd, .int .i32 O2.nu, .int .u8 O2.st, .int .i64 O2.at_.wall, .int .i32 O2.at_.logic, .int .i32 O2.at_.tag, .slice K5 O2.n c5, .int .i64 O2.beat, .int .i64 O2.pu.wall, .int .i32 O2.pu.logic, .int .i32 O2.pu.tag] 30)); clear Xba__5
  have Xbb_5 := Lib.hid (Xbb__5.out.alloc (.cells #[.int .i32 O2.nd, .int .i32 O2.nu, .int .u8 O2.st, .int .i64 O2.at_.wall, .int .i32 O2.at_.logic, .int .i32 O2.at_.tag, .slice K5 O2.n c5, .int .i64 O2.beat, .int .i64 O2.pu.wall, .int .i32 O2.pu.logic, .int .i32 O2.pu.tag] 30)); clear Xbb__5
  have Kba_5 := Lib.hid (Kba__5.out.alloc (.cells #[.int .i32 O2.nd, .int .i32 O2.nu, .int .u8 O2.st, .int .i64 O2.at_.wall, .int .i32 O2.at_.logic, .int .i32 O2.at_.tag, .slice K5 O2.n c5, .int .i64 O2.beat, .int .i64 O2.pu.wall, .int .i32 O2.pu.logic, .int .i32 O2.pu.tag] 30)); clear Kba__5
  have Kbb_5 := Lib.hid (Kbb__5.out.alloc (.cells #[.int .i32 O2.nd, .int .i32 O2.nu, .int .u8 O2.st, .int .i64 O2.at_.wall, .int .i32 O2.at_.logic, .int .i32 O2.at_.tag, .slice K5 O2.n c5, .int .i64 O2.beat, .int .i64 O2.pu.wall, .int .i32 O2.pu.logic, .int .i32 O2.pu.tag] 30)); clear Kbb__5
  have Xbc_5 : Hid (BxQ (v5.alloc (.cells #[.int .i32 O2.nd, .int .i32 O2.nu, .int .u8 O2.st, .int .i64 O2.at_.wall, .int .i32 O2.at_.logic, .int .i32 O2.at_.tag, .slice K5 O2.n c5, .int .i64 O2.beat, .int .i64 O2.pu.wall, .int .i32 O2.pu.logic, .int .i32 O2.pu.tag] 30)) v5.heap.size (O2.to K5 c5)) := Lib.hid (BxQ.new v5 (O2.to K5 c5) 30)
  have Kbc_5 := Lib.hid ((RdN.alloc hk (.cells #[.int .i32 O2.nd, .int .i32 O2.nu, .int .u8 O2.st, .int .i64 O2.at_.wall, .int .i32 O2.at_.logic, .int .i32 O2.at_.tag, .slice K5 O2.n c5, .int .i64 O2.beat, .int .i64 O2.pu.wall, .int .i32 O2.pu.logic, .int .i32 O2.pu.tag] 30)).mono (Nat.zero_le _))
  clear hk hb
  generalize hw5 : (v5.alloc (.cells #[.int .i32 O2.nd, .int .i32 O2.nu, .int .u8 O2.st, .int .i64 O2.at_.wall, .int .i32 O2.at_.logic, .int .i32 O2.at_.tag, .slice K5 O2.n c5, .int .i64 O2.beat, .int .i64 O2.pu.wall, .int .i32 O2.pu.logic, .int .i32 O2.pu.tag] 30)) = w5 at *
  generalize hv5 : v5.heap.size = bc at *
  clear hw5 hv5
  obtain ⟨y0, y1, y2, y3, y4, y5, y6, y7, y8, y9, y10, y11, y12⟩ := P5.out.x
  try dsimp only [Rec.to] at y2 y3 y4 y5 y6 y7 y8 y9 y10 y11 y12
  obtain ⟨z0, z1, z2, z3, z4⟩ := P5.out.s
  go_wp2_with fail
  refine (G2.out _ P5.out).mono ?_
  rintro e v6 ⟨K6, c6, rfl, hk, hb⟩
  dsimp only [Rec.v, Rec.to]
  clear y0 y1 y2 y3 y4 y5 y6 y7 y8 y9 y10 y11 y12 z0 z1 z2 z3 z4
  have P_6 := Lib.hid (P5.out.next hb); clear P5
  have Xba__6 := Lib.hid (Xba_5.out.next hb); clear Xba_5
  have Xbb__6 := Lib.hid (Xbb_5.out.next hb); clear Xbb_5
  have Xbc__6 := Lib.hid (Xbc_5.out.next hb); clear Xbc_5
  have Kba__6 := Lib.hid (Kba_5.out.next hb); clear Kba_5
  have Kbb__6 := Lib.hid (Kbb_5.out.next hb); clear Kbb_5
  have Kbc__6 := Lib.hid (Kbc_5.out.next hb); clear Kbc_5
  have lbd : bc < v6.heap.size := Xbc__6.out.lt
  go_upto_region 6 with (fail)
  have P6 := Lib.hid (P_6.out.alloc (.cells #[.int .i32 O2.nd, .int .i32 O2.nu, .int .u8 O2.st, .int .i64 O2.at_.wall, .int .i32 O2.at_.logic, .int .i32 O2.at_.tag, .slice K6 O2.n c6, .int .i64 O2.beat, .int .i64 O2.pu.wall, .int .i32 O2.pu.logic, .int .i32 O2.pu.tag] 30)); clear P_6
  have Xba_6 := Lib.hid (Xba__6.out.alloc (.cells #[.int .i32 O2.nd, .int .i32 O2.nu, .int .u8 O2.st, .int .i64 O2.at_.wall, .int .i32 O2.at_.logic, .int .i32 O2.at_.tag, .slice K6 O2.n c6, .int .i64 O2.beat, .int .i64 O2.pu.wall, .int .i32 O2.pu.logic, .int .i32 O2.pu.tag] 30)); clear Xba__6
  have Xbb_6 := Lib.hid (Xbb__6.out.alloc (.cells #[.int .i32 O2.nd, .int .i32 O2.nu, .int .u8 O2.st, .int .i64 O2.at_.wall, .int .i32 O2.at_.logic, .int .i32 O2.at_.tag, .slice K6 O2.n c6, .int .i64 O2.beat, .int .i64 O2.pu.wall, .int .i32 O2.pu.logic, .int .i32 O2.pu.tag] 30)); clear Xbb__6
  have Xbc_6 := Lib.hid (Xbc__6.out.alloc (.cells #[.int .i32 O2.nd, .int .i32 O2.nu, .int .u8 O2.st, .int .i64 O2.at_.wall, .int .i32 O2.at_.logic, .int .i32 O2.at_.tag, .slice K6 O2.n c6, .int .i64 O2.beat, .int .i64 O2.pu.wall, .int .i32 O2.pu.logic, .int .i32 O2.pu.tag] 30)); clear Xbc__6
  have Kba_6 := Lib.hid (Kba__6.out.alloc (.cells #[.int .i32 O2.nd, .int .i32 O2.nu, .int .u8 O2.st, .int .i64 O2.at_.wall, .int .i32 O2.at_.logic, .int .i32 O2.at_.tag, .slice K6 O2.n c6, .int .i64 O2.beat, .int .i64 O2.pu.wall, .int .i32 O2.pu.logic, .int .i32 O2.pu.tag] 30)); clear Kba__6
  have Kbb_6 := Lib.hid (Kbb__6.out.alloc (.cells #[.int .i32 O2.nd, .int .i32 O2.nu, .int .u8 O2.st, .int .i64 O2.at_.wall, .int .i32 O2.at_.logic, .int .i32 O2.at_.tag, .slice K6 O2.n c6, .int .i64 O2.beat, .int .i64 O2.pu.wall, .int .i32 O2.pu.logic, .int .i32 O2.pu.tag] 30)); clear Kbb__6
  have Kbc_6 := Lib.hid (Kbc__6.out.alloc (.cells #[.int .i32 O2.nd, .int .i32 O2.nu, .int .u8 O2.st, .int .i64 O2.at_.wall, .int .i32 O2.at_.logic, .int .i32 O2.at_.tag, .slice K6 O2.n c6, .int .i64 O2.beat, .int .i64 O2.pu.wall, .int .i32 O2.pu.logic, .int .i32 O2.pu.tag] 30)); clear Kbc__6
  have Xbd_6 : Hid (BxQ (v6.alloc (.cells #[.int .i32 O2.nd, .int .i32 O2.nu, .int .u8 O2.st, .int .i64 O2.at_.wall, .int .i32 O2.at_.logic, .int .i32 O2.at_.tag, .slice K6 O2.n c6, .int .i64 O2.beat, .int .i64 O2.pu.wall, .int .i32 O2.pu.logic, .int .i32 O2.pu.tag] 30)) v6.heap.size (O2.to K6 c6)) := Lib.hid (BxQ.new v6 (O2.to K6 c6) 30)
  have Kbd_6 := Lib.hid ((RdN.alloc hk (.cells #[.int .i32 O2.nd, .int .i32 O2.nu, .int .u8 O2.st, .int .i64 O2.at_.wall, .int .i32 O2.at_.logic, .int .i32 O2.at_.tag, .slice K6 O2.n c6, .int .i64 O2.beat, .int .i64 O2.pu.wall, .int .i32 O2.pu.logic, .int .i32 O2.pu.tag] 30)).mono (Nat.zero_le _))
  clear hk hb
  generalize hw6 : (v6.alloc (.cells #[.int .i32 O2.nd, .int .i32 O2.nu, .int .u8 O2.st, .int .i64 O2.at_.wall, .int .i32 O2.at_.logic, .int .i32 O2.at_.tag, .slice K6 O2.n c6, .int .i64 O2.beat, .int .i64 O2.pu.wall, .int .i32 O2.pu.logic, .int .i32 O2.pu.tag] 30)) = w6 at *
  generalize hv6 : v6.heap.size = bd at *
  clear hw6 hv6
  have T1 := Lib.hid (fun W' hb => told_is (E := E1) (c := c3) (c' := c4) Kba_6.out Kbb_6.out fit1.out nb1.out W' hb)
  have T2 := Lib.hid (fun W' hb => told_is (E := E2) (c := c5) (c' := c6) Kbc_6.out Kbd_6.out fit2.out nb2.out W' hb)
  obtain ⟨a0, a1, a2, a3, a4, a5, a6, a7, a8, a9, a10, a11, a12⟩ := Xba_6.out
  try dsimp only [Rec.to] at a2 a3 a4 a5 a6 a7 a8 a9 a10 a11 a12
  obtain ⟨b0, b1, b2, b3, b4, b5, b6, b7, b8, b9, b10, b11, b12⟩ := Xbb_6.out
  try dsimp only [Rec.to] at b2 b3 b4 b5 b6 b7 b8 b9 b10 b11 b12
  obtain ⟨c0, c1, c2, c3, c4, c5, c6, c7, c8, c9, c10, c11, c12⟩ := Xbc_6.out
  try dsimp only [Rec.to] at c2 c3 c4 c5 c6 c7 c8 c9 c10 c11 c12
  obtain ⟨d0, d1, d2, d3, d4, d5, d6, d7, d8, d9, d10, d11, d12⟩ := Xbd_6.out
  try dsimp only [Rec.to] at d2 d3 d4 d5 d6 d7 d8 d9 d10 d11 d12
  obtain ⟨x0, x1, x2, x3, x4, x5, x6, x7, x8, x9, x10, x11, x12⟩ := P6.out.o
  try dsimp only [Rec.to] at x2 x3 x4 x5 x6 x7 x8 x9 x10 x11 x12
  obtain ⟨y0, y1, y2, y3, y4, y5, y6, y7, y8, y9, y10, y11, y12⟩ := P6.out.x
  try dsimp only [Rec.to] at y2 y3 y4 y5 y6 y7 y8 y9 y10 y11 y12
  refine wp_qall (by kernel_rfl) (by kernel_rfl) ?_
  intro hcg
  repeat (first | go_big_quiet_step (first | with_reducible exact Calls.reg (T1.out _ (Below.goq (Below.refl _ _) _ _ (Nat.le_refl _))) | with_reducible exact Calls.reg (T2.out _ (Below.goq (Below.refl _ _) _ _ (Nat.le_refl _))) | with_reducible exact Calls.reg (lives22_any _) | with_reducible exact Calls.reg (HC.out _ (P6.out.next (Below.goq (Below.refl _ _) _ _ (Nat.le_refl _)))) | with_reducible exact Calls.reg (GC.out _ (P6.out.next (Below.goq (Below.refl _ _) _ _ (Nat.le_refl _))))) | quiet_step (first | with_reducible exact Calls.reg (T1.out _ (Below.goq (Below.refl _ _) _ _ (Nat.le_refl _))) | with_reducible exact Calls.reg (T2.out _ (Below.goq (Below.refl _ _) _ _ (Nat.le_refl _))) | with_reducible exact Calls.reg (lives22_any _) | with_reducible exact Calls.reg (HC.out _ (P6.out.next (Below.goq (Below.refl _ _) _ _ (Nat.le_refl _)))) | with_reducible exact Calls.reg (GC.out _ (P6.out.next (Below.goq (Below.refl _ _) _ _ (Nat.le_refl _))))))
  refine wpQuiet_nil ?_
  intro w7 hbw7 hcw7 hfw7
  clear hcg
  clear a0 a1 a2 a3 a4 a5 a6 a7 a8 a9 a10 a11 a12 b0 b1 b2 b3 b4 b5 b6 b7 b8 b9 b10 b11 b12 c0 c1 c2 c3 c4 c5 c6 c7 c8 c9 c10 c11 c12 d0 d1 d2 d3 d4 d5 d6 d7 d8 d9 d10 d11 d12 x0 x1 x2 x3 x4 x5 x6 x7 x8 x9 x10 x11 x12 y0 y1 y2 y3 y4 y5 y6 y7 y8 y9 y10 y11 y12 hcw7 hfw7 T1 T2
  have P7 := Lib.hid (P6.out.next hbw7); clear P6
  have Xba_7 := Lib.hid (Xba_6.out.next hbw7); clear Xba_6
  have Xbb_7 := Lib.hid (Xbb_6.out.next hbw7); clear Xbb_6
  have Xbc_7 := Lib.hid (Xbc_6.out.next hbw7); clear Xbc_6
  have Xbd_7 := Lib.hid (Xbd_6.out.next hbw7); clear Xbd_6
  clear hbw7
  go_upto_region 8 with (fail)
  obtain ⟨x0, x1, x2, x3, x4, x5, x6, x7, x8, x9, x10, x11, x12⟩ := P7.out.o
  try dsimp only [Rec.to] at x2 x3 x4 x5 x6 x7 x8 x9 x10 x11 x12
  go_wp2_with fail
  refine (H3.out _ P7.out).mono ?_
  rintro e v8 ⟨K8, c8, rfl, hk, hb⟩
  dsimp only [Rec.v, Rec.to]
  clear x0 x1 x2 x3 x4 x5 x6 x7 x8 x9 x10 x11 x12
  have hk := Lib.hid (hk.mono (B' := bd + 1) Xbd_7.out.lt)
  have P_8 := Lib.hid (P7.out.next hb); clear P7
  have Xba__8 := Lib.hid (Xba_7.out.next hb); clear Xba_7
  have Xbb__8 := Lib.hid (Xbb_7.out.next hb); clear Xbb_7
  have Xbc__8 := Lib.hid (Xbc_7.out.next hb); clear Xbc_7
  have Xbd__8 := Lib.hid (Xbd_7.out.next hb); clear Xbd_7
  obtain ⟨x0, x1, x2, x3, x4, x5, x6, x7, x8, x9, x10, x11, x12⟩ := Xba__8.out
  try dsimp only [Rec.to] at x2 x3 x4 x5 x6 x7 x8 x9 x10 x11 x12
  go_upto_region 9 with (fail)
  clear x0 x1 x2 x3 x4 x5 x6 x7 x8 x9 x10 x11 x12
  change Code.wp _ _ _ _ (setR v8 ba (O3.to K8 c8))
  have P8 := Lib.hid (P_8.out.setR (b := ba) (by omega) (O3.to K8 c8)); clear P_8
  have Xba_8 := Lib.hid (Xba__8.out.setR (O3.to K8 c8)); clear Xba__8
  have Xbb_8 := Lib.hid (Xbb__8.out.setO ba (by omega) (O3.to K8 c8)); clear Xbb__8
  have Xbc_8 := Lib.hid (Xbc__8.out.setO ba (by omega) (O3.to K8 c8)); clear Xbc__8
  have Xbd_8 := Lib.hid (Xbd__8.out.setO ba (by omega) (O3.to K8 c8)); clear Xbd__8
  have Kba_8 := Lib.hid (hk.out.setR (b := ba) (by omega) (O3.to K8 c8))
  clear hk hb
  generalize hw8 : (setR v8 ba (O3.to K8 c8)) = w8 at *
  clear hw8
  obtain ⟨y0, y1, y2, y3, y4, y5, y6, y7, y8, y9, y10, y11, y12⟩ := P8.out.x
  try dsimp only [Rec.to] at y2 y3 y4 y5 y6 y7 y8 y9 y10 y11 y12
  go_wp2_with fail
  refine (G3.out _ P8.out).mono ?_
  rintro e v9 ⟨K9, c9, rfl, hk, hb⟩
  dsimp only [Rec.v, Rec.to]
  clear y0 y1 y2 y3 y4 y5 y6 y7 y8 y9 y10 y11 y12
  have hk := Lib.hid (hk.mono (B' := bd + 1) Xbd_8.out.lt)
  have P_9 := Lib.hid (P8.out.next hb); clear P8
  have Xba__9 := Lib.hid (Xba_8.out.next hb); clear Xba_8
  have Xbb__9 := Lib.hid (Xbb_8.out.next hb); clear Xbb_8
  have Xbc__9 := Lib.hid (Xbc_8.out.next hb); clear Xbc_8
  have Xbd__9 := Lib.hid (Xbd_8.out.next hb); clear Xbd_8
  have Kba__9 := Lib.hid (Kba_8.out.next hb); clear Kba_8
  obtain ⟨x0, x1, x2, x3, x4, x5, x6, x7, x8, x9, x10, x11, x12⟩ := Xbb__9.out
  try dsimp only [Rec.to] at x2 x3 x4 x5 x6 x7 x8 x9 x10 x11 x12
  go_upto_region 10 with (fail)
  clear x0 x1 x2 x3 x4 x5 x6 x7 x8 x9 x10 x11 x12
  change Code.wp _ _ _ _ (setR v9 bb (O3.to K9 c9))
  have P9 := Lib.hid (P_9.out.setR (b := bb) (by omega) (O3.to K9 c9)); clear P_9
  have Xba_9 := Lib.hid (Xba__9.out.setO bb (by omega) (O3.to K9 c9)); clear Xba__9
  have Xbb_9 := Lib.hid (Xbb__9.out.setR (O3.to K9 c9)); clear Xbb__9
  have Xbc_9 := Lib.hid (Xbc__9.out.setO bb (by omega) (O3.to K9 c9)); clear Xbc__9
  have Xbd_9 := Lib.hid (Xbd__9.out.setO bb (by omega) (O3.to K9 c9)); clear Xbd__9
  have Kba_9 := Lib.hid (Kba__9.out.setR (b := bb) (by omega) (O3.to K9 c9)); clear Kba__9
  have Kbb_9 := Lib.hid (hk.out.setR (b := bb) (by omega) (O3.to K9 c9))
  clear hk hb
  generalize hw9 : (setR v9 bb (O3.to K9 c9)) = w9 at *
  clear hw9
  obtain ⟨x0, x1, x2, x3, x4, x5, x6, x7, x8, x9, x10, x11, x12⟩ := P9.out.o
  try dsimp only [Rec.to] at x2 x3 x4 x5 x6 x7 x8 x9 x10 x11 x12
  go_wp2_with fail
  refine (H4.out _ P9.out).mono ?_
  rintro e v10 ⟨K10, c10, rfl, hk, hb⟩
  dsimp only [Rec.v, Rec.to]
  clear x0 x1 x2 x3 x4 x5 x6 x7 x8 x9 x10 x11 x12
  have hk := Lib.hid (hk.mono (B' := bd + 1) Xbd_9.out.lt)
  have P_10 := Lib.hid (P9.out.next hb); clear P9
  have Xba__10 := Lib.hid (Xba_9.out.next hb); clear Xba_9
  have Xbb__10 := Lib.hid (Xbb_9.out.next hb); clear Xbb_9
  have Xbc__10 := Lib.hid (Xbc_9.out.next hb); clear Xbc_9
  have Xbd__10 := Lib.hid (Xbd_9.out.next hb); clear Xbd_9
  have Kba__10 := Lib.hid (Kba_9.out.next hb); clear Kba_9
  have Kbb__10 := Lib.hid (Kbb_9.out.next hb); clear Kbb_9
  obtain ⟨x0, x1, x2, x3, x4, x5, x6, x7, x8, x9, x10, x11, x12⟩ := Xbc__10.out
  try dsimp only [Rec.to] at x2 x3 x4 x5 x6 x7 x8 x9 x10 x11 x12
  go_upto_region 11 with (fail)
  clear x0 x1 x2 x3 x4 x5 x6 x7 x8 x9 x10 x11 x12
  change Code.wp _ _ _ _ (setR v10 bc (O4.to K10 c10))
  have P10 := Lib.hid (P_10.out.setR (b := bc) (by omega) (O4.to K10 c10)); clear P_10
  have Xba_10 := Lib.hid (Xba__10.out.setO bc (by omega) (O4.to K10 c10)); clear Xba__10
  have Xbb_10 := Lib.hid (Xbb__10.out.setO bc (by omega) (O4.to K10 c10)); clear Xbb__10
  have Xbc_10 := Lib.hid (Xbc__10.out.setR (O4.to K10 c10)); clear Xbc__10
  have Xbd_10 := Lib.hid (Xbd__10.out.setO bc (by omega) (O4.to K10 c10)); clear Xbd__10
  have Kba_10 := Lib.hid (Kba__10.out.setR (b := bc) (by omega) (O4.to K10 c10)); clear Kba__10
  have Kbb_10 := Lib.hid (Kbb__10.out.setR (b := bc) (by omega) (O4.to K10 c10)); clear Kbb__10
  have Kbc_10 := Lib.hid (hk.out.setR (b := bc) (by omega) (O4.to K10 c10))
  clear hk hb
  generalize hw10 : (setR v10 bc (O4.to K10 c10)) = w10 at *
  clear hw10
  obtain ⟨y0, y1, y2, y3, y4, y5, y6, y7, y8, y9, y10, y11, y12⟩ := P10.out.x
  try dsimp only [Rec.to] at y2 y3 y4 y5 y6 y7 y8 y9 y10 y11 y12
  go_wp2_with fail
  refine (G4.out _ P10.out).mono ?_
  rintro e v11 ⟨K11, c11, rfl, hk, hb⟩
  dsimp only [Rec.v, Rec.to]
  clear y0 y1 y2 y3 y4 y5 y6 y7 y8 y9 y10 y11 y12
  have hk := Lib.hid (hk.mono (B' := bd + 1) Xbd_10.out.lt)
  have P_11 := Lib.hid (P10.out.next hb); clear P10
  have Xba__11 := Lib.hid (Xba_10.out.next hb); clear Xba_10
  have Xbb__11 := Lib.hid (Xbb_10.out.next hb); clear Xbb_10
  have Xbc__11 := Lib.hid (Xbc_10.out.next hb); clear Xbc_10
  have Xbd__11 := Lib.hid (Xbd_10.out.next hb); clear Xbd_10
  have Kba__11 := Lib.hid (Kba_10.out.next hb); clear Kba_10
  have Kbb__11 := Lib.hid (Kbb_10.out.next hb); clear Kbb_10
  have Kbc__11 := Lib.hid (Kbc_10.out.next hb); clear Kbc_10
  obtain ⟨x0, x1, x2, x3, x4, x5, x6, x7, x8, x9, x10, x11, x12⟩ := Xbd__11.out
  try dsimp only [Rec.to] at x2 x3 x4 x5 x6 x7 x8 x9 x10 x11 x12
  go_upto_region 12 with (fail)
  clear x0 x1 x2 x3 x4 x5 x6 x7 x8 x9 x10 x11 x12
  change Code.wp _ _ _ _ (setR v11 bd (O4.to K11 c11))
  have P11 := Lib.hid (P_11.out.setR (b := bd) (by omega) (O4.to K11 c11)); clear P_11
  have Xba_11 := Lib.hid (Xba__11.out.setO bd (by omega) (O4.to K11 c11)); clear Xba__11
  have Xbb_11 := Lib.hid (Xbb__11.out.setO bd (by omega) (O4.to K11 c11)); clear Xbb__11
  have Xbc_11 := Lib.hid (Xbc__11.out.setO bd (by omega) (O4.to K11 c11)); clear Xbc__11
  have Xbd_11 := Lib.hid (Xbd__11.out.setR (O4.to K11 c11)); clear Xbd__11
  have Kba_11 := Lib.hid (Kba__11.out.setR (b := bd) (by omega) (O4.to K11 c11)); clear Kba__11
  have Kbb_11 := Lib.hid (Kbb__11.out.setR (b := bd) (by omega) (O4.to K11 c11)); clear Kbb__11
  have Kbc_11 := Lib.hid (Kbc__11.out.setR (b := bd) (by omega) (O4.to K11 c11)); clear Kbc__11
  have Kbd_11 := Lib.hid (hk.out.setR (b := bd) (by omega) (O4.to K11 c11))
  clear hk hb
  generalize hw11 : (setR v11 bd (O4.to K11 c11)) = w11 at *
  clear hw11
  have T1 := Lib.hid (fun W' hb => told_is (E := E3) (c := c8) (c' := c9) Kba_11.out Kbb_11.out fit3.out nb3.out W' hb)
  obtain ⟨a0, a1, a2, a3, a4, a5, a6, a7, a8, a9, a10, a11, a12⟩ := Xba_11.out
  try dsimp only [Rec.to] at a2 a3 a4 a5 a6 a7 a8 a9 a10 a11 a12
  obtain ⟨b0, b1, b2, b3, b4, b5, b6, b7, b8, b9, b10, b11, b12⟩ := Xbb_11.out
  try dsimp only [Rec.to] at b2 b3 b4 b5 b6 b7 b8 b9 b10 b11 b12
  go_wp2_with fail
  refine (T1.out _ (Below.refl _ _)).mono ?_
  rintro e w12 ⟨rfl, hb⟩
  clear a0 a1 a2 a3 a4 a5 a6 a7 a8 a9 a10 a11 a12 b0 b1 b2 b3 b4 b5 b6 b7 b8 b9 b10 b11 b12 T1
  have P12 := Lib.hid (P11.out.next hb); clear P11
  have Xba_12 := Lib.hid (Xba_11.out.next hb); clear Xba_11
  have Xbb_12 := Lib.hid (Xbb_11.out.next hb); clear Xbb_11
  have Xbc_12 := Lib.hid (Xbc_11.out.next hb); clear Xbc_11
  have Xbd_12 := Lib.hid (Xbd_11.out.next hb); clear Xbd_11
  have Kba_12 := Lib.hid (Kba_11.out.next hb); clear Kba_11
  have Kbb_12 := Lib.hid (Kbb_11.out.next hb); clear Kbb_11
  have Kbc_12 := Lib.hid (Kbc_11.out.next hb); clear Kbc_11
  have Kbd_12 := Lib.hid (Kbd_11.out.next hb); clear Kbd_11
  clear hb
  have T1 := Lib.hid (fun W' hb => told_is (E := E4) (c := c10) (c' := c11) Kbc_12.out Kbd_12.out fit4.out nb4.out W' hb)
  obtain ⟨a0, a1, a2, a3, a4, a5, a6, a7, a8, a9, a10, a11, a12⟩ := Xbc_12.out
  try dsimp only [Rec.to] at a2 a3 a4 a5 a6 a7 a8 a9 a10 a11 a12
  obtain ⟨b0, b1, b2, b3, b4, b5, b6, b7, b8, b9, b10, b11, b12⟩ := Xbd_12.out
  try dsimp only [Rec.to] at b2 b3 b4 b5 b6 b7 b8 b9 b10 b11 b12
  go_wp2_with fail
  refine (T1.out _ (Below.refl _ _)).mono ?_
  rintro e w13 ⟨rfl, hb⟩
  clear a0 a1 a2 a3 a4 a5 a6 a7 a8 a9 a10 a11 a12 b0 b1 b2 b3 b4 b5 b6 b7 b8 b9 b10 b11 b12 T1
  have P13 := Lib.hid (P12.out.next hb); clear P12
  have Xba_13 := Lib.hid (Xba_12.out.next hb); clear Xba_12
  have Xbb_13 := Lib.hid (Xbb_12.out.next hb); clear Xbb_12
  have Xbc_13 := Lib.hid (Xbc_12.out.next hb); clear Xbc_12
  have Xbd_13 := Lib.hid (Xbd_12.out.next hb); clear Xbd_12
  have Kba_13 := Lib.hid (Kba_12.out.next hb); clear Kba_12
  have Kbb_13 := Lib.hid (Kbb_12.out.next hb); clear Kbb_12
  have Kbc_13 := Lib.hid (Kbc_12.out.next hb); clear Kbc_12
  have Kbd_13 := Lib.hid (Kbd_12.out.next hb); clear Kbd_12
  clear hb
  go_upto_region 14 with (fail)
  obtain ⟨x0, x1, x2, x3, x4, x5, x6, x7, x8, x9, x10, x11, x12⟩ := P13.out.o
  try dsimp only [Rec.to] at x2 x3 x4 x5 x6 x7 x8 x9 x10 x11 x12
  obtain ⟨z0, z1, z2, z3, z4⟩ := P13.out.s
  go_wp2_with fail
  refine (H5.out _ P13.out).mono ?_
  rintro e v14 ⟨K14, c14, rfl, hk, hb⟩
  dsimp only [Rec.v, Rec.to]
  clear x0 x1 x2 x3 x4 x5 x6 x7 x8 x9 x10 x11 x12 z0 z1 z2 z3 z4
  have hk := Lib.hid (hk.mono (B' := bd + 1) Xbd_13.out.lt)
  have P_14 := Lib.hid (P13.out.next hb); clear P13
  have Xba__14 := Lib.hid (Xba_13.out.next hb); clear Xba_13
  have Xbb__14 := Lib.hid (Xbb_13.out.next hb); clear Xbb_13
  have Xbc__14 := Lib.hid (Xbc_13.out.next hb); clear Xbc_13
  have Xbd__14 := Lib.hid (Xbd_13.out.next hb); clear Xbd_13
  obtain ⟨x0, x1, x2, x3, x4, x5, x6, x7, x8, x9, x10, x11, x12⟩ := Xba__14.out
  try dsimp only [Rec.to] at x2 x3 x4 x5 x6 x7 x8 x9 x10 x11 x12
  go_upto_region 15 with (fail)
  clear x0 x1 x2 x3 x4 x5 x6 x7 x8 x9 x10 x11 x12
  change Code.wp _ _ _ _ (setR v14 ba (O5.to K14 c14))
  have P14 := Lib.hid (P_14.out.setR (b := ba) (by omega) (O5.to K14 c14)); clear P_14
  have Xba_14 := Lib.hid (Xba__14.out.setR (O5.to K14 c14)); clear Xba__14
  have Xbb_14 := Lib.hid (Xbb__14.out.setO ba (by omega) (O5.to K14 c14)); clear Xbb__14
  have Xbc_14 := Lib.hid (Xbc__14.out.setO ba (by omega) (O5.to K14 c14)); clear Xbc__14
  have Xbd_14 := Lib.hid (Xbd__14.out.setO ba (by omega) (O5.to K14 c14)); clear Xbd__14
  have Kba_14 := Lib.hid (hk.out.setR (b := ba) (by omega) (O5.to K14 c14))
  clear hk hb
  generalize hw14 : (setR v14 ba (O5.to K14 c14)) = w14 at *
  clear hw14
  obtain ⟨y0, y1, y2, y3, y4, y5, y6, y7, y8, y9, y10, y11, y12⟩ := P14.out.x
  try dsimp only [Rec.to] at y2 y3 y4 y5 y6 y7 y8 y9 y10 y11 y12
  obtain ⟨z0, z1, z2, z3, z4⟩ := P14.out.s
  go_wp2_with fail
  refine (G5.out _ P14.out).mono ?_
  rintro e v15 ⟨K15, c15, rfl, hk, hb⟩
  dsimp only [Rec.v, Rec.to]
  clear y0 y1 y2 y3 y4 y5 y6 y7 y8 y9 y10 y11 y12 z0 z1 z2 z3 z4
  have hk := Lib.hid (hk.mono (B' := bd + 1) Xbd_14.out.lt)
  have P_15 := Lib.hid (P14.out.next hb); clear P14
  have Xba__15 := Lib.hid (Xba_14.out.next hb); clear Xba_14
  have Xbb__15 := Lib.hid (Xbb_14.out.next hb); clear Xbb_14
  have Xbc__15 := Lib.hid (Xbc_14.out.next hb); clear Xbc_14
  have Xbd__15 := Lib.hid (Xbd_14.out.next hb); clear Xbd_14
  have Kba__15 := Lib.hid (Kba_14.out.next hb); clear Kba_14
  obtain ⟨x0, x1, x2, x3, x4, x5, x6, x7, x8, x9, x10, x11, x12⟩ := Xbb__15.out
  try dsimp only [Rec.to] at x2 x3 x4 x5 x6 x7 x8 x9 x10 x11 x12
  go_upto_region 16 with (fail)
  clear x0 x1 x2 x3 x4 x5 x6 x7 x8 x9 x10 x11 x12
  change Code.wp _ _ _ _ (setR v15 bb (O5.to K15 c15))
  have P15 := Lib.hid (P_15.out.setR (b := bb) (by omega) (O5.to K15 c15)); clear P_15
  have Xba_15 := Lib.hid (Xba__15.out.setO bb (by omega) (O5.to K15 c15)); clear Xba__15
  have Xbb_15 := Lib.hid (Xbb__15.out.setR (O5.to K15 c15)); clear Xbb__15
  have Xbc_15 := Lib.hid (Xbc__15.out.setO bb (by omega) (O5.to K15 c15)); clear Xbc__15
  have Xbd_15 := Lib.hid (Xbd__15.out.setO bb (by omega) (O5.to K15 c15)); clear Xbd__15
  have Kba_15 := Lib.hid (Kba__15.out.setR (b := bb) (by omega) (O5.to K15 c15)); clear Kba__15
  have Kbb_15 := Lib.hid (hk.out.setR (b := bb) (by omega) (O5.to K15 c15))
  clear hk hb
  generalize hw15 : (setR v15 bb (O5.to K15 c15)) = w15 at *
  clear hw15
  obtain ⟨x0, x1, x2, x3, x4, x5, x6, x7, x8, x9, x10, x11, x12⟩ := P15.out.o
  try dsimp only [Rec.to] at x2 x3 x4 x5 x6 x7 x8 x9 x10 x11 x12
  obtain ⟨z0, z1, z2, z3, z4⟩ := P15.out.s
  go_wp2_with fail
  refine (H6.out _ P15.out).mono ?_
  rintro e v16 ⟨K16, c16, rfl, hk, hb⟩
  dsimp only [Rec.v, Rec.to]
  clear x0 x1 x2 x3 x4 x5 x6 x7 x8 x9 x10 x11 x12 z0 z1 z2 z3 z4
  have hk := Lib.hid (hk.mono (B' := bd + 1) Xbd_15.out.lt)
  have P_16 := Lib.hid (P15.out.next hb); clear P15
  have Xba__16 := Lib.hid (Xba_15.out.next hb); clear Xba_15
  have Xbb__16 := Lib.hid (Xbb_15.out.next hb); clear Xbb_15
  have Xbc__16 := Lib.hid (Xbc_15.out.next hb); clear Xbc_15
  have Xbd__16 := Lib.hid (Xbd_15.out.next hb); clear Xbd_15
  have Kba__16 := Lib.hid (Kba_15.out.next hb); clear Kba_15
  have Kbb__16 := Lib.hid (Kbb_15.out.next hb); clear Kbb_15
  obtain ⟨x0, x1, x2, x3, x4, x5, x6, x7, x8, x9, x10, x11, x12⟩ := Xbc__16.out
  try dsimp only [Rec.to] at x2 x3 x4 x5 x6 x7 x8 x9 x10 x11 x12
  go_upto_region 17 with (fail)
  clear x0 x1 x2 x3 x4 x5 x6 x7 x8 x9 x10 x11 x12
  change Code.wp _ _ _ _ (setR v16 bc (O6.to K16 c16))
  have P16 := Lib.hid (P_16.out.setR (b := bc) (by omega) (O6.to K16 c16)); clear P_16
  have Xba_16 := Lib.hid (Xba__16.out.setO bc (by omega) (O6.to K16 c16)); clear Xba__16
  have Xbb_16 := Lib.hid (Xbb__16.out.setO bc (by omega) (O6.to K16 c16)); clear Xbb__16
  have Xbc_16 := Lib.hid (Xbc__16.out.setR (O6.to K16 c16)); clear Xbc__16
  have Xbd_16 := Lib.hid (Xbd__16.out.setO bc (by omega) (O6.to K16 c16)); clear Xbd__16
  have Kba_16 := Lib.hid (Kba__16.out.setR (b := bc) (by omega) (O6.to K16 c16)); clear Kba__16
  have Kbb_16 := Lib.hid (Kbb__16.out.setR (b := bc) (by omega) (O6.to K16 c16)); clear Kbb__16
  have Kbc_16 := Lib.hid (hk.out.setR (b := bc) (by omega) (O6.to K16 c16))
  clear hk hb
  generalize hw16 : (setR v16 bc (O6.to K16 c16)) = w16 at *
  clear hw16
  obtain ⟨y0, y1, y2, y3, y4, y5, y6, y7, y8, y9, y10, y11, y12⟩ := P16.out.x
  try dsimp only [Rec.to] at y2 y3 y4 y5 y6 y7 y8 y9 y10 y11 y12
  obtain ⟨z0, z1, z2, z3, z4⟩ := P16.out.s
  go_wp2_with fail
  refine (G6.out _ P16.out).mono ?_
  rintro e v17 ⟨K17, c17, rfl, hk, hb⟩
  dsimp only [Rec.v, Rec.to]
  clear y0 y1 y2 y3 y4 y5 y6 y7 y8 y9 y10 y11 y12 z0 z1 z2 z3 z4
  have hk := Lib.hid (hk.mono (B' := bd + 1) Xbd_16.out.lt)
  have P_17 := Lib.hid (P16.out.next hb); clear P16
  have Xba__17 := Lib.hid (Xba_16.out.next hb); clear Xba_16
  have Xbb__17 := Lib.hid (Xbb_16.out.next hb); clear Xbb_16
  have Xbc__17 := Lib.hid (Xbc_16.out.next hb); clear Xbc_16
  have Xbd__17 := Lib.hid (Xbd_16.out.next hb); clear Xbd_16
  have Kba__17 := Lib.hid (Kba_16.out.next hb); clear Kba_16
  have Kbb__17 := Lib.hid (Kbb_16.out.next hb); clear Kbb_16
  have Kbc__17 := Lib.hid (Kbc_16.out.next hb); clear Kbc_16
  obtain ⟨x0, x1, x2, x3, x4, x5, x6, x7, x8, x9, x10, x11, x12⟩ := Xbd__17.out
  try dsimp only [Rec.to] at x2 x3 x4 x5 x6 x7 x8 x9 x10 x11 x12
  go_upto_region 18 with (fail)
  clear x0 x1 x2 x3 x4 x5 x6 x7 x8 x9 x10 x11 x12
  change Code.wp _ _ _ _ (setR v17 bd (O6.to K17 c17))
  have P17 := Lib.hid (P_17.out.setR (b := bd) (by omega) (O6.to K17 c17)); clear P_17
  have Xba_17 := Lib.hid (Xba__17.out.setO bd (by omega) (O6.to K17 c17)); clear Xba__17
  have Xbb_17 := Lib.hid (Xbb__17.out.setO bd (by omega) (O6.to K17 c17)); clear Xbb__17
  have Xbc_17 := Lib.hid (Xbc__17.out.setO bd (by omega) (O6.to K17 c17)); clear Xbc__17
  have Xbd_17 := Lib.hid (Xbd__17.out.setR (O6.to K17 c17)); clear Xbd__17
  have Kba_17 := Lib.hid (Kba__17.out.setR (b := bd) (by omega) (O6.to K17 c17)); clear Kba__17
  have Kbb_17 := Lib.hid (Kbb__17.out.setR (b := bd) (by omega) (O6.to K17 c17)); clear Kbb__17
  have Kbc_17 := Lib.hid (Kbc__17.out.setR (b := bd) (by omega) (O6.to K17 c17)); clear Kbc__17
  have Kbd_17 := Lib.hid (hk.out.setR (b := bd) (by omega) (O6.to K17 c17))
  clear hk hb
  generalize hw17 : (setR v17 bd (O6.to K17 c17)) = w17 at *
  clear hw17
  have T1 := Lib.hid (fun W' hb => told_is (E := E5) (c := c14) (c' := c15) Kba_17.out Kbb_17.out fit5.out nb5.out W' hb)
  obtain ⟨a0, a1, a2, a3, a4, a5, a6, a7, a8, a9, a10, a11, a12⟩ := Xba_17.out
  try dsimp only [Rec.to] at a2 a3 a4 a5 a6 a7 a8 a9 a10 a11 a12
  obtain ⟨b0, b1, b2, b3, b4, b5, b6, b7, b8, b9, b10, b11, b12⟩ := Xbb_17.out
  try dsimp only [Rec.to] at b2 b3 b4 b5 b6 b7 b8 b9 b10 b11 b12
  go_wp2_with fail
  refine (T1.out _ (Below.refl _ _)).mono ?_
  rintro e w18 ⟨rfl, hb⟩
  clear a0 a1 a2 a3 a4 a5 a6 a7 a8 a9 a10 a11 a12 b0 b1 b2 b3 b4 b5 b6 b7 b8 b9 b10 b11 b12 T1
  have P18 := Lib.hid (P17.out.next hb); clear P17
  have Xba_18 := Lib.hid (Xba_17.out.next hb); clear Xba_17
  have Xbb_18 := Lib.hid (Xbb_17.out.next hb); clear Xbb_17
  have Xbc_18 := Lib.hid (Xbc_17.out.next hb); clear Xbc_17
  have Xbd_18 := Lib.hid (Xbd_17.out.next hb); clear Xbd_17
  have Kba_18 := Lib.hid (Kba_17.out.next hb); clear Kba_17
  have Kbb_18 := Lib.hid (Kbb_17.out.next hb); clear Kbb_17
  have Kbc_18 := Lib.hid (Kbc_17.out.next hb); clear Kbc_17
  have Kbd_18 := Lib.hid (Kbd_17.out.next hb); clear Kbd_17
  clear hb
  have T1 := Lib.hid (fun W' hb => told_is (E := E6) (c := c16) (c' := c17) Kbc_18.out Kbd_18.out fit6.out nb6.out W' hb)
  obtain ⟨a0, a1, a2, a3, a4, a5, a6, a7, a8, a9, a10, a11, a12⟩ := Xbc_18.out
  try dsimp only [Rec.to] at a2 a3 a4 a5 a6 a7 a8 a9 a10 a11 a12
  obtain ⟨b0, b1, b2, b3, b4, b5, b6, b7, b8, b9, b10, b11, b12⟩ := Xbd_18.out
  try dsimp only [Rec.to] at b2 b3 b4 b5 b6 b7 b8 b9 b10 b11 b12
  go_wp2_with fail
  refine (T1.out _ (Below.refl _ _)).mono ?_
  rintro e w19 ⟨rfl, hb⟩
  clear a0 a1 a2 a3 a4 a5 a6 a7 a8 a9 a10 a11 a12 b0 b1 b2 b3 b4 b5 b6 b7 b8 b9 b10 b11 b12 T1
  have P19 := Lib.hid (P18.out.next hb); clear P18
  have Xba_19 := Lib.hid (Xba_18.out.next hb); clear Xba_18
  have Xbb_19 := Lib.hid (Xbb_18.out.next hb); clear Xbb_18
  have Xbc_19 := Lib.hid (Xbc_18.out.next hb); clear Xbc_18
  have Xbd_19 := Lib.hid (Xbd_18.out.next hb); clear Xbd_18
  have Kba_19 := Lib.hid (Kba_18.out.next hb); clear Kba_18
  have Kbb_19 := Lib.hid (Kbb_18.out.next hb); clear Kbb_18
  have Kbc_19 := Lib.hid (Kbc_18.out.next hb); clear Kbc_18
  have Kbd_19 := Lib.hid (Kbd_18.out.next hb); clear Kbd_18
  clear hb
  go_upto_region 20 with (fail)
  obtain ⟨x0, x1, x2, x3, x4, x5, x6, x7, x8, x9, x10, x11, x12⟩ := P19.out.o
  try dsimp only [Rec.to] at x2 x3 x4 x5 x6 x7 x8 x9 x10 x11 x12
  go_wp2_with fail
  refine (H7.out _ P19.out).mono ?_
  rintro e v20 ⟨K20, c20, rfl, hk, hb⟩
  dsimp only [Rec.v, Rec.to]
  clear x0 x1 x2 x3 x4 x5 x6 x7 x8 x9 x10 x11 x12
  have hk := Lib.hid (hk.mono (B' := bd + 1) Xbd_19.out.lt)
  have P_20 := Lib.hid (P19.out.next hb); clear P19
  have Xba__20 := Lib.hid (Xba_19.out.next hb); clear Xba_19
  have Xbb__20 := Lib.hid (Xbb_19.out.next hb); clear Xbb_19
  have Xbc__20 := Lib.hid (Xbc_19.out.next hb); clear Xbc_19
  have Xbd__20 := Lib.hid (Xbd_19.out.next hb); clear Xbd_19
  obtain ⟨x0, x1, x2, x3, x4, x5, x6, x7, x8, x9, x10, x11, x12⟩ := Xba__20.out
  try dsimp only [Rec.to] at x2 x3 x4 x5 x6 x7 x8 x9 x10 x11 x12
  go_upto_region 21 with (fail)
  clear x0 x1 x2 x3 x4 x5 x6 x7 x8 x9 x10 x11 x12
  change Code.wp _ _ _ _ (setR v20 ba (O7.to K20 c20))
  have P20 := Lib.hid (P_20.out.setR (b := ba) (by omega) (O7.to K20 c20)); clear P_20
  have Xba_20 := Lib.hid (Xba__20.out.setR (O7.to K20 c20)); clear Xba__20
  have Xbb_20 := Lib.hid (Xbb__20.out.setO ba (by omega) (O7.to K20 c20)); clear Xbb__20
  have Xbc_20 := Lib.hid (Xbc__20.out.setO ba (by omega) (O7.to K20 c20)); clear Xbc__20
  have Xbd_20 := Lib.hid (Xbd__20.out.setO ba (by omega) (O7.to K20 c20)); clear Xbd__20
  have Kba_20 := Lib.hid (hk.out.setR (b := ba) (by omega) (O7.to K20 c20))
  clear hk hb
  generalize hw20 : (setR v20 ba (O7.to K20 c20)) = w20 at *
  clear hw20
  obtain ⟨y0, y1, y2, y3, y4, y5, y6, y7, y8, y9, y10, y11, y12⟩ := P20.out.x
  try dsimp only [Rec.to] at y2 y3 y4 y5 y6 y7 y8 y9 y10 y11 y12
  go_wp2_with fail
  refine (G7.out _ P20.out).mono ?_
  rintro e v21 ⟨K21, c21, rfl, hk, hb⟩
  dsimp only [Rec.v, Rec.to]
  clear y0 y1 y2 y3 y4 y5 y6 y7 y8 y9 y10 y11 y12
  have hk := Lib.hid (hk.mono (B' := bd + 1) Xbd_20.out.lt)
  have P_21 := Lib.hid (P20.out.next hb); clear P20
  have Xba__21 := Lib.hid (Xba_20.out.next hb); clear Xba_20
  have Xbb__21 := Lib.hid (Xbb_20.out.next hb); clear Xbb_20
  have Xbc__21 := Lib.hid (Xbc_20.out.next hb); clear Xbc_20
  have Xbd__21 := Lib.hid (Xbd_20.out.next hb); clear Xbd_20
  have Kba__21 := Lib.hid (Kba_20.out.next hb); clear Kba_20
  obtain ⟨x0, x1, x2, x3, x4, x5, x6, x7, x8, x9, x10, x11, x12⟩ := Xbb__21.out
  try dsimp only [Rec.to] at x2 x3 x4 x5 x6 x7 x8 x9 x10 x11 x12
  go_upto_region 22 with (fail)
  clear x0 x1 x2 x3 x4 x5 x6 x7 x8 x9 x10 x11 x12
  change Code.wp _ _ _ _ (setR v21 bb (O7.to K21 c21))
  have P21 := Lib.hid (P_21.out.setR (b := bb) (by omega) (O7.to K21 c21)); clear P_21
  have Xba_21 := Lib.hid (Xba__21.out.setO bb (by omega) (O7.to K21 c21)); clear Xba__21
  have Xbb_21 := Lib.hid (Xbb__21.out.setR (O7.to K21 c21)); clear Xbb__21
  have Xbc_21 := Lib.hid (Xbc__21.out.setO bb (by omega) (O7.to K21 c21)); clear Xbc__21
  have Xbd_21 := Lib.hid (Xbd__21.out.setO bb (by omega) (O7.to K21 c21)); clear Xbd__21
  have Kba_21 := Lib.hid (Kba__21.out.setR (b := bb) (by omega) (O7.to K21 c21)); clear Kba__21
  have Kbb_21 := Lib.hid (hk.out.setR (b := bb) (by omega) (O7.to K21 c21))
  clear hk hb
  generalize hw21 : (setR v21 bb (O7.to K21 c21)) = w21 at *
  clear hw21
  obtain ⟨y0, y1, y2, y3, y4, y5, y6, y7, y8, y9, y10, y11, y12⟩ := P21.out.x
  try dsimp only [Rec.to] at y2 y3 y4 y5 y6 y7 y8 y9 y10 y11 y12
  go_wp2_with fail
  refine (H8.out _ P21.out).mono ?_
  rintro e v22 ⟨K22, c22, rfl, hk, hb⟩
  dsimp only [Rec.v, Rec.to]
  clear y0 y1 y2 y3 y4 y5 y6 y7 y8 y9 y10 y11 y12
  have hk := Lib.hid (hk.mono (B' := bd + 1) Xbd_21.out.lt)
  have P_22 := Lib.hid (P21.out.next hb); clear P21
  have Xba__22 := Lib.hid (Xba_21.out.next hb); clear Xba_21
  have Xbb__22 := Lib.hid (Xbb_21.out.next hb); clear Xbb_21
  have Xbc__22 := Lib.hid (Xbc_21.out.next hb); clear Xbc_21
  have Xbd__22 := Lib.hid (Xbd_21.out.next hb); clear Xbd_21
  have Kba__22 := Lib.hid (Kba_21.out.next hb); clear Kba_21
  have Kbb__22 := Lib.hid (Kbb_21.out.next hb); clear Kbb_21
  obtain ⟨x0, x1, x2, x3, x4, x5, x6, x7, x8, x9, x10, x11, x12⟩ := Xbc__22.out
  try dsimp only [Rec.to] at x2 x3 x4 x5 x6 x7 x8 x9 x10 x11 x12
  go_upto_region 23 with (fail)
  clear x0 x1 x2 x3 x4 x5 x6 x7 x8 x9 x10 x11 x12
  change Code.wp _ _ _ _ (setR v22 bc (O8.to K22 c22))
  have P22 := Lib.hid (P_22.out.setR (b := bc) (by omega) (O8.to K22 c22)); clear P_22
  have Xba_22 := Lib.hid (Xba__22.out.setO bc (by omega) (O8.to K22 c22)); clear Xba__22
  have Xbb_22 := Lib.hid (Xbb__22.out.setO bc (by omega) (O8.to K22 c22)); clear Xbb__22
  have Xbc_22 := Lib.hid (Xbc__22.out.setR (O8.to K22 c22)); clear Xbc__22
  have Xbd_22 := Lib.hid (Xbd__22.out.setO bc (by omega) (O8.to K22 c22)); clear Xbd__22
  have Kba_22 := Lib.hid (Kba__22.out.setR (b := bc) (by omega) (O8.to K22 c22)); clear Kba__22
  have Kbb_22 := Lib.hid (Kbb__22.out.setR (b := bc) (by omega) (O8.to K22 c22)); clear Kbb__22
  have Kbc_22 := Lib.hid (hk.out.setR (b := bc) (by omega) (O8.to K22 c22))
  clear hk hb
  generalize hw22 : (setR v22 bc (O8.to K22 c22)) = w22 at *
  clear hw22
  obtain ⟨y0, y1, y2, y3, y4, y5, y6, y7, y8, y9, y10, y11, y12⟩ := P22.out.x
  try dsimp only [Rec.to] at y2 y3 y4 y5 y6 y7 y8 y9 y10 y11 y12
  go_wp2_with fail
  refine (G8.out _ P22.out).mono ?_
  rintro e v23 ⟨K23, c23, rfl, hk, hb⟩
  dsimp only [Rec.v, Rec.to]
  clear y0 y1 y2 y3 y4 y5 y6 y7 y8 y9 y10 y11 y12
  have hk := Lib.hid (hk.mono (B' := bd + 1) Xbd_22.out.lt)
  have P_23 := Lib.hid (P22.out.next hb); clear P22
  have Xba__23 := Lib.hid (Xba_22.out.next hb); clear Xba_22
  have Xbb__23 := Lib.hid (Xbb_22.out.next hb); clear Xbb_22
  have Xbc__23 := Lib.hid (Xbc_22.out.next hb); clear Xbc_22
  have Xbd__23 := Lib.hid (Xbd_22.out.next hb); clear Xbd_22
  have Kba__23 := Lib.hid (Kba_22.out.next hb); clear Kba_22
  have Kbb__23 := Lib.hid (Kbb_22.out.next hb); clear Kbb_22
  have Kbc__23 := Lib.hid (Kbc_22.out.next hb); clear Kbc_22
  obtain ⟨x0, x1, x2, x3, x4, x5, x6, x7, x8, x9, x10, x11, x12⟩ := Xbd__23.out
  try dsimp only [Rec.to] at x2 x3 x4 x5 x6 x7 x8 x9 x10 x11 x12
  go_upto_region 24 with (fail)
  clear x0 x1 x2 x3 x4 x5 x6 x7 x8 x9 x10 x11 x12
  change Code.wp _ _ _ _ (setR v23 bd (O8.to K23 c23))
  have P23 := Lib.hid (P_23.out.setR (b := bd) (by omega) (O8.to K23 c23)); clear P_23
  have Xba_23 := Lib.hid (Xba__23.out.setO bd (by omega) (O8.to K23 c23)); clear Xba__23
  have Xbb_23 := Lib.hid (Xbb__23.out.setO bd (by omega) (O8.to K23 c23)); clear Xbb__23
  have Xbc_23 := Lib.hid (Xbc__23.out.setO bd (by omega) (O8.to K23 c23)); clear Xbc__23
  have Xbd_23 := Lib.hid (Xbd__23.out.setR (O8.to K23 c23)); clear Xbd__23
  have Kba_23 := Lib.hid (Kba__23.out.setR (b := bd) (by omega) (O8.to K23 c23)); clear Kba__23
  have Kbb_23 := Lib.hid (Kbb__23.out.setR (b := bd) (by omega) (O8.to K23 c23)); clear Kbb__23
  have Kbc_23 := Lib.hid (Kbc__23.out.setR (b := bd) (by omega) (O8.to K23 c23)); clear Kbc__23
  have Kbd_23 := Lib.hid (hk.out.setR (b := bd) (by omega) (O8.to K23 c23))
  clear hk hb
  generalize hw23 : (setR v23 bd (O8.to K23 c23)) = w23 at *
  clear hw23
  obtain ⟨y0, y1, y2, y3, y4, y5, y6, y7, y8, y9, y10, y11, y12⟩ := P23.out.x
  try dsimp only [Rec.to] at y2 y3 y4 y5 y6 y7 y8 y9 y10 y11 y12
  go_wp2_with fail
  refine (HT.out _).mono ?_
  rintro e w24 ⟨rfl, hb⟩
  clear y0 y1 y2 y3 y4 y5 y6 y7 y8 y9 y10 y11 y12
  have P24 := Lib.hid (P23.out.next hb); clear P23
  have Xba_24 := Lib.hid (Xba_23.out.next hb); clear Xba_23
  have Xbb_24 := Lib.hid (Xbb_23.out.next hb); clear Xbb_23
  have Xbc_24 := Lib.hid (Xbc_23.out.next hb); clear Xbc_23
  have Xbd_24 := Lib.hid (Xbd_23.out.next hb); clear Xbd_23
  have Kba_24 := Lib.hid (Kba_23.out.next hb); clear Kba_23
  have Kbb_24 := Lib.hid (Kbb_23.out.next hb); clear Kbb_23
  have Kbc_24 := Lib.hid (Kbc_23.out.next hb); clear Kbc_23
  have Kbd_24 := Lib.hid (Kbd_23.out.next hb); clear Kbd_23
  clear hb
  go_upto_region 25 with (fail)
  obtain ⟨y0, y1, y2, y3, y4, y5, y6, y7, y8, y9, y10, y11, y12⟩ := P24.out.x
  try dsimp only [Rec.to] at y2 y3 y4 y5 y6 y7 y8 y9 y10 y11 y12
  go_wp2_with fail
  refine (GT.out _).mono ?_
  rintro e w25 ⟨rfl, hb⟩
  clear y0 y1 y2 y3 y4 y5 y6 y7 y8 y9 y10 y11 y12
  have P25 := Lib.hid (P24.out.next hb); clear P24
  have Xba_25 := Lib.hid (Xba_24.out.next hb); clear Xba_24
  have Xbb_25 := Lib.hid (Xbb_24.out.next hb); clear Xbb_24
  have Xbc_25 := Lib.hid (Xbc_24.out.next hb); clear Xbc_24
  have Xbd_25 := Lib.hid (Xbd_24.out.next hb); clear Xbd_24
  have Kba_25 := Lib.hid (Kba_24.out.next hb); clear Kba_24
  have Kbb_25 := Lib.hid (Kbb_24.out.next hb); clear Kbb_24
  have Kbc_25 := Lib.hid (Kbc_24.out.next hb); clear Kbc_24
  have Kbd_25 := Lib.hid (Kbd_24.out.next hb); clear Kbd_24
  clear hb
  go_upto_region 26 with (fail)
  have T1 := Lib.hid (fun W' hb => told_is (E := E7) (c := c20) (c' := c21) Kba_25.out Kbb_25.out fit7.out nb7.out W' hb)
  obtain ⟨a0, a1, a2, a3, a4, a5, a6, a7, a8, a9, a10, a11, a12⟩ := Xba_25.out
  try dsimp only [Rec.to] at a2 a3 a4 a5 a6 a7 a8 a9 a10 a11 a12
  obtain ⟨b0, b1, b2, b3, b4, b5, b6, b7, b8, b9, b10, b11, b12⟩ := Xbb_25.out
  try dsimp only [Rec.to] at b2 b3 b4 b5 b6 b7 b8 b9 b10 b11 b12
  go_wp2_with fail
  refine (T1.out _ (Below.refl _ _)).mono ?_
  rintro e w26 ⟨rfl, hb⟩
  clear a0 a1 a2 a3 a4 a5 a6 a7 a8 a9 a10 a11 a12 b0 b1 b2 b3 b4 b5 b6 b7 b8 b9 b10 b11 b12 T1
  have P26 := Lib.hid (P25.out.next hb); clear P25
  have Xba_26 := Lib.hid (Xba_25.out.next hb); clear Xba_25
  have Xbb_26 := Lib.hid (Xbb_25.out.next hb); clear Xbb_25
  have Xbc_26 := Lib.hid (Xbc_25.out.next hb); clear Xbc_25
  have Xbd_26 := Lib.hid (Xbd_25.out.next hb); clear Xbd_25
  have Kba_26 := Lib.hid (Kba_25.out.next hb); clear Kba_25
  have Kbb_26 := Lib.hid (Kbb_25.out.next hb); clear Kbb_25
  have Kbc_26 := Lib.hid (Kbc_25.out.next hb); clear Kbc_25
  have Kbd_26 := Lib.hid (Kbd_25.out.next hb); clear Kbd_25
  clear hb
  have T1 := Lib.hid (fun W' hb => told_is (E := E8) (c := c22) (c' := c23) Kbc_26.out Kbd_26.out fit8.out nb8.out W' hb)
  obtain ⟨a0, a1, a2, a3, a4, a5, a6, a7, a8, a9, a10, a11, a12⟩ := Xbc_26.out
  try dsimp only [Rec.to] at a2 a3 a4 a5 a6 a7 a8 a9 a10 a11 a12
  obtain ⟨b0, b1, b2, b3, b4, b5, b6, b7, b8, b9, b10, b11, b12⟩ := Xbd_26.out
  try dsimp only [Rec.to] at b2 b3 b4 b5 b6 b7 b8 b9 b10 b11 b12
  go_wp2_with fail
  refine (T1.out _ (Below.refl _ _)).mono ?_
  rintro e w27 ⟨rfl, hb⟩
  clear a0 a1 a2 a3 a4 a5 a6 a7 a8 a9 a10 a11 a12 b0 b1 b2 b3 b4 b5 b6 b7 b8 b9 b10 b11 b12 T1
  have P27 := Lib.hid (P26.out.next hb); clear P26
  have Xba_27 := Lib.hid (Xba_26.out.next hb); clear Xba_26
  have Xbb_27 := Lib.hid (Xbb_26.out.next hb); clear Xbb_26
  have Xbc_27 := Lib.hid (Xbc_26.out.next hb); clear Xbc_26
  have Xbd_27 := Lib.hid (Xbd_26.out.next hb); clear Xbd_26
  have Kba_27 := Lib.hid (Kba_26.out.next hb); clear Kba_26
  have Kbb_27 := Lib.hid (Kbb_26.out.next hb); clear Kbb_26
  have Kbc_27 := Lib.hid (Kbc_26.out.next hb); clear Kbc_26
  have Kbd_27 := Lib.hid (Kbd_26.out.next hb); clear Kbd_26
  clear hb
  obtain ⟨x0, x1, x2, x3, x4, x5, x6, x7, x8, x9, x10, x11, x12⟩ := P27.out.o
  try dsimp only [Rec.to] at x2 x3 x4 x5 x6 x7 x8 x9 x10 x11 x12
  obtain ⟨y0, y1, y2, y3, y4, y5, y6, y7, y8, y9, y10, y11, y12⟩ := P27.out.x
  try dsimp only [Rec.to] at y2 y3 y4 y5 y6 y7 y8 y9 y10 y11 y12
  go_wp2_with fail
  refine (HS.out _ P27.out).mono ?_
  rintro e w28 ⟨rfl, hb⟩
  clear x0 x1 x2 x3 x4 x5 x6 x7 x8 x9 x10 x11 x12 y0 y1 y2 y3 y4 y5 y6 y7 y8 y9 y10 y11 y12
  have P28 := Lib.hid (P27.out.next hb); clear P27
  have Xba_28 := Lib.hid (Xba_27.out.next hb); clear Xba_27
  have Xbb_28 := Lib.hid (Xbb_27.out.next hb); clear Xbb_27
  have Xbc_28 := Lib.hid (Xbc_27.out.next hb); clear Xbc_27
  have Xbd_28 := Lib.hid (Xbd_27.out.next hb); clear Xbd_27
  clear hb
  obtain ⟨x0, x1, x2, x3, x4, x5, x6, x7, x8, x9, x10, x11, x12⟩ := P28.out.o
  try dsimp only [Rec.to] at x2 x3 x4 x5 x6 x7 x8 x9 x10 x11 x12
  obtain ⟨y0, y1, y2, y3, y4, y5, y6, y7, y8, y9, y10, y11, y12⟩ := P28.out.x
  try dsimp only [Rec.to] at y2 y3 y4 y5 y6 y7 y8 y9 y10 y11 y12
  go_wp2_with fail
  refine (HKE.out _ P28.out).mono ?_
  rintro e w29 ⟨rfl, hb⟩
  clear x0 x1 x2 x3 x4 x5 x6 x7 x8 x9 x10 x11 x12 y0 y1 y2 y3 y4 y5 y6 y7 y8 y9 y10 y11 y12
  have P29 := Lib.hid (P28.out.next hb); clear P28
  have Xba_29 := Lib.hid (Xba_28.out.next hb); clear Xba_28
  have Xbb_29 := Lib.hid (Xbb_28.out.next hb); clear Xbb_28
  have Xbc_29 := Lib.hid (Xbc_28.out.next hb); clear Xbc_28
  have Xbd_29 := Lib.hid (Xbd_28.out.next hb); clear Xbd_28
  clear hb
  go_wp2
  go_ret
  exact ⟨rfl, P29.out.bel⟩
end Go.Proofs.Ythigmjcepbgljaa
