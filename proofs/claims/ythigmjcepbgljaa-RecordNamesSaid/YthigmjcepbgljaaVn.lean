/- Walks: the chapter's transaction and record. -/
import Derived.Test.YthigmjcepbgljaaVm
import Derived.Deep.RegionHeld3
namespace Go.Proofs.Ythigmjcepbgljaa
open Go.RowKit Go.St
set_option linter.unusedVariables false
set_option linter.unusedSimpArgs false
set_option maxRecDepth 100000

def tx (c : UInt8) : ByteArray := ⟨#[c]⟩
theorem rdn_new (w : World) (l : List ByteArray) (t : TypeId) (B : Nat) (hB : B ≤ w.heap.size) : RdN (w.alloc (.cells (sv l).toArray t)) B (some ⟨w.heap.size, 0, none⟩) (sv l) := fun _ => by
  refine ⟨w.heap.size, 0, rfl, hB, by simp, fun i v hv => ?_⟩
  rw [World.cell?_alloc_mark]
  simpa using hv
def ex22 : Rec := ⟨1, 2, 2, ⟨9, 0, 17⟩, none, 2, 0, [tx 97, tx 98], 6, ⟨0, 0, 0⟩⟩
def Ex22 (w : World) (e : Ending) (w' : World) : Prop :=
  ∃ A c, e = .returned (.tuple #[.agg #[.int .i32 1, .int .i32 2], .agg #[.int .i32 1, .int .i32 2, .int .u8 2, .int .i64 9, .int .i32 0, .int .i32 17, .slice A 2 c, .int .i64 6, .int .i64 0, .int .i32 0, .int .i32 0]]) ∧ RdN w' w.heap.size A (sv [tx 97, tx 98]) ∧ Below w.heap.size w w'
/-- A transaction in a block. -/
structure BxT (W : World) (b : Nat) (x y : Int) : Prop where
  lt : b < W.heap.size
  fz : ∀ o, W.frozen? ⟨b, o, none⟩ = false
  c0 : W.cell? ⟨b, 0, none⟩ = some (.int .i32 x)
  c1 : W.cell? ⟨b, 1, none⟩ = some (.int .i32 y)
theorem BxT.next {W W' : World} {b : Nat} {x y : Int} (h : BxT W b x y) (hb : Below W.heap.size W W') : BxT W' b x y :=
  ⟨Nat.lt_of_lt_of_le h.lt hb.size, fun o => (hb.frozen (p := ⟨b, o, none⟩) h.lt).trans (h.fz o), (hb.cell (p := ⟨b, 0, none⟩) h.lt).trans h.c0, (hb.cell (p := ⟨b, 1, none⟩) h.lt).trans h.c1⟩
theorem BxT.alloc {W : World} {b : Nat} {x y : Int} (h : BxT W b x y) (o : Obj) : BxT (W.alloc o) b x y := h.next ((Below.refl _ _).alloc (Nat.le_refl _) _)
theorem BxT.new (W : World) (x y : Int) (t : TypeId) : BxT (W.alloc (.cells #[.int .i32 x, .int .i32 y] t)) W.heap.size x y := by
  constructor <;> first | (intro o; simp) | simp
/-- A transaction stored. -/
def setT (W : World) (b : Nat) (x y : Int) : World := (W.setCell ⟨b, 0, none⟩ (.int .i32 x)).setCell ⟨b, 1, none⟩ (.int .i32 y)
theorem BxT.setT {W : World} {b : Nat} {x0 y0 : Int} (h : BxT W b x0 y0) (x y : Int) : BxT (setT W b x y) b x y := by
  obtain ⟨a0, a1, a2, a3⟩ := h
  unfold Go.Proofs.Ythigmjcepbgljaa.setT
  constructor <;> first | (intro o; simp [a1]) | simp [go_sem, *]
theorem BxT.set {W : World} {b : Nat} {x y : Int} (h : BxT W b x y) {p : Addr} (hp : b ≠ p.block) (u : Value) : BxT (W.setCell p u) b x y := by
  have hc := fun o => World.cell?_setCell_other W p ⟨b, o, none⟩ u (fun e => hp (congrArg Addr.block e).symm)
  obtain ⟨x0, x1, x2, x3⟩ := h
  exact ⟨by simpa [World.setCell] using x0, fun o => by simp [x1], (hc 0).trans x2, (hc 1).trans x3⟩
theorem BxT.setR {W : World} {b : Nat} {x y : Int} (h : BxT W b x y) {b' : Nat} (hb : b ≠ b') (r : Rec) : BxT (Go.Proofs.Ythigmjcepbgljaa.setR W b' r) b x y := by
  unfold Go.Proofs.Ythigmjcepbgljaa.setR
  exact ((((((((((h.set hb _).set hb _).set hb _).set hb _).set hb _).set hb _).set hb _).set hb _).set hb _).set hb _).set hb _
theorem BxQ.setT {W : World} {b : Nat} {r : Rec} (h : BxQ W b r) {b' : Nat} (hb : b ≠ b') (x y : Int) : BxQ (Go.Proofs.Ythigmjcepbgljaa.setT W b' x y) b r := (h.set hb _).set hb _
theorem bel_setT {B : Nat} {w W : World} (h : Below B w W) {b : Nat} (hb : B ≤ b) (x y : Int) : Below B w (Go.Proofs.Ythigmjcepbgljaa.setT W b x y) := (h.setCell hb _).setCell hb _
theorem RdN.setT {w : World} {B : Nat} {A : Option Addr} {xs : List Value} (h : RdN w B A xs) {b : Nat} (hb : b < B) (x y : Int) : RdN (Go.Proofs.Ythigmjcepbgljaa.setT w b x y) B A xs := (h.set hb _).set hb _
theorem size_setT (W : World) (b : Nat) (x y : Int) : (Go.Proofs.Ythigmjcepbgljaa.setT W b x y).heap.size = W.heap.size := by simp [Go.Proofs.Ythigmjcepbgljaa.setT, World.setCell]
theorem size_setR (W : World) (b : Nat) (r : Rec) : (Go.Proofs.Ythigmjcepbgljaa.setR W b r).heap.size = W.heap.size := by simp [Go.Proofs.Ythigmjcepbgljaa.setR, World.setCell]
set_option maxHeartbeats 1600000 in
theorem example22_any (w : World) : Calls Try.prog 36 #[] w (Ex22 w) := by
  go_enter Try.func36, Try.ntmps36
  go_wp2
  have HB0 : Hid (Below w.heap.size w (((w.alloc (.cells #[.int .i32 0, .int .i32 0] 24)).alloc (.cells #[.int .i32 0, .int .i32 0, .int .u8 0, .int .i64 0, .int .i32 0, .int .i32 0, .slice none 0 0, .int .i64 0, .int .i64 0, .int .i32 0, .int .i32 0] 30)).alloc (.cells #[.int .i32 1, .int .i32 2] 24))) := Lib.hid (by go_grown)
  have Y0 := (BxQ.new (w.alloc (.cells #[.int .i32 0, .int .i32 0] 24)) ⟨0, 0, 0, ⟨0, 0, 0⟩, none, 0, 0, [], 0, ⟨0, 0, 0⟩⟩ 30).alloc (.cells #[.int .i32 1, .int .i32 2] 24)
  rw [World.size_alloc] at Y0
  have T0 : BxT (((w.alloc (.cells #[.int .i32 0, .int .i32 0] 24)).alloc (.cells #[.int .i32 0, .int .i32 0, .int .u8 0, .int .i64 0, .int .i32 0, .int .i32 0, .slice none 0 0, .int .i64 0, .int .i64 0, .int .i32 0, .int .i32 0] 30)).alloc (.cells #[.int .i32 1, .int .i32 2] 24)) w.heap.size 0 0 := ((BxT.new w 0 0 _).alloc _).alloc _
  have T2 : BxT (((w.alloc (.cells #[.int .i32 0, .int .i32 0] 24)).alloc (.cells #[.int .i32 0, .int .i32 0, .int .u8 0, .int .i64 0, .int .i32 0, .int .i32 0, .slice none 0 0, .int .i64 0, .int .i64 0, .int .i32 0, .int .i32 0] 30)).alloc (.cells #[.int .i32 1, .int .i32 2] 24)) (w.heap.size + 1 + 1) 1 2 := by
    have h := BxT.new ((w.alloc (.cells #[.int .i32 0, .int .i32 0] 24)).alloc (.cells #[.int .i32 0, .int .i32 0, .int .u8 0, .int .i64 0, .int .i32 0, .int .i32 0, .slice none 0 0, .int .i64 0, .int .i64 0, .int .i32 0, .int .i32 0] 30)) 1 2 24
    rw [World.size_alloc, World.size_alloc] at h
    exact h
  dsimp only at Y0
  generalize hW : (((w.alloc (.cells #[.int .i32 0, .int .i32 0] 24)).alloc (.cells #[.int .i32 0, .int .i32 0, .int .u8 0, .int .i64 0, .int .i32 0, .int .i32 0, .slice none 0 0, .int .i64 0, .int .i64 0, .int .i32 0, .int .i32 0] 30)).alloc (.cells #[.int .i32 1, .int .i32 2] 24)) = W0 at *
  clear hW
  have HY0 := Lib.hid Y0; have HT0 := Lib.hid T0; have HT2 := Lib.hid T2
  obtain ⟨y0, y1, y2, y3, y4, y5, y6, y7, y8, y9, y10, y11, y12⟩ := Y0
  dsimp only at y2 y3 y4 y5 y6 y7 y8 y9 y10 y11 y12
  obtain ⟨t0, t1, t2, t3⟩ := T0
  obtain ⟨s0, s1, s2, s3⟩ := T2
  go_region_held3 (fun W => W.cell? ⟨w.heap.size + 1 + 1, 0, none⟩ = some (.int .i32 1) ∧ W.cell? ⟨w.heap.size + 1 + 1, 1, none⟩ = some (.int .i32 2)) (first | (with_reducible exact ⟨s2, s3⟩) | (with_reducible exact ⟨k1, k2⟩) | ((try dsimp only); constructor <;> (first | (with_reducible assumption) | go_simp))) (first | (go_at_call 38; refine (st22_any _ _ _ _).mono ?_; rintro e w1 ⟨rfl, hb1⟩; have YY : BxQ w1 (w.heap.size + 1) ⟨0, 0, 0, ⟨0, 0, 0⟩, none, 0, 0, [], 0, ⟨0, 0, 0⟩⟩ := (by first | exact HY0.out.next hb1 | exact (HY0.out.next (Below.drew (Below.refl _ _))).next hb1 | exact ((HY0.out.next (Below.drew (Below.refl _ _))).alloc _).next hb1 | exact ((HY0.out.alloc _).next (Below.drew (Below.refl _ _))).next hb1); have TT : BxT w1 w.heap.size 0 0 := (by first | exact HT0.out.next hb1 | exact (HT0.out.next (Below.drew (Below.refl _ _))).next hb1 | exact ((HT0.out.next (Below.drew (Below.refl _ _))).alloc _).next hb1 | exact ((HT0.out.alloc _).next (Below.drew (Below.refl _ _))).next hb1); have SS : BxT w1 (w.heap.size + 1 + 1) 1 2 := (by first | exact HT2.out.next hb1 | exact (HT2.out.next (Below.drew (Below.refl _ _))).next hb1 | exact ((HT2.out.next (Below.drew (Below.refl _ _))).alloc _).next hb1 | exact ((HT2.out.alloc _).next (Below.drew (Below.refl _ _))).next hb1); obtain ⟨r0, r1, r2, r3, r4, r5, r6, r7, r8, r9, r10, r11, r12⟩ := YY; dsimp only at r2 r3 r4 r5 r6 r7 r8 r9 r10 r11 r12; obtain ⟨p0, p1, p2, p3⟩ := TT; obtain ⟨k0, k9, k1, k2⟩ := SS))
  all_goals
    have hz0 := HB0.out.size
    have k99 : Below w.heap.size w w1 := by
      first
        | exact Below.go (Below.drew HB0.out) hb1 (by simp; omega)
        | exact Below.go (Below.drew (HB0.out.alloc HB0.out.size _)) hb1 (by simp; omega)
        | exact Below.go ((Below.drew HB0.out).alloc (by simp; omega) _) hb1 (by simp; omega)
    have K9 := Lib.hid k99
    have HB1 := Lib.hid hb1
    have hzz : W0.heap.size ≤ w1.heap.size := by have := hb1.size; simp at this; omega
    have YY : BxQ w1 (w.heap.size + 1) ⟨0, 0, 0, ⟨0, 0, 0⟩, none, 0, 0, [], 0, ⟨0, 0, 0⟩⟩ := ⟨r0, r1, r2, r3, r4, r5, r6, r7, r8, r9, r10, r11, r12⟩
    have TT : BxT w1 w.heap.size 0 0 := ⟨p0, p1, p2, p3⟩
    rename_i hHeld
    clear hHeld
    clear k99 hb1 y0 y1 y2 y3 y4 y5 y6 y7 y8 y9 y10 y11 y12 t1 t2 t3 s1 s2 s3 HY0 HT0 HT2 r0 r1 r2 r3 r4 r5 r6 r7 r8 r9 r10 r11 r12 p1 p2 p3 k9 k1 k2
  · change Exit.then _ _ _ _ ((setR (setT w1 w.heap.size 1 2) (w.heap.size + 1) ⟨1, 2, 2, ⟨9, 0, 17⟩, some ⟨w1.heap.size, 0, none⟩, 2, 2, [tx 97, tx 98], 6, ⟨0, 0, 0⟩⟩).alloc (.cells #[.string ⟨#[97]⟩, .string ⟨#[98]⟩] 9))
    have Y5 : BxQ (setR (setT w1 w.heap.size 1 2) (w.heap.size + 1) ⟨1, 2, 2, ⟨9, 0, 17⟩, some ⟨w1.heap.size, 0, none⟩, 2, 2, [tx 97, tx 98], 6, ⟨0, 0, 0⟩⟩) (w.heap.size + 1) ⟨1, 2, 2, ⟨9, 0, 17⟩, some ⟨w1.heap.size, 0, none⟩, 2, 2, [tx 97, tx 98], 6, ⟨0, 0, 0⟩⟩ := (YY.setT (by omega) 1 2).setR ⟨1, 2, 2, ⟨9, 0, 17⟩, some ⟨w1.heap.size, 0, none⟩, 2, 2, [tx 97, tx 98], 6, ⟨0, 0, 0⟩⟩
    have T5 : BxT (setR (setT w1 w.heap.size 1 2) (w.heap.size + 1) ⟨1, 2, 2, ⟨9, 0, 17⟩, some ⟨w1.heap.size, 0, none⟩, 2, 2, [tx 97, tx 98], 6, ⟨0, 0, 0⟩⟩) w.heap.size 1 2 := (TT.setT 1 2).setR (by omega) ⟨1, 2, 2, ⟨9, 0, 17⟩, some ⟨w1.heap.size, 0, none⟩, 2, 2, [tx 97, tx 98], 6, ⟨0, 0, 0⟩⟩
    have L5 := Lib.hid (bel_setR (bel_setT K9.out (Nat.le_refl _) 1 2) (b := w.heap.size + 1) (by omega) ⟨1, 2, 2, ⟨9, 0, 17⟩, some ⟨w1.heap.size, 0, none⟩, 2, 2, [tx 97, tx 98], 6, ⟨0, 0, 0⟩⟩)
    have S5 : Hid ((setR (setT w1 w.heap.size 1 2) (w.heap.size + 1) ⟨1, 2, 2, ⟨9, 0, 17⟩, some ⟨w1.heap.size, 0, none⟩, 2, 2, [tx 97, tx 98], 6, ⟨0, 0, 0⟩⟩).heap.size = w1.heap.size) := Lib.hid (by rw [size_setR, size_setT])
    have R5 := Lib.hid (fun (h : RdN w1 (w.heap.size + 1 + 1) (some ⟨w1.heap.size, 0, none⟩) (sv [tx 97, tx 98])) => (((h.set (p := ⟨w.heap.size, 0, none⟩) (by simp; omega) (.int .i32 1)).set (p := ⟨w.heap.size, 1, none⟩) (by simp; omega) (.int .i32 2)).setR (b := w.heap.size + 1) (by omega) ⟨1, 2, 2, ⟨9, 0, 17⟩, some ⟨w1.heap.size, 0, none⟩, 2, 2, [tx 97, tx 98], 6, ⟨0, 0, 0⟩⟩ : RdN (setR (setT w1 w.heap.size 1 2) (w.heap.size + 1) ⟨1, 2, 2, ⟨9, 0, 17⟩, some ⟨w1.heap.size, 0, none⟩, 2, 2, [tx 97, tx 98], 6, ⟨0, 0, 0⟩⟩) _ _ _))
    clear YY TT
    generalize (setR (setT w1 w.heap.size 1 2) (w.heap.size + 1) ⟨1, 2, 2, ⟨9, 0, 17⟩, some ⟨w1.heap.size, 0, none⟩, 2, 2, [tx 97, tx 98], 6, ⟨0, 0, 0⟩⟩) = w5 at *
    obtain ⟨y0, y1, y2, y3, y4, y5, y6, y7, y8, y9, y10, y11, y12⟩ := Y5
    dsimp only at y2 y3 y4 y5 y6 y7 y8 y9 y10 y11 y12
    obtain ⟨t4, t5, t6, t7⟩ := T5
    go_wp2
    refine bodyPost_ret (v := .tuple #[.agg #[.int .i32 1, .int .i32 2], .agg #[.int .i32 1, .int .i32 2, .int .u8 2, .int .i64 9, .int .i32 0, .int .i32 17, .slice (some ⟨w1.heap.size, 0, none⟩) 2 2, .int .i64 6, .int .i64 0, .int .i32 0, .int .i32 0]]) (by simp [results, Try.results36, go_sem, *]) rfl ⟨some ⟨w1.heap.size, 0, none⟩, 2, rfl, ?_, ?_⟩
    · have h := rdn_new w5 [tx 97, tx 98] 9 w.heap.size (by omega); rw [S5.out] at h; exact h
    · have hb := L5.out; have hbs := hb.size; go_grown
  · change Exit.then _ _ _ _ ((setR (setT w1 w.heap.size 1 2) (w.heap.size + 1) ⟨1, 2, 2, ⟨9, 0, 17⟩, some ⟨w1.heap.size, 0, none⟩, 2, 2, [tx 97, tx 98], 6, ⟨0, 0, 0⟩⟩).alloc (.cells #[.string ⟨#[97]⟩, .string ⟨#[98]⟩] 9))
    have Y5 : BxQ (setR (setT w1 w.heap.size 1 2) (w.heap.size + 1) ⟨1, 2, 2, ⟨9, 0, 17⟩, some ⟨w1.heap.size, 0, none⟩, 2, 2, [tx 97, tx 98], 6, ⟨0, 0, 0⟩⟩) (w.heap.size + 1) ⟨1, 2, 2, ⟨9, 0, 17⟩, some ⟨w1.heap.size, 0, none⟩, 2, 2, [tx 97, tx 98], 6, ⟨0, 0, 0⟩⟩ := (YY.setT (by omega) 1 2).setR ⟨1, 2, 2, ⟨9, 0, 17⟩, some ⟨w1.heap.size, 0, none⟩, 2, 2, [tx 97, tx 98], 6, ⟨0, 0, 0⟩⟩
    have T5 : BxT (setR (setT w1 w.heap.size 1 2) (w.heap.size + 1) ⟨1, 2, 2, ⟨9, 0, 17⟩, some ⟨w1.heap.size, 0, none⟩, 2, 2, [tx 97, tx 98], 6, ⟨0, 0, 0⟩⟩) w.heap.size 1 2 := (TT.setT 1 2).setR (by omega) ⟨1, 2, 2, ⟨9, 0, 17⟩, some ⟨w1.heap.size, 0, none⟩, 2, 2, [tx 97, tx 98], 6, ⟨0, 0, 0⟩⟩
    have L5 := Lib.hid (bel_setR (bel_setT K9.out (Nat.le_refl _) 1 2) (b := w.heap.size + 1) (by omega) ⟨1, 2, 2, ⟨9, 0, 17⟩, some ⟨w1.heap.size, 0, none⟩, 2, 2, [tx 97, tx 98], 6, ⟨0, 0, 0⟩⟩)
    have S5 : Hid ((setR (setT w1 w.heap.size 1 2) (w.heap.size + 1) ⟨1, 2, 2, ⟨9, 0, 17⟩, some ⟨w1.heap.size, 0, none⟩, 2, 2, [tx 97, tx 98], 6, ⟨0, 0, 0⟩⟩).heap.size = w1.heap.size) := Lib.hid (by rw [size_setR, size_setT])
    have R5 := Lib.hid (fun (h : RdN w1 (w.heap.size + 1 + 1) (some ⟨w1.heap.size, 0, none⟩) (sv [tx 97, tx 98])) => (((h.set (p := ⟨w.heap.size, 0, none⟩) (by simp; omega) (.int .i32 1)).set (p := ⟨w.heap.size, 1, none⟩) (by simp; omega) (.int .i32 2)).setR (b := w.heap.size + 1) (by omega) ⟨1, 2, 2, ⟨9, 0, 17⟩, some ⟨w1.heap.size, 0, none⟩, 2, 2, [tx 97, tx 98], 6, ⟨0, 0, 0⟩⟩ : RdN (setR (setT w1 w.heap.size 1 2) (w.heap.size + 1) ⟨1, 2, 2, ⟨9, 0, 17⟩, some ⟨w1.heap.size, 0, none⟩, 2, 2, [tx 97, tx 98], 6, ⟨0, 0, 0⟩⟩) _ _ _))
    clear YY TT
    generalize (setR (setT w1 w.heap.size 1 2) (w.heap.size + 1) ⟨1, 2, 2, ⟨9, 0, 17⟩, some ⟨w1.heap.size, 0, none⟩, 2, 2, [tx 97, tx 98], 6, ⟨0, 0, 0⟩⟩) = w5 at *
    obtain ⟨y0, y1, y2, y3, y4, y5, y6, y7, y8, y9, y10, y11, y12⟩ := Y5
    dsimp only at y2 y3 y4 y5 y6 y7 y8 y9 y10 y11 y12
    obtain ⟨t4, t5, t6, t7⟩ := T5
    go_wp2
    refine bodyPost_ret (v := .tuple #[.agg #[.int .i32 1, .int .i32 2], .agg #[.int .i32 1, .int .i32 2, .int .u8 2, .int .i64 9, .int .i32 0, .int .i32 17, .slice (some ⟨w1.heap.size, 0, none⟩) 2 2, .int .i64 6, .int .i64 0, .int .i32 0, .int .i32 0]]) (by simp [results, Try.results36, go_sem, *]) rfl ⟨some ⟨w1.heap.size, 0, none⟩, 2, rfl, ?_, ?_⟩
    · have h := rdn_new w5 [tx 97, tx 98] 9 w.heap.size (by omega); rw [S5.out] at h; exact h
    · have hb := L5.out; have hbs := hb.size; go_grown
  · have h0 : RdN (W0.alloc (.cells #[.string ⟨#[97]⟩, .string ⟨#[98]⟩] 9)) (w.heap.size + 1 + 1) (some ⟨W0.heap.size, 0, none⟩) (sv [tx 97, tx 98]) := rdn_new W0 [tx 97, tx 98] 9 (w.heap.size + 1 + 1) (by omega)
    have hb1 := HB1.out
    have hb2 : Below (W0.alloc (.cells #[.string ⟨#[97]⟩, .string ⟨#[98]⟩] 9)).heap.size (W0.alloc (.cells #[.string ⟨#[97]⟩, .string ⟨#[98]⟩] 9)) w1 := ⟨hb1.os, hb1.tape, hb1.output, hb1.size, hb1.block⟩
    have R1 := Lib.hid (h0.next hb2)
    clear h0 hb1 hb2
    change Exit.then _ _ _ _ (setR (setT w1 w.heap.size 1 2) (w.heap.size + 1) ⟨1, 2, 2, ⟨9, 0, 17⟩, some ⟨W0.heap.size, 0, none⟩, 2, 2, [tx 97, tx 98], 6, ⟨0, 0, 0⟩⟩)
    have Y5 : BxQ (setR (setT w1 w.heap.size 1 2) (w.heap.size + 1) ⟨1, 2, 2, ⟨9, 0, 17⟩, some ⟨W0.heap.size, 0, none⟩, 2, 2, [tx 97, tx 98], 6, ⟨0, 0, 0⟩⟩) (w.heap.size + 1) ⟨1, 2, 2, ⟨9, 0, 17⟩, some ⟨W0.heap.size, 0, none⟩, 2, 2, [tx 97, tx 98], 6, ⟨0, 0, 0⟩⟩ := (YY.setT (by omega) 1 2).setR ⟨1, 2, 2, ⟨9, 0, 17⟩, some ⟨W0.heap.size, 0, none⟩, 2, 2, [tx 97, tx 98], 6, ⟨0, 0, 0⟩⟩
    have T5 : BxT (setR (setT w1 w.heap.size 1 2) (w.heap.size + 1) ⟨1, 2, 2, ⟨9, 0, 17⟩, some ⟨W0.heap.size, 0, none⟩, 2, 2, [tx 97, tx 98], 6, ⟨0, 0, 0⟩⟩) w.heap.size 1 2 := (TT.setT 1 2).setR (by omega) ⟨1, 2, 2, ⟨9, 0, 17⟩, some ⟨W0.heap.size, 0, none⟩, 2, 2, [tx 97, tx 98], 6, ⟨0, 0, 0⟩⟩
    have L5 := Lib.hid (bel_setR (bel_setT K9.out (Nat.le_refl _) 1 2) (b := w.heap.size + 1) (by omega) ⟨1, 2, 2, ⟨9, 0, 17⟩, some ⟨W0.heap.size, 0, none⟩, 2, 2, [tx 97, tx 98], 6, ⟨0, 0, 0⟩⟩)
    have S5 : Hid ((setR (setT w1 w.heap.size 1 2) (w.heap.size + 1) ⟨1, 2, 2, ⟨9, 0, 17⟩, some ⟨W0.heap.size, 0, none⟩, 2, 2, [tx 97, tx 98], 6, ⟨0, 0, 0⟩⟩).heap.size = w1.heap.size) := Lib.hid (by rw [size_setR, size_setT])
    have R5 : Hid (RdN (setR (setT w1 w.heap.size 1 2) (w.heap.size + 1) ⟨1, 2, 2, ⟨9, 0, 17⟩, some ⟨W0.heap.size, 0, none⟩, 2, 2, [tx 97, tx 98], 6, ⟨0, 0, 0⟩⟩) (w.heap.size + 1 + 1) (some ⟨W0.heap.size, 0, none⟩) (sv [tx 97, tx 98])) := Lib.hid ((R1.out.setT (b := w.heap.size) (by omega) 1 2).setR (b := w.heap.size + 1) (by omega) _)
    clear R1
    clear YY TT
    generalize (setR (setT w1 w.heap.size 1 2) (w.heap.size + 1) ⟨1, 2, 2, ⟨9, 0, 17⟩, some ⟨W0.heap.size, 0, none⟩, 2, 2, [tx 97, tx 98], 6, ⟨0, 0, 0⟩⟩) = w5 at *
    obtain ⟨y0, y1, y2, y3, y4, y5, y6, y7, y8, y9, y10, y11, y12⟩ := Y5
    dsimp only at y2 y3 y4 y5 y6 y7 y8 y9 y10 y11 y12
    obtain ⟨t4, t5, t6, t7⟩ := T5
    go_wp2
    refine bodyPost_ret (v := .tuple #[.agg #[.int .i32 1, .int .i32 2], .agg #[.int .i32 1, .int .i32 2, .int .u8 2, .int .i64 9, .int .i32 0, .int .i32 17, .slice (some ⟨W0.heap.size, 0, none⟩) 2 2, .int .i64 6, .int .i64 0, .int .i32 0, .int .i32 0]]) (by simp [results, Try.results36, go_sem, *]) rfl ⟨some ⟨W0.heap.size, 0, none⟩, 2, rfl, ?_, ?_⟩
    · exact R5.out.mono (by omega)
    · have hb := L5.out; have hbs := hb.size; go_grown
end Go.Proofs.Ythigmjcepbgljaa
