/- A case that comes in: cells, intents, and what is asked of them. -/
import Derived.Test.YtgikaglmeeeplaaOrec
import Derived.Test.YtgikaglmeeeplaaIc
namespace Go.Proofs.Ytgikaglmeeeplaa
open Go.RowKit Go.ChangeShapes Go.WideShapes Go.ChangeAt Go.St
set_option linter.unusedVariables false
set_option linter.unusedSimpArgs false
set_option maxRecDepth 100000

theorem fits_str {w : World} {B N d : Nat} {cs : List Value} (ft : fits Try.prog w B N (d + 1) 9 cs) : ∃ s, cs = [.string s] ∧ s.size ≤ N := by
  unfold fits at ft
  rw [Try.underlying9] at ft
  exact ft
theorem fits_bool {w : World} {B N d : Nat} {cs : List Value} (ft : fits Try.prog w B N (d + 1) 4 cs) : ∃ b, cs = [.bool b] := by
  unfold fits at ft
  rw [Try.underlying4] at ft
  exact ft
theorem fits_cel {w : World} {B N d : Nat} {cs : List Value} (ft : fits Try.prog w B N (d + 3) 45 cs) : ∃ c : Cel, cs = c.c ∧ True := by
  unfold fits at ft
  rw [Try.underlying45] at ft
  obtain ⟨hl, hf⟩ := ft
  have hc : Try.prog.cellsOf 45 = 6 := by kernel_rfl
  have k0 : Try.prog.cellsOf 9 = 1 := by kernel_rfl
  have k1 : Try.prog.cellsOf 25 = 3 := by kernel_rfl
  have k2 : Try.prog.cellsOf 4 = 1 := by kernel_rfl
  rw [hc] at hl
  match cs, hl with
  | [c0, c1, c2, c3, c4, c5], _ =>
    have h0 : fits Try.prog w B N (d + 2) 9 (([c0, c1, c2, c3, c4, c5].drop 0).take (Try.prog.cellsOf 9)) := hf 0 _ rfl
    have h1 : fits Try.prog w B N (d + 2) 25 (([c0, c1, c2, c3, c4, c5].drop 1).take (Try.prog.cellsOf 25)) := hf 1 _ rfl
    have h2 : fits Try.prog w B N (d + 2) 9 (([c0, c1, c2, c3, c4, c5].drop 4).take (Try.prog.cellsOf 9)) := hf 2 _ rfl
    have h3 : fits Try.prog w B N (d + 2) 4 (([c0, c1, c2, c3, c4, c5].drop 5).take (Try.prog.cellsOf 4)) := hf 3 _ rfl
    rw [k0] at h0 h2
    rw [k1] at h1
    rw [k2] at h3
    obtain ⟨x, e0, -⟩ := fits_str h0
    obtain ⟨s, e1, -⟩ := fits_stamp h1
    obtain ⟨y, e2, -⟩ := fits_str h2
    obtain ⟨b, e3⟩ := fits_bool h3
    simp at e0 e1 e2 e3
    subst e0 e2 e3
    obtain ⟨rfl, rfl, rfl⟩ := e1
    exact ⟨⟨x, s, y, b⟩, rfl, trivial⟩
theorem fits_itt {w : World} {B N d : Nat} {cs : List Value} (ft : fits Try.prog w B N (d + 3) 29 cs) : ∃ c : Itt, cs = c.c ∧ True := by
  unfold fits at ft
  rw [Try.underlying29] at ft
  obtain ⟨hl, hf⟩ := ft
  have hc : Try.prog.cellsOf 29 = 12 := by kernel_rfl
  have k0 : Try.prog.cellsOf 9 = 1 := by kernel_rfl
  have k1 : Try.prog.cellsOf 25 = 3 := by kernel_rfl
  have k2 : Try.prog.cellsOf 4 = 1 := by kernel_rfl
  have k3 : Try.prog.cellsOf 27 = 2 := by kernel_rfl
  rw [hc] at hl
  match cs, hl with
  | [c0, c1, c2, c3, c4, c5, c6, c7, c8, c9, c10, c11], _ =>
    have h0 : fits Try.prog w B N (d + 2) 9 (([c0, c1, c2, c3, c4, c5, c6, c7, c8, c9, c10, c11].drop 0).take (Try.prog.cellsOf 9)) := hf 0 _ rfl
    have h1 : fits Try.prog w B N (d + 2) 27 (([c0, c1, c2, c3, c4, c5, c6, c7, c8, c9, c10, c11].drop 1).take (Try.prog.cellsOf 27)) := hf 1 _ rfl
    have h2 : fits Try.prog w B N (d + 2) 25 (([c0, c1, c2, c3, c4, c5, c6, c7, c8, c9, c10, c11].drop 3).take (Try.prog.cellsOf 25)) := hf 2 _ rfl
    have h3 : fits Try.prog w B N (d + 2) 9 (([c0, c1, c2, c3, c4, c5, c6, c7, c8, c9, c10, c11].drop 6).take (Try.prog.cellsOf 9)) := hf 3 _ rfl
    have h4 : fits Try.prog w B N (d + 2) 25 (([c0, c1, c2, c3, c4, c5, c6, c7, c8, c9, c10, c11].drop 7).take (Try.prog.cellsOf 25)) := hf 4 _ rfl
    have h5 : fits Try.prog w B N (d + 2) 9 (([c0, c1, c2, c3, c4, c5, c6, c7, c8, c9, c10, c11].drop 10).take (Try.prog.cellsOf 9)) := hf 5 _ rfl
    have h6 : fits Try.prog w B N (d + 2) 4 (([c0, c1, c2, c3, c4, c5, c6, c7, c8, c9, c10, c11].drop 11).take (Try.prog.cellsOf 4)) := hf 6 _ rfl
    rw [k0] at h0 h3 h5
    rw [k1] at h2 h4
    rw [k2] at h6
    rw [k3] at h1
    obtain ⟨x, e0, -⟩ := fits_str h0
    obtain ⟨p, q, e1⟩ := fits_txn h1
    obtain ⟨s, e2, -⟩ := fits_stamp h2
    obtain ⟨y, e3, -⟩ := fits_str h3
    obtain ⟨u, e4, -⟩ := fits_stamp h4
    obtain ⟨z, e5, -⟩ := fits_str h5
    obtain ⟨b, e6⟩ := fits_bool h6
    simp at e0 e1 e2 e3 e4 e5 e6
    subst e0 e3 e5 e6
    obtain ⟨rfl, rfl⟩ := e1
    obtain ⟨rfl, rfl, rfl⟩ := e2
    obtain ⟨rfl, rfl, rfl⟩ := e4
    exact ⟨⟨x, p, q, s, y, u, z, b⟩, rfl, trivial⟩
theorem fits_cels {w : World} {B N d : Nat} {cs : List Value} (ft : fits Try.prog w B N (d + 4) 22 cs) : ∃ A n c, ∃ l : List Cel, cs = [.slice A n c] ∧ l.length = n ∧ n ≤ c ∧ c ≤ N ∧ Rd w B A (cev l) := by
  unfold fits at ft
  rw [Try.underlying22] at ft
  obtain ⟨A, n, c, rfl, hlc, hcN, css, hl, hf, hr⟩ := ft
  obtain ⟨l, hll, -⟩ := lift_list (f := Cel.c) (p := fun _ => True) css (fun c hc => fits_cel (d := d) (hf c hc).2)
  exact ⟨A, n, c, l, rfl, by rw [← hl, hll, List.length_map], hlc, hcN, by rw [hll] at hr; exact hr⟩
theorem fits_itts {w : World} {B N d : Nat} {cs : List Value} (ft : fits Try.prog w B N (d + 4) 23 cs) : ∃ A n c, ∃ l : List Itt, cs = [.slice A n c] ∧ l.length = n ∧ n ≤ c ∧ c ≤ N ∧ Rd w B A (itv l) := by
  unfold fits at ft
  rw [Try.underlying23] at ft
  obtain ⟨A, n, c, rfl, hlc, hcN, css, hl, hf, hr⟩ := ft
  obtain ⟨l, hll, -⟩ := lift_list (f := Itt.c) (p := fun _ => True) css (fun c hc => fits_itt (d := d) (hf c hc).2)
  exact ⟨A, n, c, l, rfl, by rw [← hl, hll, List.length_map], hlc, hcN, by rw [hll] at hr; exact hr⟩
theorem fits_txns {w : World} {B N d : Nat} {cs : List Value} (ft : fits Try.prog w B N (d + 3) 34 cs) : ∃ A n c, ∃ l : List (Int × Int), cs = [.slice A n c] ∧ l.length = n ∧ n ≤ c ∧ c ≤ N ∧ Rd w B A (txv l) := by
  unfold fits at ft
  rw [Try.underlying34] at ft
  obtain ⟨A, n, c, rfl, hlc, hcN, css, hl, hf, hr⟩ := ft
  obtain ⟨l, hll, -⟩ := lift_list (f := fun p : Int × Int => [Value.int .i32 p.1, .int .i32 p.2]) (p := fun _ => True) css (fun c hc => by
    obtain ⟨x, y, e⟩ := fits_txn (d := d) (hf c hc).2
    exact ⟨(x, y), e, trivial⟩)
  exact ⟨A, n, c, l, rfl, by rw [← hl, hll, List.length_map], hlc, hcN, by rw [hll] at hr; exact hr⟩

/-- A case: what it holds, and where its lists lie. -/
structure Cas where
  A : Option Addr
  n : Nat
  c : Nat
  cs : List Cel
  A2 : Option Addr
  m : Nat
  c2 : Nat
  is : List Itt
  at_ : Stp
  to_ : Stp
  by_ : Int × Int
  x : Itt
  r : Rec
  A3 : Option Addr
  q : Nat
  c3 : Nat
  kn : List (Int × Int)
def Cas.cells (k : Cas) : List Value := [.slice k.A k.n k.c, .slice k.A2 k.m k.c2, .int .i64 k.at_.wall, .int .i32 k.at_.logic, .int .i32 k.at_.tag, .int .i64 k.to_.wall, .int .i32 k.to_.logic, .int .i32 k.to_.tag, .int .i32 k.by_.1, .int .i32 k.by_.2,
  .string k.x.key, .int .i32 k.x.nd, .int .i32 k.x.nu, .int .i64 k.x.bg.wall, .int .i32 k.x.bg.logic, .int .i32 k.x.bg.tag, .string k.x.anc, .int .i64 k.x.at_.wall, .int .i32 k.x.at_.logic, .int .i32 k.x.at_.tag, .string k.x.val, .bool k.x.del,
  .int .i32 k.r.nd, .int .i32 k.r.nu, .int .u8 k.r.st, .int .i64 k.r.at_.wall, .int .i32 k.r.at_.logic, .int .i32 k.r.at_.tag, .slice k.r.A k.r.n k.r.c, .int .i64 k.r.beat, .int .i64 k.r.pu.wall, .int .i32 k.r.pu.logic, .int .i32 k.r.pu.tag, .slice k.A3 k.q k.c3]
def Cas.v (k : Cas) : Value := .agg #[.slice k.A k.n k.c, .slice k.A2 k.m k.c2, .int .i64 k.at_.wall, .int .i32 k.at_.logic, .int .i32 k.at_.tag, .int .i64 k.to_.wall, .int .i32 k.to_.logic, .int .i32 k.to_.tag, .int .i32 k.by_.1, .int .i32 k.by_.2,
  .string k.x.key, .int .i32 k.x.nd, .int .i32 k.x.nu, .int .i64 k.x.bg.wall, .int .i32 k.x.bg.logic, .int .i32 k.x.bg.tag, .string k.x.anc, .int .i64 k.x.at_.wall, .int .i32 k.x.at_.logic, .int .i32 k.x.at_.tag, .string k.x.val, .bool k.x.del,
  .int .i32 k.r.nd, .int .i32 k.r.nu, .int .u8 k.r.st, .int .i64 k.r.at_.wall, .int .i32 k.r.at_.logic, .int .i32 k.r.at_.tag, .slice k.r.A k.r.n k.r.c, .int .i64 k.r.beat, .int .i64 k.r.pu.wall, .int .i32 k.r.pu.logic, .int .i32 k.r.pu.tag, .slice k.A3 k.q k.c3]
structure InCas (w : World) (k : Cas) : Prop where
  hl : k.cs.length = k.n
  hc : k.n ≤ k.c
  hn : k.c ≤ 140737488351232
  hr : Rd w w.heap.size k.A (cev k.cs)
  hl2 : k.is.length = k.m
  hc2 : k.m ≤ k.c2
  hn2 : k.c2 ≤ 140737488351232
  hr2 : Rd w w.heap.size k.A2 (itv k.is)
  hl3 : k.kn.length = k.q
  hc3 : k.q ≤ k.c3
  hn3 : k.c3 ≤ 140737488351232
  hr3 : Rd w w.heap.size k.A3 (txv k.kn)
  rec_ : InR w k.r
  xat : InS k.at_
  xto : InS k.to_

theorem fits_case {w : World} {d : Nat} {cs : List Value} (ft : fits Try.prog w w.heap.size 140737488351232 (d + 5) 36 cs) : ∃ k : Cas, cs = k.cells ∧ InCas w k := by
  unfold fits at ft
  rw [Try.underlying36] at ft
  obtain ⟨hl, hf⟩ := ft
  have hc : Try.prog.cellsOf 36 = 34 := by kernel_rfl
  have k0 : Try.prog.cellsOf 22 = 1 := by kernel_rfl
  have k1 : Try.prog.cellsOf 23 = 1 := by kernel_rfl
  have k2 : Try.prog.cellsOf 25 = 3 := by kernel_rfl
  have k3 : Try.prog.cellsOf 27 = 2 := by kernel_rfl
  have k4 : Try.prog.cellsOf 29 = 12 := by kernel_rfl
  have k5 : Try.prog.cellsOf 33 = 11 := by kernel_rfl
  have k6 : Try.prog.cellsOf 34 = 1 := by kernel_rfl
  rw [hc] at hl
  match cs, hl with
  | c0 :: c1 :: c2 :: c3 :: c4 :: c5 :: c6 :: c7 :: c8 :: c9 :: c10 :: c11 :: c12 :: c13 :: c14 :: c15 :: c16 :: c17 :: c18 :: c19 :: c20 :: c21 :: c22 :: c23 :: c24 :: c25 :: c26 :: c27 :: c28 :: c29 :: c30 :: c31 :: c32 :: c33 :: [], _ =>
    have h0 : fits Try.prog w w.heap.size 140737488351232 (d + 4) 22 (([c0, c1, c2, c3, c4, c5, c6, c7, c8, c9, c10, c11, c12, c13, c14, c15, c16, c17, c18, c19, c20, c21, c22, c23, c24, c25, c26, c27, c28, c29, c30, c31, c32, c33].drop 0).take (Try.prog.cellsOf 22)) := hf 0 _ rfl
    have h1 : fits Try.prog w w.heap.size 140737488351232 (d + 4) 23 (([c0, c1, c2, c3, c4, c5, c6, c7, c8, c9, c10, c11, c12, c13, c14, c15, c16, c17, c18, c19, c20, c21, c22, c23, c24, c25, c26, c27, c28, c29, c30, c31, c32, c33].drop 1).take (Try.prog.cellsOf 23)) := hf 1 _ rfl
    have h2 : fits Try.prog w w.heap.size 140737488351232 (d + 4) 25 (([c0, c1, c2, c3, c4, c5, c6, c7, c8, c9, c10, c11, c12, c13, c14, c15, c16, c17, c18, c19, c20, c21, c22, c23, c24, c25, c26, c27, c28, c29, c30, c31, c32, c33].drop 2).take (Try.prog.cellsOf 25)) := hf 2 _ rfl
    have h3 : fits Try.prog w w.heap.size 140737488351232 (d + 4) 25 (([c0, c1, c2, c3, c4, c5, c6, c7, c8, c9, c10, c11, c12, c13, c14, c15, c16, c17, c18, c19, c20, c21, c22, c23, c24, c25, c26, c27, c28, c29, c30, c31, c32, c33].drop 5).take (Try.prog.cellsOf 25)) := hf 3 _ rfl
    have h4 : fits Try.prog w w.heap.size 140737488351232 (d + 4) 27 (([c0, c1, c2, c3, c4, c5, c6, c7, c8, c9, c10, c11, c12, c13, c14, c15, c16, c17, c18, c19, c20, c21, c22, c23, c24, c25, c26, c27, c28, c29, c30, c31, c32, c33].drop 8).take (Try.prog.cellsOf 27)) := hf 4 _ rfl
    have h5 : fits Try.prog w w.heap.size 140737488351232 (d + 4) 29 (([c0, c1, c2, c3, c4, c5, c6, c7, c8, c9, c10, c11, c12, c13, c14, c15, c16, c17, c18, c19, c20, c21, c22, c23, c24, c25, c26, c27, c28, c29, c30, c31, c32, c33].drop 10).take (Try.prog.cellsOf 29)) := hf 5 _ rfl
    have h6 : fits Try.prog w w.heap.size 140737488351232 (d + 4) 33 (([c0, c1, c2, c3, c4, c5, c6, c7, c8, c9, c10, c11, c12, c13, c14, c15, c16, c17, c18, c19, c20, c21, c22, c23, c24, c25, c26, c27, c28, c29, c30, c31, c32, c33].drop 22).take (Try.prog.cellsOf 33)) := hf 6 _ rfl
    have h7 : fits Try.prog w w.heap.size 140737488351232 (d + 4) 34 (([c0, c1, c2, c3, c4, c5, c6, c7, c8, c9, c10, c11, c12, c13, c14, c15, c16, c17, c18, c19, c20, c21, c22, c23, c24, c25, c26, c27, c28, c29, c30, c31, c32, c33].drop 33).take (Try.prog.cellsOf 34)) := hf 7 _ rfl
    rw [k0] at h0
    rw [k1] at h1
    rw [k2] at h2 h3
    rw [k3] at h4
    rw [k4] at h5
    rw [k5] at h6
    rw [k6] at h7
    obtain ⟨A, n, c, l, e0, hl0, hc0, hn0, hr0⟩ := fits_cels (d := d) h0
    obtain ⟨A2, m, cc2, l2, e1, hl1, hc1, hn1, hr1⟩ := fits_itts (d := d) h1
    obtain ⟨s, e2, i2⟩ := fits_stamp h2
    obtain ⟨t, e3, i3⟩ := fits_stamp h3
    obtain ⟨p, q, e4⟩ := fits_txn h4
    obtain ⟨x, e5, -⟩ := fits_itt (d := d + 1) h5
    obtain ⟨r, e6, i6⟩ := fits_rec (d := d + 1) h6
    obtain ⟨A3, z, cc3, l3, e7, hl7, hc7, hn7, hr7⟩ := fits_txns (d := d + 1) h7
    simp [Itt.c, Rec.cells] at e0 e1 e2 e3 e4 e5 e6 e7
    subst e0 e1 e7
    obtain ⟨rfl, rfl, rfl⟩ := e2
    obtain ⟨rfl, rfl, rfl⟩ := e3
    obtain ⟨rfl, rfl⟩ := e4
    obtain ⟨rfl, rfl, rfl, rfl, rfl, rfl, rfl, rfl, rfl, rfl, rfl, rfl⟩ := e5
    obtain ⟨rfl, rfl, rfl, rfl, rfl, rfl, rfl, rfl, rfl, rfl, rfl⟩ := e6
    exact ⟨⟨A, n, c, l, A2, m, cc2, l2, s, t, (p, q), x, r, A3, z, cc3, l3⟩, rfl, hl0, hc0, hn0, hr0, hl1, hc1, hn1, hr1, hl7, hc7, hn7, hr7, i6, i2, i3⟩

theorem open_case {w : World} {b0 : Nat} {r : Reach} {v : Value} (hv : Value.okWide Try.prog w r b0 36 v) (ft : fits Try.prog w w.heap.size 140737488351232 8 36 v.cells.toList) :
    ∃ k : Cas, v = k.v ∧ InCas w k := by
  obtain ⟨cs, rfl, hsz⟩ := okWide_struct Try.underlying36 hv
  obtain ⟨s, e, h⟩ := fits_case (d := 3) ft
  refine ⟨s, ?_, h⟩
  obtain ⟨l⟩ := cs
  simp only [Value.cells] at e
  rw [e]; rfl
end Go.Proofs.Ytgikaglmeeeplaa
