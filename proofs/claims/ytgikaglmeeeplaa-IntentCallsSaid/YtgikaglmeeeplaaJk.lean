/- Walk: the calls answer as the document's. -/
import Derived.Test.YtgikaglmeeeplaaIv
import Derived.Test.YtgikaglmeeeplaaJp
import Derived.Test.YtgikaglmeeeplaaJi
import Derived.Test.YtgikaglmeeeplaaJ0
import Derived.Test.YtgikaglmeeeplaaCut
import Derived.Deep.Cut
namespace Go.Proofs.Ytgikaglmeeeplaa
open Go.RowKit Go.St
set_option linter.unusedVariables false
set_option linter.unusedSimpArgs false
set_option maxRecDepth 100000

theorem stl_len (cs : List Cel) (x : Itt) (r : Rec) : (stlT cs x r).1.length ≤ 1 := by
  unfold stlT
  split
  · split
    · split
      · split
        · split
          · simp
          · split
            · split
              · split <;> simp
              · simp
            · simp
        · simp
      · simp
    · simp
  · simp
theorem rdF {W : World} {B : Nat} {A : Option Addr} {xs ys : List Value} (h : Rd W B A (xs ++ ys)) : Rd W B A xs := by
  have := h.take xs.length
  rwa [List.take_left' rfl] at this
def SnQ (M : Sn) (E : Int) (W : World) (e : Ending) (w' : World) : Prop := ∃ A c I d, e = .returned (.tuple #[.agg #[.int .i64 M.kind, .slice A M.rows.length c, .slice I M.its.length d, .int .i64 M.at_.wall, .int .i32 M.at_.logic, .int .i32 M.at_.tag], .int .i64 E]) ∧ Rd w' w'.heap.size A (kvv M.rows) ∧ Rd w' w'.heap.size I (itv M.its) ∧ Below W.heap.size W w'
theorem scanQ {w : World} {k : Cas} (hI : InCas w k) (hn : k.n ≤ 60) (hm : k.m ≤ 60) (A A2 : Option Addr) (c c2 : Nat) (W : World) (hb : Below w.heap.size w W) (r1 : Rd W W.heap.size A (cev k.cs)) (r2 : Rd W W.heap.size A2 (itv k.is)) :
    Calls Try.prog 16 #[.slice A k.n c, .slice A2 k.m c2, .agg #[.int .i64 k.at_.wall, .int .i32 k.at_.logic, .int .i32 k.at_.tag], .agg #[.int .i64 k.to_.wall, .int .i32 k.to_.logic, .int .i32 k.to_.tag], .agg #[.int .i32 k.by_.1, .int .i32 k.by_.2], .slice k.A3 k.q k.c3] W (SnQ (scanM k.cs k.is k.at_ k.to_ k.by_ k.kn) (scanE k.cs k.is k.at_ k.to_) W) := by
  have h1 := scan24_any A k.n c k.cs hI.hl (by omega) A2 k.m c2 k.is hI.hl2 (by omega) k.at_ k.to_ k.by_ k.A3 k.q k.c3 k.kn hI.hl3 (by have := hI.hc3; have := hI.hn3; omega) W.heap.size W r1 r2 ((hI.hr3.below hb).more hb.size) (Nat.le_refl _)
  refine h1.mono ?_
  rintro e w' ⟨⟨vr, vi, rfl, o1, o2⟩, h2⟩
  obtain ⟨A, c, rfl, -, -⟩ := own_sl o1
  obtain ⟨I, d, rfl, -, -⟩ := own_sl o2
  exact ⟨A, c, I, d, rfl, own_rdX o1, own_rdX o2, h2⟩
theorem rscanQ {w : World} {k : Cas} (hI : InCas w k) (hn : k.n ≤ 60) (hm : k.m ≤ 60) (A A2 : Option Addr) (c c2 : Nat) (W : World) (hb : Below w.heap.size w W) (r1 : Rd W W.heap.size A (cev k.cs)) (r2 : Rd W W.heap.size A2 (itv k.is)) :
    Calls Try.prog 24 #[.slice A k.n c, .slice A2 k.m c2, .agg #[.int .i64 k.at_.wall, .int .i32 k.at_.logic, .int .i32 k.at_.tag], .agg #[.int .i64 k.to_.wall, .int .i32 k.to_.logic, .int .i32 k.to_.tag], .agg #[.int .i32 k.by_.1, .int .i32 k.by_.2], .slice k.A3 k.q k.c3] W (SnQ (scanM k.cs k.is k.at_ k.to_ k.by_ k.kn) (scanE k.cs k.is k.at_ k.to_) W) := by
  have h1 := rscan24_any A k.n c k.cs hI.hl (by omega) A2 k.m c2 k.is hI.hl2 (by omega) k.at_ k.to_ k.by_ k.A3 k.q k.c3 k.kn hI.hl3 (by have := hI.hc3; have := hI.hn3; omega) W.heap.size W r1 r2 ((hI.hr3.below hb).more hb.size) (Nat.le_refl _)
  refine h1.mono ?_
  rintro e w' ⟨⟨vr, vi, rfl, o1, o2⟩, h2⟩
  obtain ⟨A, c, rfl, -, -⟩ := own_sl o1
  obtain ⟨I, d, rfl, -, -⟩ := own_sl o2
  exact ⟨A, c, I, d, rfl, own_rdX o1, own_rdX o2, h2⟩

theorem rd_at0 {w : World} {B g : Nat} {xs : List Value} (h : Rd w B (some ⟨g, 0, none⟩) xs) {i : Nat} {v : Value} (hv : xs[i]? = some v) : w.cell? ⟨g, i, none⟩ = some v ∧ g < w.heap.size ∧ True := by
  obtain ⟨b, off, e, hb, hc⟩ := h.heap.at_ hv
  injection e with e
  injection e with e1 e2 _
  subst e1 e2
  rw [Nat.zero_add] at hc
  exact ⟨hc, hb, trivial⟩
theorem goneA_lenX (t : Stp) : ∀ (k : ByteArray) (l : List Cel), (goneA t k l).length ≤ l.length
  | _, [] => Nat.le_refl _
  | k, c :: r => by
    rw [goneA]
    have h1 := goneA_lenX t c.key r
    have h2 := goneA_lenX t k r
    split
    · split <;> simp only [List.length_append, List.length_cons, List.length_nil] <;> omega
    · simp only [List.length_cons]; omega
theorem goneG_len (cs : List Cel) (t : Stp) : (goneG cs t).length ≤ cs.length := by
  unfold goneG
  split
  · exact goneA_lenX t zE cs
  · simp
def GnQ (L : List Cel) (E : Int) (W : World) (e : Ending) (w' : World) : Prop := ∃ A c, e = .returned (.tuple #[.slice A L.length c, .int .i64 E]) ∧ Rd w' w'.heap.size A (cev L) ∧ Below W.heap.size W w'
theorem goneQ (A : Option Addr) (n c : Nat) (cs : List Cel) (hl : cs.length = n) (hn : n ≤ 1000000) (t : Stp) (W : World) (hr : Rd W W.heap.size A (cev cs)) :
    Calls Try.prog 18 #[.slice A n c, .agg #[.int .i64 t.wall, .int .i32 t.logic, .int .i32 t.tag]] W (GnQ (goneG cs t) (chkdE cs [] [t]) W) := by
  refine (gone24_any A n c cs hl hn t W.heap.size W hr (Nat.le_refl _)).mono ?_
  rintro e w' ⟨v, rfl, o1, h2⟩
  obtain ⟨A, c, rfl, -, -⟩ := own_sl o1
  exact ⟨A, c, rfl, own_rdX o1, h2⟩
theorem rgoneQ (A : Option Addr) (n c : Nat) (cs : List Cel) (hl : cs.length = n) (hn : n ≤ 1000000) (t : Stp) (W : World) (hr : Rd W W.heap.size A (cev cs)) :
    Calls Try.prog 31 #[.slice A n c, .agg #[.int .i64 t.wall, .int .i32 t.logic, .int .i32 t.tag]] W (GnQ (goneG cs t) (chkdE cs [] [t]) W) := by
  refine (rgone24_any A n c cs hl hn t W.heap.size W hr (Nat.le_refl _)).mono ?_
  rintro e w' ⟨v, rfl, o1, h2⟩
  obtain ⟨A, c, rfl, -, -⟩ := own_sl o1
  exact ⟨A, c, rfl, own_rdX o1, h2⟩

set_option maxHeartbeats 12800000 in
theorem intentCalls_walk (w : World) (k : Cas) (h : InCas w k) :
    Calls Try.prog 6 #[.agg k.cells.toArray] w fun e w' => e = .returned (.bool true) ∧ Below w.heap.size w w' := by
  have HI := Lib.hid h
  clear h
  have HSM := Lib.hid (small24_any k)
  have hsz : k.cells.length = 34 := rfl
  go_enter Try.func6, Try.ntmps6
  go_wp2_with fail
  refine (lives24_any _).mono ?_
  rintro e w1 ⟨rfl, hb1⟩
  have X1 := Lib.hid ((BxV.new w k.cells.toArray 36).next hb1)
  have B1 : Hid (Below w.heap.size w w1) := Lib.hid (((Below.refl _ _).alloc (Nat.le_refl _) _).trans (hb1.mono (by simp)))
  clear hb1
  have hrg : w1.rangeAt w.heap.size 0 k.cells := fun j v hv => by rw [Nat.zero_add]; exact X1.out.c j v (by simpa using hv)
  go_wp2_with (refine wpList_load_mid rfl 36 _ rfl w.heap.size 0 rfl k.cells _ hrg Try.underlying36 rfl (by kernel_rfl) ?_)
  refine (HSM.out _).mono ?_
  rintro e w2 ⟨rfl, hb⟩
  have X2 := Lib.hid (X1.out.next hb)
  have B2 := Lib.hid (B1.out.trans (hb.mono B1.out.size))
  clear hrg hsz X1 B1 hb HSM
  by_cases hn : k.n ≤ 60
  case neg =>
    rw [decide_eq_false hn]
    go_wp2_with fail
    go_ret
    exact ⟨rfl, B2.out⟩
  by_cases hm : k.m ≤ 60
  case neg =>
    rw [decide_eq_true hn, decide_eq_false hm]
    go_wp2_with fail
    go_ret
    exact ⟨rfl, B2.out⟩
  rw [decide_eq_true hn, decide_eq_true hm]
  have x0 := X2.out.c 0 _ rfl
  have xl := X2.out.lt
  go_upto_region 5 with (fail)
  refine copy5_any w2 w.heap.size k.A k.n k.c k.cs HI.out.hl hn ((HI.out.hr.below B2.out).more B2.out.size) xl x0 _ _ _ _ _ _ _ _ _ _ _ _ _ _ _ _ _ _ _ _ _ _ _ _ _ _ _ _ _ _ _ _ _ _ _ _ _ _ _ _ _ _ _ _ _ _ _ _ _ _ _ _ _ _ _ _ _ _ _ _ _ _ _ _ _ _ _ _ _ _ _ _ _ _ _ _ _ _ _ _ _ _ _ _ _ _ _ _ _ _ _ _ _ _ _ _ _ _ _ _ _ _ _ _ _ _ _ _ _ _ _ _ _ _ _ _ _ _ _ _ _ _ _ _ _ _ _ _ _ _ _ _ _ _ _ _ _ _ _ _ _ _ _ _ _ _ _ _ _ _ _ _ _ _ _ _ _ _ _ _ _ _ _ _ _ _ _ _ _ _ _ _ _ _ _ _ _ _ _ _ _ _ _ _ _ _ _ _ _ _ _ _ _ _ _ _ _ _ _ _ _ _ _ _ _ _ _ _ _ _ _ _ _ _ _ _ _ _ _ _ _ _ _ _ _ _ _ _ _ _ _ _ _ _ _ _ _ _ _ _ _ _ _ _ _ _ _ _ _ _ _ _ _ _ _ _ _ _ _ _ _ _ _ _ _ _ _ _ _ _ _ _ _ _ _ _ _ _ _ _ _ _ (fun _ _ _ _ _ h => h) ?_
  intro g5 c5 u26 u27 u28 u29 u30 u31 u32 u33 u34 u35 u36 w3 hc5 hrd hb
  clear x0 xl
  have X3 := Lib.hid (X2.out.next hb)
  have B3 := Lib.hid (B2.out.trans (hb.mono B2.out.size))
  have R5_3 := Lib.hid hrd
  clear hrd hb X2 B2 
  have x1 := X3.out.c 1 _ rfl
  have xl := X3.out.lt
  go_upto_region 6 with (fail)
  refine copy6_any w3 w.heap.size k.A2 k.m k.c2 k.is HI.out.hl2 hm ((HI.out.hr2.below B3.out).more B3.out.size) xl x1 _ _ _ _ _ _ _ _ _ _ _ _ _ _ _ _ _ _ _ _ _ _ _ _ _ _ _ _ _ _ _ _ _ _ _ _ _ _ _ _ _ _ _ _ _ _ _ _ _ _ _ _ _ _ _ _ _ _ _ _ _ _ _ _ _ _ _ _ _ _ _ _ _ _ _ _ _ _ _ _ _ _ _ _ _ _ _ _ _ _ _ _ _ _ _ _ _ _ _ _ _ _ _ _ _ _ _ _ _ _ _ _ _ _ _ _ _ _ _ _ _ _ _ _ _ _ _ _ _ _ _ _ _ _ _ _ _ _ _ _ _ _ _ _ _ _ _ _ _ _ _ _ _ _ _ _ _ _ _ _ _ _ _ _ _ _ _ _ _ _ _ _ _ _ _ _ _ _ _ _ _ _ _ _ _ _ _ _ _ _ _ _ _ _ _ _ _ _ _ _ _ _ _ _ _ _ _ _ _ _ _ _ _ _ _ _ _ _ _ _ _ _ _ _ _ _ _ _ _ _ _ _ _ _ _ _ _ _ _ _ _ _ _ _ _ _ _ _ _ _ _ _ _ _ _ _ _ _ _ _ _ _ _ _ _ _ _ _ _ _ _ _ _ _ _ _ _ _ _ _ _ _ (fun _ _ _ _ _ h => h) ?_
  intro g6 c6 u37 u38 u39 u40 u41 u42 u43 u44 u45 u46 u47 w4 hc6 hrd hb
  clear x1 xl
  have X4 := Lib.hid (X3.out.next hb)
  have B4 := Lib.hid (B3.out.trans (hb.mono B3.out.size))
  have R5_4 := Lib.hid ((R5_3.out.below hb).more hb.size)
  have R6_4 := Lib.hid hrd
  clear hrd hb X3 B3 R5_3
  have ML : Hid ((scanM k.cs k.is k.at_ k.to_ k.by_ k.kn).rows.length ≤ 1000000 ∧ (scanM k.cs k.is k.at_ k.to_ k.by_ k.kn).its.length ≤ 1000000) := Lib.hid (by
    have h1 := scanM_len k.cs k.is k.at_ k.to_ k.by_ k.kn
    rw [HI.out.hl, HI.out.hl2] at h1
    omega)
  have S1 := Lib.hid (scanQ HI.out hn hm)
  have S2 := Lib.hid (rscanQ HI.out hn hm)
  have W1 := Lib.hid (fun A A2 c c2 W hr hr2 => write24_any A k.n c k.cs HI.out.hl (by omega) A2 k.m c2 k.is HI.out.hl2 (by omega) k.x k.at_ W.heap.size W hr hr2 (Nat.le_refl _))
  have W2 := Lib.hid (fun A A2 c c2 W hr hr2 => rwrite24_any A k.n c k.cs HI.out.hl (by omega) A2 k.m c2 k.is HI.out.hl2 (by omega) k.x k.at_ W.heap.size W hr hr2 (Nat.le_refl _))
  have F1 := Lib.hid (fun A A2 c c2 W hr hr2 => refresh24_any A k.n c k.cs HI.out.hl (by omega) A2 k.m c2 k.is HI.out.hl2 (by omega) k.at_ k.to_ k.by_ W.heap.size W hr hr2 (Nat.le_refl _))
  have F2 := Lib.hid (fun A A2 c c2 W hr hr2 => rrefresh24_any A k.n c k.cs HI.out.hl (by omega) A2 k.m c2 k.is HI.out.hl2 (by omega) k.at_ k.to_ k.by_ W.heap.size W hr hr2 (Nat.le_refl _))
  have G1 := Lib.hid (fun A c W (hb : Below w.heap.size w W) hr => settled_any A k.n c k.cs HI.out.hl (by omega) k.x k.r HI.out.rec_.1 W.heap.size W hr ((HI.out.rec_.2.1.below hb).more hb.size) (Nat.le_refl _))
  have G2 := Lib.hid (fun A c W (hb : Below w.heap.size w W) hr => rsettled_any A k.n c k.cs HI.out.hl (by omega) k.x k.r HI.out.rec_.1 W.heap.size W hr ((HI.out.rec_.2.1.below hb).more hb.size) (Nat.le_refl _))
  have D1 := Lib.hid (fun W => moved_any k.x k.to_ W)
  have D2 := Lib.hid (fun W => rmoved_any k.x k.to_ W)
  have N1 := Lib.hid (fun A c W hr => goneQ A k.n c k.cs HI.out.hl (by omega) k.at_ W hr)
  have N2 := Lib.hid (fun A c W hr => rgoneQ A k.n c k.cs HI.out.hl (by omega) k.at_ W hr)
  have GLL : Hid ((goneG k.cs k.at_).length ≤ 1000000) := Lib.hid (Nat.le_trans (goneG_len k.cs k.at_) (by rw [HI.out.hl]; omega))
  have SL : Hid ((stlT k.cs k.x k.r).1.length ≤ 1000000) := Lib.hid (Nat.le_trans (stl_len k.cs k.x k.r) (by decide))
  unfold wrV Itt.v at W1 W2
  unfold Itt.v Rec.v at G1 G2
  unfold Itt.v at D1 D2
  generalize scanM k.cs k.is k.at_ k.to_ k.by_ k.kn = M at *
  generalize scanE k.cs k.is k.at_ k.to_ = E at *
  generalize wrT k.cs k.is k.x k.at_ = T at *
  generalize refM k.cs k.is k.at_ k.to_ k.by_ = RF at *
  generalize stlT k.cs k.x k.r = S at *
  generalize movM k.x k.to_ = MV at *
  generalize movE k.x k.to_ = ME at *
  generalize goneG k.cs k.at_ = GL at *
  generalize chkdE k.cs [] [k.at_] = GE at *
  have x2 := X4.out.c 2 _ rfl
  have x3 := X4.out.c 3 _ rfl
  have x4 := X4.out.c 4 _ rfl
  have x5 := X4.out.c 5 _ rfl
  have x6 := X4.out.c 6 _ rfl
  have x7 := X4.out.c 7 _ rfl
  have x8 := X4.out.c 8 _ rfl
  have x9 := X4.out.c 9 _ rfl
  have x33 := X4.out.c 33 _ rfl
  go_wp2_with fail
  refine (S1.out (some ⟨g5, 0, none⟩) (some ⟨g6, 0, none⟩) c5 c6 _ B4.out (rdF R5_4.out) (rdF R6_4.out)).mono ?_
  rintro e w5 ⟨A1, c1, I1, d1, rfl, r1, r2, hb⟩
  have X5 := Lib.hid (X4.out.next hb)
  have B5 := Lib.hid (B4.out.trans (hb.mono B4.out.size))
  have R5_5 := Lib.hid ((R5_4.out.below hb).more hb.size)
  have R6_5 := Lib.hid ((R6_4.out.below hb).more hb.size)
  clear hb X4 B4 R5_4 R6_4 x2 x3 x4 x5 x6 x7 x8 x9 x33
  have RA_5 := Lib.hid r1
  clear r1
  have RI_5 := Lib.hid r2
  clear r2
  go_upto_region 8 with (fail)
  have hb : Below w5.heap.size w5 (w5.alloc (.cells #[.int .i64 M.kind, .slice A1 M.rows.length c1, .slice I1 M.its.length d1, .int .i64 M.at_.wall, .int .i32 M.at_.logic, .int .i32 M.at_.tag] 53)) := (Below.refl _ _).alloc (Nat.le_refl _) _
  have SA_6 : Hid (BxV (w5.alloc (.cells #[.int .i64 M.kind, .slice A1 M.rows.length c1, .slice I1 M.its.length d1, .int .i64 M.at_.wall, .int .i32 M.at_.logic, .int .i32 M.at_.tag] 53)) w5.heap.size [.int .i64 M.kind, .slice A1 M.rows.length c1, .slice I1 M.its.length d1, .int .i64 M.at_.wall, .int .i32 M.at_.logic, .int .i32 M.at_.tag]) := Lib.hid (BxV.new _ _ _)
  generalize hw : w5.alloc (.cells #[.int .i64 M.kind, .slice A1 M.rows.length c1, .slice I1 M.its.length d1, .int .i64 M.at_.wall, .int .i32 M.at_.logic, .int .i32 M.at_.tag] 53) = w6 at *
  have hpw : w5.heap.size < w6.heap.size := SA_6.out.lt
  have X6 := Lib.hid (X5.out.next hb)
  have B6 := Lib.hid (B5.out.trans (hb.mono B5.out.size))
  have R5_6 := Lib.hid ((R5_5.out.below hb).more hb.size)
  have R6_6 := Lib.hid ((R6_5.out.below hb).more hb.size)
  have RA_6 := Lib.hid ((RA_5.out.below hb).more hb.size)
  have RI_6 := Lib.hid ((RI_5.out.below hb).more hb.size)
  clear hb X5 B5 R5_5 R6_5 RA_5 RI_5
  generalize w5.heap.size = p5 at *
  clear hw hpw
  have x0 := X6.out.c 0 _ rfl
  have x1 := X6.out.c 1 _ rfl
  have x2 := X6.out.c 2 _ rfl
  have x3 := X6.out.c 3 _ rfl
  have x4 := X6.out.c 4 _ rfl
  have x5 := X6.out.c 5 _ rfl
  have x6 := X6.out.c 6 _ rfl
  have x7 := X6.out.c 7 _ rfl
  have x8 := X6.out.c 8 _ rfl
  have x9 := X6.out.c 9 _ rfl
  have x33 := X6.out.c 33 _ rfl
  go_wp2_with fail
  refine (S2.out k.A k.A2 k.c k.c2 _ B6.out ((HI.out.hr.below B6.out).more B6.out.size) ((HI.out.hr2.below B6.out).more B6.out.size)).mono ?_
  rintro e w7 ⟨A2, c2, I2, d2, rfl, r1, r2, hb⟩
  have X7 := Lib.hid (X6.out.next hb)
  have B7 := Lib.hid (B6.out.trans (hb.mono B6.out.size))
  have R5_7 := Lib.hid ((R5_6.out.below hb).more hb.size)
  have R6_7 := Lib.hid ((R6_6.out.below hb).more hb.size)
  have RA_7 := Lib.hid ((RA_6.out.below hb).more hb.size)
  have RI_7 := Lib.hid ((RI_6.out.below hb).more hb.size)
  have SA_7 := Lib.hid (SA_6.out.next hb)
  clear hb X6 B6 R5_6 R6_6 RA_6 RI_6 SA_6 x0 x1 x2 x3 x4 x5 x6 x7 x8 x9 x33
  have RB_7 := Lib.hid r1
  clear r1
  have RJ_7 := Lib.hid r2
  clear r2
  go_upto_region 9 with (fail)
  have hb : Below w7.heap.size w7 (w7.alloc (.cells #[.int .i64 M.kind, .slice A2 M.rows.length c2, .slice I2 M.its.length d2, .int .i64 M.at_.wall, .int .i32 M.at_.logic, .int .i32 M.at_.tag] 53)) := (Below.refl _ _).alloc (Nat.le_refl _) _
  have SB_8 : Hid (BxV (w7.alloc (.cells #[.int .i64 M.kind, .slice A2 M.rows.length c2, .slice I2 M.its.length d2, .int .i64 M.at_.wall, .int .i32 M.at_.logic, .int .i32 M.at_.tag] 53)) w7.heap.size [.int .i64 M.kind, .slice A2 M.rows.length c2, .slice I2 M.its.length d2, .int .i64 M.at_.wall, .int .i32 M.at_.logic, .int .i32 M.at_.tag]) := Lib.hid (BxV.new _ _ _)
  generalize hw : w7.alloc (.cells #[.int .i64 M.kind, .slice A2 M.rows.length c2, .slice I2 M.its.length d2, .int .i64 M.at_.wall, .int .i32 M.at_.logic, .int .i32 M.at_.tag] 53) = w8 at *
  have hpw : w7.heap.size < w8.heap.size := SB_8.out.lt
  have X8 := Lib.hid (X7.out.next hb)
  have B8 := Lib.hid (B7.out.trans (hb.mono B7.out.size))
  have R5_8 := Lib.hid ((R5_7.out.below hb).more hb.size)
  have R6_8 := Lib.hid ((R6_7.out.below hb).more hb.size)
  have RA_8 := Lib.hid ((RA_7.out.below hb).more hb.size)
  have RI_8 := Lib.hid ((RI_7.out.below hb).more hb.size)
  have SA_8 := Lib.hid (SA_7.out.next hb)
  have RB_8 := Lib.hid ((RB_7.out.below hb).more hb.size)
  have RJ_8 := Lib.hid ((RJ_7.out.below hb).more hb.size)
  clear hb X7 B7 R5_7 R6_7 RA_7 RI_7 SA_7 RB_7 RJ_7
  generalize w7.heap.size = p7 at *
  clear hw hpw
  have x2 := X8.out.c 2 _ rfl
  have x3 := X8.out.c 3 _ rfl
  have x4 := X8.out.c 4 _ rfl
  have x10 := X8.out.c 10 _ rfl
  have x11 := X8.out.c 11 _ rfl
  have x12 := X8.out.c 12 _ rfl
  have x13 := X8.out.c 13 _ rfl
  have x14 := X8.out.c 14 _ rfl
  have x15 := X8.out.c 15 _ rfl
  have x16 := X8.out.c 16 _ rfl
  have x17 := X8.out.c 17 _ rfl
  have x18 := X8.out.c 18 _ rfl
  have x19 := X8.out.c 19 _ rfl
  have x20 := X8.out.c 20 _ rfl
  have x21 := X8.out.c 21 _ rfl
  go_wp2_with fail
  refine (W1.out (some ⟨g5, 0, none⟩) (some ⟨g6, 0, none⟩) c5 c6 _ (rdF R5_8.out) (rdF R6_8.out)).mono ?_
  rintro e w9 ⟨rfl, hb⟩
  have X9 := Lib.hid (X8.out.next hb)
  have B9 := Lib.hid (B8.out.trans (hb.mono B8.out.size))
  have R5_9 := Lib.hid ((R5_8.out.below hb).more hb.size)
  have R6_9 := Lib.hid ((R6_8.out.below hb).more hb.size)
  have RA_9 := Lib.hid ((RA_8.out.below hb).more hb.size)
  have RI_9 := Lib.hid ((RI_8.out.below hb).more hb.size)
  have SA_9 := Lib.hid (SA_8.out.next hb)
  have RB_9 := Lib.hid ((RB_8.out.below hb).more hb.size)
  have RJ_9 := Lib.hid ((RJ_8.out.below hb).more hb.size)
  have SB_9 := Lib.hid (SB_8.out.next hb)
  clear hb X8 B8 R5_8 R6_8 RA_8 RI_8 SA_8 RB_8 RJ_8 SB_8 x2 x3 x4 x10 x11 x12 x13 x14 x15 x16 x17 x18 x19 x20 x21
  go_upto_region 10 with (fail)
  have hb : Below w9.heap.size w9 (w9.alloc (.cells #[.int .i64 T.1.wall, .int .i32 T.1.logic, .int .i32 T.1.tag] 25)) := (Below.refl _ _).alloc (Nat.le_refl _) _
  have TA_10 : Hid (BxV (w9.alloc (.cells #[.int .i64 T.1.wall, .int .i32 T.1.logic, .int .i32 T.1.tag] 25)) w9.heap.size [.int .i64 T.1.wall, .int .i32 T.1.logic, .int .i32 T.1.tag]) := Lib.hid (BxV.new _ _ _)
  generalize hw : w9.alloc (.cells #[.int .i64 T.1.wall, .int .i32 T.1.logic, .int .i32 T.1.tag] 25) = w10 at *
  have hpw : w9.heap.size < w10.heap.size := TA_10.out.lt
  have X10 := Lib.hid (X9.out.next hb)
  have B10 := Lib.hid (B9.out.trans (hb.mono B9.out.size))
  have R5_10 := Lib.hid ((R5_9.out.below hb).more hb.size)
  have R6_10 := Lib.hid ((R6_9.out.below hb).more hb.size)
  have RA_10 := Lib.hid ((RA_9.out.below hb).more hb.size)
  have RI_10 := Lib.hid ((RI_9.out.below hb).more hb.size)
  have SA_10 := Lib.hid (SA_9.out.next hb)
  have RB_10 := Lib.hid ((RB_9.out.below hb).more hb.size)
  have RJ_10 := Lib.hid ((RJ_9.out.below hb).more hb.size)
  have SB_10 := Lib.hid (SB_9.out.next hb)
  clear hb X9 B9 R5_9 R6_9 RA_9 RI_9 SA_9 RB_9 RJ_9 SB_9
  generalize w9.heap.size = p9 at *
  clear hw hpw
  have x0 := X10.out.c 0 _ rfl
  have x1 := X10.out.c 1 _ rfl
  have x2 := X10.out.c 2 _ rfl
  have x3 := X10.out.c 3 _ rfl
  have x4 := X10.out.c 4 _ rfl
  have x10 := X10.out.c 10 _ rfl
  have x11 := X10.out.c 11 _ rfl
  have x12 := X10.out.c 12 _ rfl
  have x13 := X10.out.c 13 _ rfl
  have x14 := X10.out.c 14 _ rfl
  have x15 := X10.out.c 15 _ rfl
  have x16 := X10.out.c 16 _ rfl
  have x17 := X10.out.c 17 _ rfl
  have x18 := X10.out.c 18 _ rfl
  have x19 := X10.out.c 19 _ rfl
  have x20 := X10.out.c 20 _ rfl
  have x21 := X10.out.c 21 _ rfl
  go_wp2_with fail
  refine (W2.out k.A k.A2 k.c k.c2 _ ((HI.out.hr.below B10.out).more B10.out.size) ((HI.out.hr2.below B10.out).more B10.out.size)).mono ?_
  rintro e w11 ⟨rfl, hb⟩
  have X11 := Lib.hid (X10.out.next hb)
  have B11 := Lib.hid (B10.out.trans (hb.mono B10.out.size))
  have R5_11 := Lib.hid ((R5_10.out.below hb).more hb.size)
  have R6_11 := Lib.hid ((R6_10.out.below hb).more hb.size)
  have RA_11 := Lib.hid ((RA_10.out.below hb).more hb.size)
  have RI_11 := Lib.hid ((RI_10.out.below hb).more hb.size)
  have SA_11 := Lib.hid (SA_10.out.next hb)
  have RB_11 := Lib.hid ((RB_10.out.below hb).more hb.size)
  have RJ_11 := Lib.hid ((RJ_10.out.below hb).more hb.size)
  have SB_11 := Lib.hid (SB_10.out.next hb)
  have TA_11 := Lib.hid (TA_10.out.next hb)
  clear hb X10 B10 R5_10 R6_10 RA_10 RI_10 SA_10 RB_10 RJ_10 SB_10 TA_10 x0 x1 x2 x3 x4 x10 x11 x12 x13 x14 x15 x16 x17 x18 x19 x20 x21
  go_upto_region 11 with (fail)
  have hb : Below w11.heap.size w11 (w11.alloc (.cells #[.int .i64 T.1.wall, .int .i32 T.1.logic, .int .i32 T.1.tag] 25)) := (Below.refl _ _).alloc (Nat.le_refl _) _
  have TB_12 : Hid (BxV (w11.alloc (.cells #[.int .i64 T.1.wall, .int .i32 T.1.logic, .int .i32 T.1.tag] 25)) w11.heap.size [.int .i64 T.1.wall, .int .i32 T.1.logic, .int .i32 T.1.tag]) := Lib.hid (BxV.new _ _ _)
  generalize hw : w11.alloc (.cells #[.int .i64 T.1.wall, .int .i32 T.1.logic, .int .i32 T.1.tag] 25) = w12 at *
  have hpw : w11.heap.size < w12.heap.size := TB_12.out.lt
  have X12 := Lib.hid (X11.out.next hb)
  have B12 := Lib.hid (B11.out.trans (hb.mono B11.out.size))
  have R5_12 := Lib.hid ((R5_11.out.below hb).more hb.size)
  have R6_12 := Lib.hid ((R6_11.out.below hb).more hb.size)
  have RA_12 := Lib.hid ((RA_11.out.below hb).more hb.size)
  have RI_12 := Lib.hid ((RI_11.out.below hb).more hb.size)
  have SA_12 := Lib.hid (SA_11.out.next hb)
  have RB_12 := Lib.hid ((RB_11.out.below hb).more hb.size)
  have RJ_12 := Lib.hid ((RJ_11.out.below hb).more hb.size)
  have SB_12 := Lib.hid (SB_11.out.next hb)
  have TA_12 := Lib.hid (TA_11.out.next hb)
  clear hb X11 B11 R5_11 R6_11 RA_11 RI_11 SA_11 RB_11 RJ_11 SB_11 TA_11
  generalize w11.heap.size = p12 at *
  clear hw hpw
  have C1 := Lib.hid (fun W (h : Below w12.heap.size w12 W) => check24_any (some ⟨g5, 0, none⟩) k.n c5 k.cs HI.out.hl (by omega) (some ⟨g6, 0, none⟩) k.m c6 k.is HI.out.hl2 (by omega) w12.heap.size W ((rdF R5_12.out).below h) ((rdF R6_12.out).below h) h.size)
  have C2 := Lib.hid (fun W (h : Below w12.heap.size w12 W) => rcheck24_any k.A k.n k.c k.cs HI.out.hl (by omega) k.A2 k.m k.c2 k.is HI.out.hl2 (by omega) w.heap.size W (HI.out.hr.below (B12.out.trans (h.mono B12.out.size))) (HI.out.hr2.below (B12.out.trans (h.mono B12.out.size))) (B12.out.trans (h.mono B12.out.size)).size)
  have C3 := Lib.hid (fun W (h : Below w12.heap.size w12 W) => seen_yes M.kind M.at_ A1 M.rows.length c1 A2 c2 M.rows rfl ML.out.1 I1 M.its.length d1 I2 d2 M.its rfl ML.out.2 w12.heap.size W (RA_12.out.below h) (RB_12.out.below h) (RI_12.out.below h) (RJ_12.out.below h) h.size)
  generalize chkCI k.cs k.is = C at *
  have x0 := X12.out.c 0 _ rfl
  have x1 := X12.out.c 1 _ rfl
  have xl := X12.out.lt
  have y0 := SA_12.out.c 0 _ rfl
  have y1 := SA_12.out.c 1 _ rfl
  have y2 := SA_12.out.c 2 _ rfl
  have y3 := SA_12.out.c 3 _ rfl
  have y4 := SA_12.out.c 4 _ rfl
  have y5 := SA_12.out.c 5 _ rfl
  have yl := SA_12.out.lt
  have z0 := SB_12.out.c 0 _ rfl
  have z1 := SB_12.out.c 1 _ rfl
  have z2 := SB_12.out.c 2 _ rfl
  have z3 := SB_12.out.c 3 _ rfl
  have z4 := SB_12.out.c 4 _ rfl
  have z5 := SB_12.out.c 5 _ rfl
  have zl := SB_12.out.lt
  have u0 := TA_12.out.c 0 _ rfl
  have u1 := TA_12.out.c 1 _ rfl
  have u2 := TA_12.out.c 2 _ rfl
  have ul := TA_12.out.lt
  have v0 := TB_12.out.c 0 _ rfl
  have v1 := TB_12.out.c 1 _ rfl
  have v2 := TB_12.out.c 2 _ rfl
  have vl := TB_12.out.lt
  go_wp2_with fail
  refine wp_qall (by kernel_rfl) (by kernel_rfl) ?_
  intro hcg
  repeat (first | go_big_quiet_step ((with_reducible (first | exact Calls.reg (C1.out _ (below_regrown _ _ _)) | exact Calls.reg (C2.out _ (below_regrown _ _ _)) | exact Calls.reg (C3.out _ (below_regrown _ _ _))))) | quiet_step ((with_reducible (first | exact Calls.reg (C1.out _ (below_regrown _ _ _)) | exact Calls.reg (C2.out _ (below_regrown _ _ _)) | exact Calls.reg (C3.out _ (below_regrown _ _ _))))))
  refine wpQuiet_nil ?_
  intro wq hbwq hcwq hfwq
  clear hcg
  have hb := hbwq
  clear hbwq hcwq hfwq
  obtain ⟨w13, rfl⟩ : ∃ x, x = wq := ⟨_, rfl⟩
  have X13 := Lib.hid (X12.out.next hb)
  have B13 := Lib.hid (B12.out.trans (hb.mono B12.out.size))
  have R5_13 := Lib.hid ((R5_12.out.below hb).more hb.size)
  have R6_13 := Lib.hid ((R6_12.out.below hb).more hb.size)
  have RA_13 := Lib.hid ((RA_12.out.below hb).more hb.size)
  have RI_13 := Lib.hid ((RI_12.out.below hb).more hb.size)
  have SA_13 := Lib.hid (SA_12.out.next hb)
  have RB_13 := Lib.hid ((RB_12.out.below hb).more hb.size)
  have RJ_13 := Lib.hid ((RJ_12.out.below hb).more hb.size)
  have SB_13 := Lib.hid (SB_12.out.next hb)
  have TA_13 := Lib.hid (TA_12.out.next hb)
  have TB_13 := Lib.hid (TB_12.out.next hb)
  clear hb X12 B12 R5_12 R6_12 RA_12 RI_12 SA_12 RB_12 RJ_12 SB_12 TA_12 TB_12 x0 x1 xl y0 y1 y2 y3 y4 y5 yl z0 z1 z2 z3 z4 z5 zl u0 u1 u2 ul v0 v1 v2 vl C1 C2 C3
  have x2 := X13.out.c 2 _ rfl
  have x3 := X13.out.c 3 _ rfl
  have x4 := X13.out.c 4 _ rfl
  have x5 := X13.out.c 5 _ rfl
  have x6 := X13.out.c 6 _ rfl
  have x7 := X13.out.c 7 _ rfl
  have x8 := X13.out.c 8 _ rfl
  have x9 := X13.out.c 9 _ rfl
  go_wp2_with fail
  refine (F1.out (some ⟨g5, 0, none⟩) (some ⟨g6, 0, none⟩) c5 c6 _ (rdF R5_13.out) (rdF R6_13.out)).mono ?_
  rintro e w14 ⟨rfl, hb⟩
  have X14 := Lib.hid (X13.out.next hb)
  have B14 := Lib.hid (B13.out.trans (hb.mono B13.out.size))
  have R5_14 := Lib.hid ((R5_13.out.below hb).more hb.size)
  have R6_14 := Lib.hid ((R6_13.out.below hb).more hb.size)
  have RA_14 := Lib.hid ((RA_13.out.below hb).more hb.size)
  have RI_14 := Lib.hid ((RI_13.out.below hb).more hb.size)
  have SA_14 := Lib.hid (SA_13.out.next hb)
  have RB_14 := Lib.hid ((RB_13.out.below hb).more hb.size)
  have RJ_14 := Lib.hid ((RJ_13.out.below hb).more hb.size)
  have SB_14 := Lib.hid (SB_13.out.next hb)
  have TA_14 := Lib.hid (TA_13.out.next hb)
  have TB_14 := Lib.hid (TB_13.out.next hb)
  clear hb X13 B13 R5_13 R6_13 RA_13 RI_13 SA_13 RB_13 RJ_13 SB_13 TA_13 TB_13 x2 x3 x4 x5 x6 x7 x8 x9
  have x0 := X14.out.c 0 _ rfl
  have x1 := X14.out.c 1 _ rfl
  have x2 := X14.out.c 2 _ rfl
  have x3 := X14.out.c 3 _ rfl
  have x4 := X14.out.c 4 _ rfl
  have x5 := X14.out.c 5 _ rfl
  have x6 := X14.out.c 6 _ rfl
  have x7 := X14.out.c 7 _ rfl
  have x8 := X14.out.c 8 _ rfl
  have x9 := X14.out.c 9 _ rfl
  go_wp2_with fail
  refine (F2.out k.A k.A2 k.c k.c2 _ ((HI.out.hr.below B14.out).more B14.out.size) ((HI.out.hr2.below B14.out).more B14.out.size)).mono ?_
  rintro e w15 ⟨rfl, hb⟩
  have X15 := Lib.hid (X14.out.next hb)
  have B15 := Lib.hid (B14.out.trans (hb.mono B14.out.size))
  have R5_15 := Lib.hid ((R5_14.out.below hb).more hb.size)
  have R6_15 := Lib.hid ((R6_14.out.below hb).more hb.size)
  have RA_15 := Lib.hid ((RA_14.out.below hb).more hb.size)
  have RI_15 := Lib.hid ((RI_14.out.below hb).more hb.size)
  have SA_15 := Lib.hid (SA_14.out.next hb)
  have RB_15 := Lib.hid ((RB_14.out.below hb).more hb.size)
  have RJ_15 := Lib.hid ((RJ_14.out.below hb).more hb.size)
  have SB_15 := Lib.hid (SB_14.out.next hb)
  have TA_15 := Lib.hid (TA_14.out.next hb)
  have TB_15 := Lib.hid (TB_14.out.next hb)
  clear hb X14 B14 R5_14 R6_14 RA_14 RI_14 SA_14 RB_14 RJ_14 SB_14 TA_14 TB_14 x0 x1 x2 x3 x4 x5 x6 x7 x8 x9
  have x10 := X15.out.c 10 _ rfl
  have x11 := X15.out.c 11 _ rfl
  have x12 := X15.out.c 12 _ rfl
  have x13 := X15.out.c 13 _ rfl
  have x14 := X15.out.c 14 _ rfl
  have x15 := X15.out.c 15 _ rfl
  have x16 := X15.out.c 16 _ rfl
  have x17 := X15.out.c 17 _ rfl
  have x18 := X15.out.c 18 _ rfl
  have x19 := X15.out.c 19 _ rfl
  have x20 := X15.out.c 20 _ rfl
  have x21 := X15.out.c 21 _ rfl
  have x22 := X15.out.c 22 _ rfl
  have x23 := X15.out.c 23 _ rfl
  have x24 := X15.out.c 24 _ rfl
  have x25 := X15.out.c 25 _ rfl
  have x26 := X15.out.c 26 _ rfl
  have x27 := X15.out.c 27 _ rfl
  have x28 := X15.out.c 28 _ rfl
  have x29 := X15.out.c 29 _ rfl
  have x30 := X15.out.c 30 _ rfl
  have x31 := X15.out.c 31 _ rfl
  have x32 := X15.out.c 32 _ rfl
  go_wp2_with fail
  refine (G1.out (some ⟨g5, 0, none⟩) c5 _ B15.out (rdF R5_15.out)).mono ?_
  rintro e w16 ⟨As, cs', rfl, r1, hb⟩
  have X16 := Lib.hid (X15.out.next hb)
  have B16 := Lib.hid (B15.out.trans (hb.mono B15.out.size))
  have R5_16 := Lib.hid ((R5_15.out.below hb).more hb.size)
  have R6_16 := Lib.hid ((R6_15.out.below hb).more hb.size)
  have RA_16 := Lib.hid ((RA_15.out.below hb).more hb.size)
  have RI_16 := Lib.hid ((RI_15.out.below hb).more hb.size)
  have SA_16 := Lib.hid (SA_15.out.next hb)
  have RB_16 := Lib.hid ((RB_15.out.below hb).more hb.size)
  have RJ_16 := Lib.hid ((RJ_15.out.below hb).more hb.size)
  have SB_16 := Lib.hid (SB_15.out.next hb)
  have TA_16 := Lib.hid (TA_15.out.next hb)
  have TB_16 := Lib.hid (TB_15.out.next hb)
  clear hb X15 B15 R5_15 R6_15 RA_15 RI_15 SA_15 RB_15 RJ_15 SB_15 TA_15 TB_15 x10 x11 x12 x13 x14 x15 x16 x17 x18 x19 x20 x21 x22 x23 x24 x25 x26 x27 x28 x29 x30 x31 x32
  have RS_16 := Lib.hid r1
  clear r1
  have x0 := X16.out.c 0 _ rfl
  have x10 := X16.out.c 10 _ rfl
  have x11 := X16.out.c 11 _ rfl
  have x12 := X16.out.c 12 _ rfl
  have x13 := X16.out.c 13 _ rfl
  have x14 := X16.out.c 14 _ rfl
  have x15 := X16.out.c 15 _ rfl
  have x16 := X16.out.c 16 _ rfl
  have x17 := X16.out.c 17 _ rfl
  have x18 := X16.out.c 18 _ rfl
  have x19 := X16.out.c 19 _ rfl
  have x20 := X16.out.c 20 _ rfl
  have x21 := X16.out.c 21 _ rfl
  have x22 := X16.out.c 22 _ rfl
  have x23 := X16.out.c 23 _ rfl
  have x24 := X16.out.c 24 _ rfl
  have x25 := X16.out.c 25 _ rfl
  have x26 := X16.out.c 26 _ rfl
  have x27 := X16.out.c 27 _ rfl
  have x28 := X16.out.c 28 _ rfl
  have x29 := X16.out.c 29 _ rfl
  have x30 := X16.out.c 30 _ rfl
  have x31 := X16.out.c 31 _ rfl
  have x32 := X16.out.c 32 _ rfl
  go_wp2_with fail
  refine (G2.out k.A k.c _ B16.out ((HI.out.hr.below B16.out).more B16.out.size)).mono ?_
  rintro e w17 ⟨At, ct, rfl, r1, hb⟩
  have X17 := Lib.hid (X16.out.next hb)
  have B17 := Lib.hid (B16.out.trans (hb.mono B16.out.size))
  have R5_17 := Lib.hid ((R5_16.out.below hb).more hb.size)
  have R6_17 := Lib.hid ((R6_16.out.below hb).more hb.size)
  have RA_17 := Lib.hid ((RA_16.out.below hb).more hb.size)
  have RI_17 := Lib.hid ((RI_16.out.below hb).more hb.size)
  have SA_17 := Lib.hid (SA_16.out.next hb)
  have RB_17 := Lib.hid ((RB_16.out.below hb).more hb.size)
  have RJ_17 := Lib.hid ((RJ_16.out.below hb).more hb.size)
  have SB_17 := Lib.hid (SB_16.out.next hb)
  have TA_17 := Lib.hid (TA_16.out.next hb)
  have TB_17 := Lib.hid (TB_16.out.next hb)
  have RS_17 := Lib.hid ((RS_16.out.below hb).more hb.size)
  clear hb X16 B16 R5_16 R6_16 RA_16 RI_16 SA_16 RB_16 RJ_16 SB_16 TA_16 TB_16 RS_16 x0 x10 x11 x12 x13 x14 x15 x16 x17 x18 x19 x20 x21 x22 x23 x24 x25 x26 x27 x28 x29 x30 x31 x32
  have RT_17 := Lib.hid r1
  clear r1
  go_wp2_with fail
  refine (cellsq_yes As S.1.length cs' At ct S.1 rfl SL.out w17.heap.size _ RS_17.out RT_17.out (Nat.le_refl _)).mono ?_
  rintro e w18 ⟨rfl, hb⟩
  have X18 := Lib.hid (X17.out.next hb)
  have B18 := Lib.hid (B17.out.trans (hb.mono B17.out.size))
  have R5_18 := Lib.hid ((R5_17.out.below hb).more hb.size)
  have R6_18 := Lib.hid ((R6_17.out.below hb).more hb.size)
  have RA_18 := Lib.hid ((RA_17.out.below hb).more hb.size)
  have RI_18 := Lib.hid ((RI_17.out.below hb).more hb.size)
  have SA_18 := Lib.hid (SA_17.out.next hb)
  have RB_18 := Lib.hid ((RB_17.out.below hb).more hb.size)
  have RJ_18 := Lib.hid ((RJ_17.out.below hb).more hb.size)
  have SB_18 := Lib.hid (SB_17.out.next hb)
  have TA_18 := Lib.hid (TA_17.out.next hb)
  have TB_18 := Lib.hid (TB_17.out.next hb)
  have RS_18 := Lib.hid ((RS_17.out.below hb).more hb.size)
  have RT_18 := Lib.hid ((RT_17.out.below hb).more hb.size)
  clear hb X17 B17 R5_17 R6_17 RA_17 RI_17 SA_17 RB_17 RJ_17 SB_17 TA_17 TB_17 RS_17 RT_17
  have x5 := X18.out.c 5 _ rfl
  have x6 := X18.out.c 6 _ rfl
  have x7 := X18.out.c 7 _ rfl
  have x10 := X18.out.c 10 _ rfl
  have x11 := X18.out.c 11 _ rfl
  have x12 := X18.out.c 12 _ rfl
  have x13 := X18.out.c 13 _ rfl
  have x14 := X18.out.c 14 _ rfl
  have x15 := X18.out.c 15 _ rfl
  have x16 := X18.out.c 16 _ rfl
  have x17 := X18.out.c 17 _ rfl
  have x18 := X18.out.c 18 _ rfl
  have x19 := X18.out.c 19 _ rfl
  have x20 := X18.out.c 20 _ rfl
  have x21 := X18.out.c 21 _ rfl
  go_wp2_with fail
  refine (D1.out _).mono ?_
  rintro e w19 ⟨rfl, hb⟩
  have X19 := Lib.hid (X18.out.next hb)
  have B19 := Lib.hid (B18.out.trans (hb.mono B18.out.size))
  have R5_19 := Lib.hid ((R5_18.out.below hb).more hb.size)
  have R6_19 := Lib.hid ((R6_18.out.below hb).more hb.size)
  have RA_19 := Lib.hid ((RA_18.out.below hb).more hb.size)
  have RI_19 := Lib.hid ((RI_18.out.below hb).more hb.size)
  have SA_19 := Lib.hid (SA_18.out.next hb)
  have RB_19 := Lib.hid ((RB_18.out.below hb).more hb.size)
  have RJ_19 := Lib.hid ((RJ_18.out.below hb).more hb.size)
  have SB_19 := Lib.hid (SB_18.out.next hb)
  have TA_19 := Lib.hid (TA_18.out.next hb)
  have TB_19 := Lib.hid (TB_18.out.next hb)
  have RS_19 := Lib.hid ((RS_18.out.below hb).more hb.size)
  have RT_19 := Lib.hid ((RT_18.out.below hb).more hb.size)
  clear hb X18 B18 R5_18 R6_18 RA_18 RI_18 SA_18 RB_18 RJ_18 SB_18 TA_18 TB_18 RS_18 RT_18 x5 x6 x7 x10 x11 x12 x13 x14 x15 x16 x17 x18 x19 x20 x21
  go_upto_region 20 with (fail)
  have hb : Below w19.heap.size w19 (w19.alloc (.cells #[.string MV.key, .int .i32 MV.nd, .int .i32 MV.nu, .int .i64 MV.bg.wall, .int .i32 MV.bg.logic, .int .i32 MV.bg.tag, .string MV.anc, .int .i64 MV.at_.wall, .int .i32 MV.at_.logic, .int .i32 MV.at_.tag, .string MV.val, .bool MV.del] 29)) := (Below.refl _ _).alloc (Nat.le_refl _) _
  have YA_20 : Hid (BxV (w19.alloc (.cells #[.string MV.key, .int .i32 MV.nd, .int .i32 MV.nu, .int .i64 MV.bg.wall, .int .i32 MV.bg.logic, .int .i32 MV.bg.tag, .string MV.anc, .int .i64 MV.at_.wall, .int .i32 MV.at_.logic, .int .i32 MV.at_.tag, .string MV.val, .bool MV.del] 29)) w19.heap.size [.string MV.key, .int .i32 MV.nd, .int .i32 MV.nu, .int .i64 MV.bg.wall, .int .i32 MV.bg.logic, .int .i32 MV.bg.tag, .string MV.anc, .int .i64 MV.at_.wall, .int .i32 MV.at_.logic, .int .i32 MV.at_.tag, .string MV.val, .bool MV.del]) := Lib.hid (BxV.new _ _ _)
  generalize hw : w19.alloc (.cells #[.string MV.key, .int .i32 MV.nd, .int .i32 MV.nu, .int .i64 MV.bg.wall, .int .i32 MV.bg.logic, .int .i32 MV.bg.tag, .string MV.anc, .int .i64 MV.at_.wall, .int .i32 MV.at_.logic, .int .i32 MV.at_.tag, .string MV.val, .bool MV.del] 29) = w20 at *
  have hpw : w19.heap.size < w20.heap.size := YA_20.out.lt
  have X20 := Lib.hid (X19.out.next hb)
  have B20 := Lib.hid (B19.out.trans (hb.mono B19.out.size))
  have R5_20 := Lib.hid ((R5_19.out.below hb).more hb.size)
  have R6_20 := Lib.hid ((R6_19.out.below hb).more hb.size)
  have RA_20 := Lib.hid ((RA_19.out.below hb).more hb.size)
  have RI_20 := Lib.hid ((RI_19.out.below hb).more hb.size)
  have SA_20 := Lib.hid (SA_19.out.next hb)
  have RB_20 := Lib.hid ((RB_19.out.below hb).more hb.size)
  have RJ_20 := Lib.hid ((RJ_19.out.below hb).more hb.size)
  have SB_20 := Lib.hid (SB_19.out.next hb)
  have TA_20 := Lib.hid (TA_19.out.next hb)
  have TB_20 := Lib.hid (TB_19.out.next hb)
  have RS_20 := Lib.hid ((RS_19.out.below hb).more hb.size)
  have RT_20 := Lib.hid ((RT_19.out.below hb).more hb.size)
  clear hb X19 B19 R5_19 R6_19 RA_19 RI_19 SA_19 RB_19 RJ_19 SB_19 TA_19 TB_19 RS_19 RT_19
  generalize w19.heap.size = p19 at *
  clear hw hpw
  have x5 := X20.out.c 5 _ rfl
  have x6 := X20.out.c 6 _ rfl
  have x7 := X20.out.c 7 _ rfl
  have x10 := X20.out.c 10 _ rfl
  have x11 := X20.out.c 11 _ rfl
  have x12 := X20.out.c 12 _ rfl
  have x13 := X20.out.c 13 _ rfl
  have x14 := X20.out.c 14 _ rfl
  have x15 := X20.out.c 15 _ rfl
  have x16 := X20.out.c 16 _ rfl
  have x17 := X20.out.c 17 _ rfl
  have x18 := X20.out.c 18 _ rfl
  have x19 := X20.out.c 19 _ rfl
  have x20 := X20.out.c 20 _ rfl
  have x21 := X20.out.c 21 _ rfl
  go_wp2_with fail
  refine (D2.out _).mono ?_
  rintro e w21 ⟨rfl, hb⟩
  have X21 := Lib.hid (X20.out.next hb)
  have B21 := Lib.hid (B20.out.trans (hb.mono B20.out.size))
  have R5_21 := Lib.hid ((R5_20.out.below hb).more hb.size)
  have R6_21 := Lib.hid ((R6_20.out.below hb).more hb.size)
  have RA_21 := Lib.hid ((RA_20.out.below hb).more hb.size)
  have RI_21 := Lib.hid ((RI_20.out.below hb).more hb.size)
  have SA_21 := Lib.hid (SA_20.out.next hb)
  have RB_21 := Lib.hid ((RB_20.out.below hb).more hb.size)
  have RJ_21 := Lib.hid ((RJ_20.out.below hb).more hb.size)
  have SB_21 := Lib.hid (SB_20.out.next hb)
  have TA_21 := Lib.hid (TA_20.out.next hb)
  have TB_21 := Lib.hid (TB_20.out.next hb)
  have RS_21 := Lib.hid ((RS_20.out.below hb).more hb.size)
  have RT_21 := Lib.hid ((RT_20.out.below hb).more hb.size)
  have YA_21 := Lib.hid (YA_20.out.next hb)
  clear hb X20 B20 R5_20 R6_20 RA_20 RI_20 SA_20 RB_20 RJ_20 SB_20 TA_20 TB_20 RS_20 RT_20 YA_20 x5 x6 x7 x10 x11 x12 x13 x14 x15 x16 x17 x18 x19 x20 x21
  go_upto_region 21 with (fail)
  have hb : Below w21.heap.size w21 (w21.alloc (.cells #[.string MV.key, .int .i32 MV.nd, .int .i32 MV.nu, .int .i64 MV.bg.wall, .int .i32 MV.bg.logic, .int .i32 MV.bg.tag, .string MV.anc, .int .i64 MV.at_.wall, .int .i32 MV.at_.logic, .int .i32 MV.at_.tag, .string MV.val, .bool MV.del] 29)) := (Below.refl _ _).alloc (Nat.le_refl _) _
  have YB_22 : Hid (BxV (w21.alloc (.cells #[.string MV.key, .int .i32 MV.nd, .int .i32 MV.nu, .int .i64 MV.bg.wall, .int .i32 MV.bg.logic, .int .i32 MV.bg.tag, .string MV.anc, .int .i64 MV.at_.wall, .int .i32 MV.at_.logic, .int .i32 MV.at_.tag, .string MV.val, .bool MV.del] 29)) w21.heap.size [.string MV.key, .int .i32 MV.nd, .int .i32 MV.nu, .int .i64 MV.bg.wall, .int .i32 MV.bg.logic, .int .i32 MV.bg.tag, .string MV.anc, .int .i64 MV.at_.wall, .int .i32 MV.at_.logic, .int .i32 MV.at_.tag, .string MV.val, .bool MV.del]) := Lib.hid (BxV.new _ _ _)
  generalize hw : w21.alloc (.cells #[.string MV.key, .int .i32 MV.nd, .int .i32 MV.nu, .int .i64 MV.bg.wall, .int .i32 MV.bg.logic, .int .i32 MV.bg.tag, .string MV.anc, .int .i64 MV.at_.wall, .int .i32 MV.at_.logic, .int .i32 MV.at_.tag, .string MV.val, .bool MV.del] 29) = w22 at *
  have hpw : w21.heap.size < w22.heap.size := YB_22.out.lt
  have X22 := Lib.hid (X21.out.next hb)
  have B22 := Lib.hid (B21.out.trans (hb.mono B21.out.size))
  have R5_22 := Lib.hid ((R5_21.out.below hb).more hb.size)
  have R6_22 := Lib.hid ((R6_21.out.below hb).more hb.size)
  have RA_22 := Lib.hid ((RA_21.out.below hb).more hb.size)
  have RI_22 := Lib.hid ((RI_21.out.below hb).more hb.size)
  have SA_22 := Lib.hid (SA_21.out.next hb)
  have RB_22 := Lib.hid ((RB_21.out.below hb).more hb.size)
  have RJ_22 := Lib.hid ((RJ_21.out.below hb).more hb.size)
  have SB_22 := Lib.hid (SB_21.out.next hb)
  have TA_22 := Lib.hid (TA_21.out.next hb)
  have TB_22 := Lib.hid (TB_21.out.next hb)
  have RS_22 := Lib.hid ((RS_21.out.below hb).more hb.size)
  have RT_22 := Lib.hid ((RT_21.out.below hb).more hb.size)
  have YA_22 := Lib.hid (YA_21.out.next hb)
  clear hb X21 B21 R5_21 R6_21 RA_21 RI_21 SA_21 RB_21 RJ_21 SB_21 TA_21 TB_21 RS_21 RT_21 YA_21
  generalize w21.heap.size = p20 at *
  clear hw hpw
  have x2 := X22.out.c 2 _ rfl
  have x3 := X22.out.c 3 _ rfl
  have x4 := X22.out.c 4 _ rfl
  go_wp2_with fail
  refine (N1.out (some ⟨g5, 0, none⟩) c5 _ (rdF R5_22.out)).mono ?_
  rintro e w23 ⟨As2, cs2, rfl, r1, hb⟩
  have X23 := Lib.hid (X22.out.next hb)
  have B23 := Lib.hid (B22.out.trans (hb.mono B22.out.size))
  have R5_23 := Lib.hid ((R5_22.out.below hb).more hb.size)
  have R6_23 := Lib.hid ((R6_22.out.below hb).more hb.size)
  have RA_23 := Lib.hid ((RA_22.out.below hb).more hb.size)
  have RI_23 := Lib.hid ((RI_22.out.below hb).more hb.size)
  have SA_23 := Lib.hid (SA_22.out.next hb)
  have RB_23 := Lib.hid ((RB_22.out.below hb).more hb.size)
  have RJ_23 := Lib.hid ((RJ_22.out.below hb).more hb.size)
  have SB_23 := Lib.hid (SB_22.out.next hb)
  have TA_23 := Lib.hid (TA_22.out.next hb)
  have TB_23 := Lib.hid (TB_22.out.next hb)
  have RS_23 := Lib.hid ((RS_22.out.below hb).more hb.size)
  have RT_23 := Lib.hid ((RT_22.out.below hb).more hb.size)
  have YA_23 := Lib.hid (YA_22.out.next hb)
  have YB_23 := Lib.hid (YB_22.out.next hb)
  clear hb X22 B22 R5_22 R6_22 RA_22 RI_22 SA_22 RB_22 RJ_22 SB_22 TA_22 TB_22 RS_22 RT_22 YA_22 YB_22 x2 x3 x4
  have RG_23 := Lib.hid r1
  clear r1
  have x0 := X23.out.c 0 _ rfl
  have x2 := X23.out.c 2 _ rfl
  have x3 := X23.out.c 3 _ rfl
  have x4 := X23.out.c 4 _ rfl
  go_wp2_with fail
  refine (N2.out k.A k.c _ ((HI.out.hr.below B23.out).more B23.out.size)).mono ?_
  rintro e w24 ⟨At2, ct2, rfl, r1, hb⟩
  have X24 := Lib.hid (X23.out.next hb)
  have B24 := Lib.hid (B23.out.trans (hb.mono B23.out.size))
  have R5_24 := Lib.hid ((R5_23.out.below hb).more hb.size)
  have R6_24 := Lib.hid ((R6_23.out.below hb).more hb.size)
  have RA_24 := Lib.hid ((RA_23.out.below hb).more hb.size)
  have RI_24 := Lib.hid ((RI_23.out.below hb).more hb.size)
  have SA_24 := Lib.hid (SA_23.out.next hb)
  have RB_24 := Lib.hid ((RB_23.out.below hb).more hb.size)
  have RJ_24 := Lib.hid ((RJ_23.out.below hb).more hb.size)
  have SB_24 := Lib.hid (SB_23.out.next hb)
  have TA_24 := Lib.hid (TA_23.out.next hb)
  have TB_24 := Lib.hid (TB_23.out.next hb)
  have RS_24 := Lib.hid ((RS_23.out.below hb).more hb.size)
  have RT_24 := Lib.hid ((RT_23.out.below hb).more hb.size)
  have YA_24 := Lib.hid (YA_23.out.next hb)
  have YB_24 := Lib.hid (YB_23.out.next hb)
  have RG_24 := Lib.hid ((RG_23.out.below hb).more hb.size)
  clear hb X23 B23 R5_23 R6_23 RA_23 RI_23 SA_23 RB_23 RJ_23 SB_23 TA_23 TB_23 RS_23 RT_23 YA_23 YB_23 RG_23 x0 x2 x3 x4
  have RH_24 := Lib.hid r1
  clear r1
  have y0 := YA_24.out.c 0 _ rfl
  have y1 := YA_24.out.c 1 _ rfl
  have y2 := YA_24.out.c 2 _ rfl
  have y3 := YA_24.out.c 3 _ rfl
  have y4 := YA_24.out.c 4 _ rfl
  have y5 := YA_24.out.c 5 _ rfl
  have y6 := YA_24.out.c 6 _ rfl
  have y7 := YA_24.out.c 7 _ rfl
  have y8 := YA_24.out.c 8 _ rfl
  have y9 := YA_24.out.c 9 _ rfl
  have y10 := YA_24.out.c 10 _ rfl
  have y11 := YA_24.out.c 11 _ rfl
  have yl := YA_24.out.lt
  have z0 := YB_24.out.c 0 _ rfl
  have z1 := YB_24.out.c 1 _ rfl
  have z2 := YB_24.out.c 2 _ rfl
  have z3 := YB_24.out.c 3 _ rfl
  have z4 := YB_24.out.c 4 _ rfl
  have z5 := YB_24.out.c 5 _ rfl
  have z6 := YB_24.out.c 6 _ rfl
  have z7 := YB_24.out.c 7 _ rfl
  have z8 := YB_24.out.c 8 _ rfl
  have z9 := YB_24.out.c 9 _ rfl
  have z10 := YB_24.out.c 10 _ rfl
  have z11 := YB_24.out.c 11 _ rfl
  have zl := YB_24.out.lt
  go_wp2_with fail
  refine (cellsq_yes As2 GL.length cs2 At2 ct2 GL rfl GLL.out w24.heap.size _ RG_24.out RH_24.out (Nat.le_refl _)).mono ?_
  rintro e w25 ⟨rfl, hb⟩
  have X25 := Lib.hid (X24.out.next hb)
  have B25 := Lib.hid (B24.out.trans (hb.mono B24.out.size))
  have R5_25 := Lib.hid ((R5_24.out.below hb).more hb.size)
  have R6_25 := Lib.hid ((R6_24.out.below hb).more hb.size)
  have RA_25 := Lib.hid ((RA_24.out.below hb).more hb.size)
  have RI_25 := Lib.hid ((RI_24.out.below hb).more hb.size)
  have SA_25 := Lib.hid (SA_24.out.next hb)
  have RB_25 := Lib.hid ((RB_24.out.below hb).more hb.size)
  have RJ_25 := Lib.hid ((RJ_24.out.below hb).more hb.size)
  have SB_25 := Lib.hid (SB_24.out.next hb)
  have TA_25 := Lib.hid (TA_24.out.next hb)
  have TB_25 := Lib.hid (TB_24.out.next hb)
  have RS_25 := Lib.hid ((RS_24.out.below hb).more hb.size)
  have RT_25 := Lib.hid ((RT_24.out.below hb).more hb.size)
  have YA_25 := Lib.hid (YA_24.out.next hb)
  have YB_25 := Lib.hid (YB_24.out.next hb)
  have RG_25 := Lib.hid ((RG_24.out.below hb).more hb.size)
  have RH_25 := Lib.hid ((RH_24.out.below hb).more hb.size)
  clear hb X24 B24 R5_24 R6_24 RA_24 RI_24 SA_24 RB_24 RJ_24 SB_24 TA_24 TB_24 RS_24 RT_24 YA_24 YB_24 RG_24 RH_24
  clear y0 y1 y2 y3 y4 y5 y6 y7 y8 y9 y10 y11 yl z0 z1 z2 z3 z4 z5 z6 z7 z8 z9 z10 z11 zl
  have x0 := X25.out.c 0 _ rfl
  go_wp2_with fail
  refine (cellsq_yes (some ⟨g5, 0, none⟩) k.n c5 k.A k.c k.cs HI.out.hl (by omega) w25.heap.size _ (rdF R5_25.out) ((HI.out.hr.below B25.out).more B25.out.size) (Nat.le_refl _)).mono ?_
  rintro e w26 ⟨rfl, hb⟩
  have X26 := Lib.hid (X25.out.next hb)
  have B26 := Lib.hid (B25.out.trans (hb.mono B25.out.size))
  have R5_26 := Lib.hid ((R5_25.out.below hb).more hb.size)
  have R6_26 := Lib.hid ((R6_25.out.below hb).more hb.size)
  have RA_26 := Lib.hid ((RA_25.out.below hb).more hb.size)
  have RI_26 := Lib.hid ((RI_25.out.below hb).more hb.size)
  have SA_26 := Lib.hid (SA_25.out.next hb)
  have RB_26 := Lib.hid ((RB_25.out.below hb).more hb.size)
  have RJ_26 := Lib.hid ((RJ_25.out.below hb).more hb.size)
  have SB_26 := Lib.hid (SB_25.out.next hb)
  have TA_26 := Lib.hid (TA_25.out.next hb)
  have TB_26 := Lib.hid (TB_25.out.next hb)
  have RS_26 := Lib.hid ((RS_25.out.below hb).more hb.size)
  have RT_26 := Lib.hid ((RT_25.out.below hb).more hb.size)
  have YA_26 := Lib.hid (YA_25.out.next hb)
  have YB_26 := Lib.hid (YB_25.out.next hb)
  have RG_26 := Lib.hid ((RG_25.out.below hb).more hb.size)
  have RH_26 := Lib.hid ((RH_25.out.below hb).more hb.size)
  clear hb X25 B25 R5_25 R6_25 RA_25 RI_25 SA_25 RB_25 RJ_25 SB_25 TA_25 TB_25 RS_25 RT_25 YA_25 YB_25 RG_25 RH_25 x0
  obtain ⟨v1, hv1, -⟩ := rd_at0 R5_26.out (i := k.n * 6) (v := .string ⟨#[98, 101, 104, 105, 110, 100]⟩) (by rw [List.getElem?_append_right (by rw [cev_len, HI.out.hl]; exact Nat.le_refl _), cev_len, HI.out.hl, Nat.sub_self]; rfl)
  obtain ⟨v3, hv3, -⟩ := rd_at0 R6_26.out (i := k.m * 12) (v := .string ⟨#[98, 101, 104, 105, 110, 100]⟩) (by rw [List.getElem?_append_right (by rw [itv_len, HI.out.hl2]; exact Nat.le_refl _), itv_len, HI.out.hl2, Nat.sub_self]; rfl)
  have n1 : (0 : Int) ≤ (k.n : Int) := by omega
  have n2 : (k.n : Int) + 1 ≤ (c5 : Int) := by omega
  have n3 : (k.n : Int) < (k.n : Int) + 1 := by omega
  have n4 : (0 : Int) ≤ (k.n : Int) + 1 := by omega
  have m1 : (0 : Int) ≤ (k.m : Int) := by omega
  have m2 : (k.m : Int) + 1 ≤ (c6 : Int) := by omega
  have m3 : (k.m : Int) < (k.m : Int) + 1 := by omega
  have m4 : (0 : Int) ≤ (k.m : Int) + 1 := by omega
  have n5 : IntKind.i64.wrap ((k.n : Int) + 1) = (k.n : Int) + 1 := IntWalk.i64_in _ (by omega)
  have m5 : IntKind.i64.wrap ((k.m : Int) + 1) = (k.m : Int) + 1 := IntWalk.i64_in _ (by omega)
  go_wp2_with fail
  go_ret
  exact ⟨rfl, B26.out⟩
end Go.Proofs.Ytgikaglmeeeplaa
