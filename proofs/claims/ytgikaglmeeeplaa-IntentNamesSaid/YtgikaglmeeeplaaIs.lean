/- Walk: the numbers and worked examples of the chapter on intents. -/
import Derived.Test.YtgikaglmeeeplaaIj
import Derived.Test.YtgikaglmeeeplaaIq
import Derived.Test.YtgikaglmeeeplaaIr
import Derived.Deep.Cut
namespace Go.Proofs.Ytgikaglmeeeplaa
open Go.RowKit Go.St
set_option linter.unusedVariables false
set_option linter.unusedSimpArgs false
set_option maxRecDepth 100000

set_option maxHeartbeats 1600000 in
theorem cellsq_yes (A : Option Addr) (n c : Nat) (A' : Option Addr) (c' : Nat) (l : List Cel) (hl : l.length = n) (hn : n ≤ 1000000) (B : Nat) (w : World) (hr : Rd w B A (cev l)) (hr' : Rd w B A' (cev l)) (hB : B ≤ w.heap.size) :
    Calls Try.prog 19 #[.slice A n c, .slice A' n c'] w fun e w' => e = .returned (.bool true) ∧ Below w.heap.size w w' := by
  have HL := Lib.hid hl
  have HR := Lib.hid hr
  have HR' := Lib.hid hr'
  clear hl hr hr'
  go_enter Try.func19, Try.ntmps19
  go_wp2_with fail
  go_loopw [5] (fun s5 wr => ∃ i : Nat, s5 = .int .i64 (i : Int) ∧ i ≤ n ∧ Hid (Below w.heap.size w wr)) (fun s5 _ => n - (intOf s5).toNat)
  case atStart => exact ⟨0, rfl, Nat.zero_le _, Lib.hid (Below.refl _ _)⟩
  case round =>
    obtain ⟨i, rfl, hi, hB1⟩ := hrel
    obtain ⟨w2, rfl⟩ : ∃ x, x = wr := ⟨_, rfl⟩
    by_cases hlt : i < n
    · obtain ⟨x, hx⟩ : ∃ x, l[i]? = some x := ⟨_, List.getElem?_eq_getElem (by rw [HL.out]; exact hlt)⟩
      obtain ⟨b, off, rfl, hb, hce⟩ := ce_at HR.out hx
      obtain ⟨b', off', rfl, hb', hce'⟩ := ce_at HR'.out hx
      obtain ⟨d0, d1, d2, d3, d4, d5⟩ := hce.below (Nat.lt_of_lt_of_le hb hB) hB1.out
      obtain ⟨f0, f1, f2, f3, f4, f5⟩ := hce'.below (Nat.lt_of_lt_of_le hb' hB) hB1.out
      have i1 : (i : Int) < (n : Int) := by omega
      have i0 : (0 : Int) ≤ (i : Int) := by omega
      have z1 : b < w2.heap.size := by have := hB1.out.size; omega
      have z2 : b' < w2.heap.size := by have := hB1.out.size; omega
      clear hce hce' hx
      go_wp2_with fail
      refine wp_qall (by kernel_rfl) (by kernel_rfl) ?_
      intro hcg
      repeat (first | go_big_quiet_step (fail) | quiet_step (fail))
      refine wpQuiet_nil ?_
      intro wq hbwq hcwq hfwq
      clear hcg
      have B9 := Lib.hid (hB1.out.trans (hbwq.mono hB1.out.size))
      clear hbwq hcwq hfwq
      go_wp2_with fail
      go_roundw
      case rel => exact ⟨i + 1, by go_num, by omega, B9⟩
      case measure => simp [intOf]; omega
    · have i1 : ¬ (i : Int) < (n : Int) := by omega
      clear hlt
      go_wp2_with fail
      go_ret
      exact ⟨rfl, hB1.out⟩

def xsL : List Itt := [laidI ⟨#[99]⟩ ⟨4, 0, 17⟩]
theorem nm_1 : (scanM exL xsL ⟨4, 0, 0⟩ ⟨4, 0, 0⟩ (0, 0) []).kind = 1 ∧ (scanM exL xsL ⟨4, 0, 0⟩ ⟨4, 0, 0⟩ (0, 0) []).rows.length = 1 ∧ (scanM exL xsL ⟨4, 0, 0⟩ ⟨4, 0, 0⟩ (0, 0) []).its.length = 0 ∧ (scanM exL xsL ⟨4, 0, 0⟩ ⟨4, 0, 0⟩ (0, 0) []).at_ = ⟨0, 0, 0⟩ ∧ scanE exL xsL ⟨4, 0, 0⟩ ⟨4, 0, 0⟩ = 0 := by decide +kernel
theorem nm_2 : (scanM exL xsL ⟨4, 0, 0⟩ ⟨4, 1, 0⟩ (0, 0) []).kind = 2 ∧ (scanM exL xsL ⟨4, 0, 0⟩ ⟨4, 1, 0⟩ (0, 0) []).rows.length = 0 ∧ (scanM exL xsL ⟨4, 0, 0⟩ ⟨4, 1, 0⟩ (0, 0) []).its.length = 1 ∧ (scanM exL xsL ⟨4, 0, 0⟩ ⟨4, 1, 0⟩ (0, 0) []).at_ = ⟨0, 0, 0⟩ ∧ scanE exL xsL ⟨4, 0, 0⟩ ⟨4, 1, 0⟩ = 0 := by decide +kernel
theorem nm_3 : (scanM exL [] ⟨1, 0, 0⟩ ⟨1, 0, 0⟩ (0, 0) []).kind = 1 ∧ (scanM exL [] ⟨1, 0, 0⟩ ⟨1, 0, 0⟩ (0, 0) []).rows.length = 0 ∧ (scanM exL [] ⟨1, 0, 0⟩ ⟨1, 0, 0⟩ (0, 0) []).its.length = 0 ∧ (scanM exL [] ⟨1, 0, 0⟩ ⟨1, 0, 0⟩ (0, 0) []).at_ = ⟨0, 0, 0⟩ ∧ scanE exL [] ⟨1, 0, 0⟩ ⟨1, 0, 0⟩ = 0 := by decide +kernel
theorem nm_4 : (scanM exL xsL ⟨4, 0, 0⟩ ⟨4, 1, 0⟩ (0, 0) [(1, 2)]).kind = 1 ∧ (scanM exL xsL ⟨4, 0, 0⟩ ⟨4, 1, 0⟩ (0, 0) [(1, 2)]).rows.length = 1 ∧ (scanM exL xsL ⟨4, 0, 0⟩ ⟨4, 1, 0⟩ (0, 0) [(1, 2)]).its.length = 0 ∧ (scanM exL xsL ⟨4, 0, 0⟩ ⟨4, 1, 0⟩ (0, 0) [(1, 2)]).at_ = ⟨0, 0, 0⟩ ∧ scanE exL xsL ⟨4, 0, 0⟩ ⟨4, 1, 0⟩ = 0 := by decide +kernel
theorem nm_5 : wrT exL [] (laidI ⟨#[97]⟩ ⟨6, 0, 17⟩) ⟨1, 0, 0⟩ = (⟨6, 0, 17⟩, false, 0) := by decide +kernel
theorem nm_6 : wrT exL [] (laidI ⟨#[97]⟩ ⟨4, 0, 17⟩) ⟨7, 0, 20⟩ = (⟨7, 1, 17⟩, false, 0) := by decide +kernel
theorem nm_7 : refM exL [] ⟨3, 1, 0⟩ ⟨4, 0, 0⟩ (0, 0) = true ∧ scanE exL [] ⟨3, 1, 0⟩ ⟨4, 0, 0⟩ = 0 := by decide +kernel
theorem nm_8 : refM exL [] ⟨3, 1, 0⟩ ⟨5, 1, 0⟩ (0, 0) = false ∧ scanE exL [] ⟨3, 1, 0⟩ ⟨5, 1, 0⟩ = 0 := by decide +kernel
theorem nm_9 : goneG exL ⟨4, 0, 0⟩ = exL.drop 2 ∧ chkdE exL [] [⟨4, 0, 0⟩] = 0 := by decide +kernel
theorem nm_10 : goneG exL ⟨5, 0, 8⟩ = exL.drop 1 ∧ chkdE exL [] [⟨5, 0, 8⟩] = 0 := by decide +kernel
/-- A scan of the chapter's cells, told by its numbers. -/
theorem scan_nm (is : List Itt) (m : Nat) (hm : is.length = m) (hm2 : m ≤ 1000000) (t1 t2 : Stp) (kn : List (Int × Int)) (q : Nat) (hq : kn.length = q) (hq2 : q ≤ 140737488351232) (k : Int) (rn itn : Nat) (u : Stp) (h : (scanM exL is t1 t2 (0, 0) kn).kind = k ∧ (scanM exL is t1 t2 (0, 0) kn).rows.length = rn ∧ (scanM exL is t1 t2 (0, 0) kn).its.length = itn ∧ (scanM exL is t1 t2 (0, 0) kn).at_ = u ∧ scanE exL is t1 t2 = 0)
    (b : Nat) (A2 : Option Addr) (c2 : Nat) (A3 : Option Addr) (c3 : Nat) (w : World) (hr : Rd w w.heap.size (some ⟨b, 0, none⟩) (cev exL)) (hr2 : Rd w w.heap.size A2 (itv is)) (hr3 : Rd w w.heap.size A3 (txv kn)) :
    Calls Try.prog 16 #[.slice (some ⟨b, 0, none⟩) 3 3, .slice A2 m c2, .agg #[.int .i64 t1.wall, .int .i32 t1.logic, .int .i32 t1.tag], .agg #[.int .i64 t2.wall, .int .i32 t2.logic, .int .i32 t2.tag], .agg #[.int .i32 0, .int .i32 0], .slice A3 q c3] w fun e w' => ∃ A c I d, e = .returned (.tuple #[.agg #[.int .i64 k, .slice A rn c, .slice I itn d, .int .i64 u.wall, .int .i32 u.logic, .int .i32 u.tag], .int .i64 0]) ∧ Below w.heap.size w w' := by
  have h1 := scan24_any (some ⟨b, 0, none⟩) 3 3 exL rfl (by decide) A2 m c2 is hm hm2 t1 t2 (0, 0) A3 q c3 kn hq hq2 w.heap.size w hr hr2 hr3 (Nat.le_refl _)
  rw [h.2.2.2.2] at h1
  refine h1.mono ?_
  rintro e w' ⟨⟨vr, vi, rfl, o1, o2⟩, hb⟩
  rw [h.2.1] at o1
  rw [h.2.2.1] at o2
  obtain ⟨A, c, rfl, -, -⟩ := own_sl o1
  obtain ⟨I, d, rfl, -, -⟩ := own_sl o2
  exact ⟨A, c, I, d, by rw [h.1, h.2.2.2.1], hb⟩
theorem gone_nm (t : Stp) (l : List Cel) (m : Nat) (hm : l.length = m) (h : goneG exL t = l ∧ chkdE exL [] [t] = 0) (b : Nat) (w : World) (hr : Rd w w.heap.size (some ⟨b, 0, none⟩) (cev exL)) :
    Calls Try.prog 18 #[.slice (some ⟨b, 0, none⟩) 3 3, .agg #[.int .i64 t.wall, .int .i32 t.logic, .int .i32 t.tag]] w fun e w' => ∃ A c, e = .returned (.tuple #[.slice A m c, .int .i64 0]) ∧ Rd w' w'.heap.size A (cev l) ∧ Below w.heap.size w w' := by
  have h1 := gone24_any (some ⟨b, 0, none⟩) 3 3 exL rfl (by decide) t w.heap.size w hr (Nat.le_refl _)
  rw [h.1, h.2] at h1
  refine h1.mono ?_
  rintro e w' ⟨v, rfl, o1, hb⟩
  obtain ⟨A, c, rfl, -, r⟩ := own_sl o1
  exact ⟨A, c, by rw [hm], r, hb⟩
theorem ref_nm (t1 t2 : Stp) (r : Bool) (h : refM exL [] t1 t2 (0, 0) = r ∧ scanE exL [] t1 t2 = 0) (b : Nat) (w : World) (hr : Rd w w.heap.size (some ⟨b, 0, none⟩) (cev exL)) :
    Calls Try.prog 17 #[.slice (some ⟨b, 0, none⟩) 3 3, .slice none 0 0, .agg #[.int .i64 t1.wall, .int .i32 t1.logic, .int .i32 t1.tag], .agg #[.int .i64 t2.wall, .int .i32 t2.logic, .int .i32 t2.tag], .agg #[.int .i32 0, .int .i32 0]] w fun e w' => e = .returned (.tuple #[.bool r, .int .i64 0]) ∧ Below w.heap.size w w' := by
  have h1 := refresh24_any (some ⟨b, 0, none⟩) 3 3 exL rfl (by decide) none 0 0 [] rfl (by decide) t1 t2 (0, 0) w.heap.size w hr Rd.nil (Nat.le_refl _)
  rw [h.1, h.2] at h1
  exact h1
theorem wr_nm (x : Itt) (t : Stp) (u : Stp) (h : wrT exL [] x t = (u, false, 0)) (b : Nat) (w : World) (hr : Rd w w.heap.size (some ⟨b, 0, none⟩) (cev exL)) :
    Calls Try.prog 10 #[.slice (some ⟨b, 0, none⟩) 3 3, .slice none 0 0, x.v, .agg #[.int .i64 t.wall, .int .i32 t.logic, .int .i32 t.tag]] w fun e w' => e = .returned (.tuple #[.agg #[.int .i64 u.wall, .int .i32 u.logic, .int .i32 u.tag], .bool false, .int .i64 0]) ∧ Below w.heap.size w w' := by
  have h1 := write24_any (some ⟨b, 0, none⟩) 3 3 exL rfl (by decide) none 0 0 [] rfl (by decide) x t w.heap.size w hr Rd.nil (Nat.le_refl _)
  rw [h] at h1
  exact h1

set_option maxHeartbeats 12800000 in
theorem intentNames_walk (w : World) : Calls Try.prog 4 #[] w fun e w' => e = .returned (.bool true) ∧ Below w.heap.size w w' := by
  go_enter Try.func4, Try.ntmps4

  go_wp2_with fail
  refine (example24_any _).mono ?_
  rintro e w1 ⟨b1, rfl, -, r1, hb⟩
  have B_1 := Lib.hid hb
  have RE_1 := Lib.hid r1
  clear r1
  clear hb
  go_wp2_with fail
  refine (st24_any 4 0 17 _).mono ?_
  rintro e w2 ⟨rfl, hb⟩
  have RE_2 := Lib.hid ((RE_1.out.below hb).more hb.size)
  have B_2 := Lib.hid (B_1.out.trans (hb.mono B_1.out.size))
  clear RE_1 B_1
  clear hb
  go_wp2_with fail
  refine (laid_any ⟨#[99]⟩ ⟨4, 0, 17⟩ _).mono ?_
  rintro e w3 ⟨rfl, hb⟩
  have RE_3 := Lib.hid ((RE_2.out.below hb).more hb.size)
  have B_3 := Lib.hid (B_2.out.trans (hb.mono B_2.out.size))
  clear RE_2 B_2
  clear hb
  unfold Itt.v laidI zeroS zE
  dsimp only
  go_wp2_with fail
  have hb : Below w3.heap.size w3 (w3.alloc (.cells #[.string ⟨#[99]⟩, .int .i32 1, .int .i32 2, .int .i64 0, .int .i32 0, .int .i32 0, .string ⟨#[99]⟩, .int .i64 4, .int .i32 0, .int .i32 17, .string ⟨#[]⟩, .bool false] 29)) := (Below.refl _ _).alloc (Nat.le_refl _) _
  have RE_4 := Lib.hid ((RE_3.out.below hb).more hb.size)
  have B_4 := Lib.hid (B_3.out.trans (hb.mono B_3.out.size))
  have RX_4 : Hid (Rd (w3.alloc (.cells #[.string ⟨#[99]⟩, .int .i32 1, .int .i32 2, .int .i64 0, .int .i32 0, .int .i32 0, .string ⟨#[99]⟩, .int .i64 4, .int .i32 0, .int .i32 17, .string ⟨#[]⟩, .bool false] 29)) (w3.alloc (.cells #[.string ⟨#[99]⟩, .int .i32 1, .int .i32 2, .int .i64 0, .int .i32 0, .int .i32 0, .string ⟨#[99]⟩, .int .i64 4, .int .i32 0, .int .i32 17, .string ⟨#[]⟩, .bool false] 29)).heap.size (some ⟨w3.heap.size, 0, none⟩) (itv xsL)) := Lib.hid (rd_frC w3 #[.string ⟨#[99]⟩, .int .i32 1, .int .i32 2, .int .i64 0, .int .i32 0, .int .i32 0, .string ⟨#[99]⟩, .int .i64 4, .int .i32 0, .int .i32 17, .string ⟨#[]⟩, .bool false] 29 (0, 0))
  clear hb RE_3 B_3
  generalize hw : w3.alloc (.cells #[.string ⟨#[99]⟩, .int .i32 1, .int .i32 2, .int .i64 0, .int .i32 0, .int .i32 0, .string ⟨#[99]⟩, .int .i64 4, .int .i32 0, .int .i32 17, .string ⟨#[]⟩, .bool false] 29) = w4 at *
  generalize w3.heap.size = p0 at *
  clear hw
  go_wp2_with fail
  refine (st24_any 4 0 0 _).mono ?_
  rintro e w5 ⟨rfl, hb⟩
  have RE_5 := Lib.hid ((RE_4.out.below hb).more hb.size)
  have RX_5 := Lib.hid ((RX_4.out.below hb).more hb.size)
  have B_5 := Lib.hid (B_4.out.trans (hb.mono B_4.out.size))
  clear RE_4 RX_4 B_4
  clear hb
  go_wp2_with fail
  refine (st24_any 4 0 0 _).mono ?_
  rintro e w6 ⟨rfl, hb⟩
  have RE_6 := Lib.hid ((RE_5.out.below hb).more hb.size)
  have RX_6 := Lib.hid ((RX_5.out.below hb).more hb.size)
  have B_6 := Lib.hid (B_5.out.trans (hb.mono B_5.out.size))
  clear RE_5 RX_5 B_5
  clear hb
  go_wp2_with fail
  refine (scan_nm xsL 1 rfl (by decide) ⟨4, 0, 0⟩ ⟨4, 0, 0⟩ [] 0 rfl (by decide) 1 1 0 ⟨0, 0, 0⟩ nm_1 b1 (some ⟨p0, 0, none⟩) 1 none 0 _ RE_6.out RX_6.out Rd.nil).mono ?_
  rintro e w7 ⟨A1, c1, I1, d1, rfl, hb⟩
  have RE_7 := Lib.hid ((RE_6.out.below hb).more hb.size)
  have RX_7 := Lib.hid ((RX_6.out.below hb).more hb.size)
  have B_7 := Lib.hid (B_6.out.trans (hb.mono B_6.out.size))
  clear RE_6 RX_6 B_6
  clear hb
  dsimp only
  go_wp2_with fail
  have hb : Below w7.heap.size w7 (w7.alloc (.cells #[.int .i64 1, .slice A1 1 c1, .slice I1 0 d1, .int .i64 0, .int .i32 0, .int .i32 0] 53)) := (Below.refl _ _).alloc (Nat.le_refl _) _
  have RE_8 := Lib.hid ((RE_7.out.below hb).more hb.size)
  have RX_8 := Lib.hid ((RX_7.out.below hb).more hb.size)
  have B_8 := Lib.hid (B_7.out.trans (hb.mono B_7.out.size))
  have XA_8 : Hid (BxV (w7.alloc (.cells #[.int .i64 1, .slice A1 1 c1, .slice I1 0 d1, .int .i64 0, .int .i32 0, .int .i32 0] 53)) w7.heap.size _) := Lib.hid (BxV.new w7 #[.int .i64 1, .slice A1 1 c1, .slice I1 0 d1, .int .i64 0, .int .i32 0, .int .i32 0] 53)
  clear hb RE_7 RX_7 B_7
  generalize hw : w7.alloc (.cells #[.int .i64 1, .slice A1 1 c1, .slice I1 0 d1, .int .i64 0, .int .i32 0, .int .i32 0] 53) = w8 at *
  generalize w7.heap.size = p1 at *
  clear hw
  go_wp2_with fail
  refine (st24_any 4 0 0 _).mono ?_
  rintro e w9 ⟨rfl, hb⟩
  have RE_9 := Lib.hid ((RE_8.out.below hb).more hb.size)
  have RX_9 := Lib.hid ((RX_8.out.below hb).more hb.size)
  have XA_9 := Lib.hid (XA_8.out.next hb)
  have B_9 := Lib.hid (B_8.out.trans (hb.mono B_8.out.size))
  clear RE_8 RX_8 XA_8 B_8
  clear hb
  go_wp2_with fail
  refine (st24_any 4 1 0 _).mono ?_
  rintro e w10 ⟨rfl, hb⟩
  have RE_10 := Lib.hid ((RE_9.out.below hb).more hb.size)
  have RX_10 := Lib.hid ((RX_9.out.below hb).more hb.size)
  have XA_10 := Lib.hid (XA_9.out.next hb)
  have B_10 := Lib.hid (B_9.out.trans (hb.mono B_9.out.size))
  clear RE_9 RX_9 XA_9 B_9
  clear hb
  go_wp2_with fail
  refine (scan_nm xsL 1 rfl (by decide) ⟨4, 0, 0⟩ ⟨4, 1, 0⟩ [] 0 rfl (by decide) 2 0 1 ⟨0, 0, 0⟩ nm_2 b1 (some ⟨p0, 0, none⟩) 1 none 0 _ RE_10.out RX_10.out Rd.nil).mono ?_
  rintro e w11 ⟨A2, c2, I2, d2, rfl, hb⟩
  have RE_11 := Lib.hid ((RE_10.out.below hb).more hb.size)
  have RX_11 := Lib.hid ((RX_10.out.below hb).more hb.size)
  have XA_11 := Lib.hid (XA_10.out.next hb)
  have B_11 := Lib.hid (B_10.out.trans (hb.mono B_10.out.size))
  clear RE_10 RX_10 XA_10 B_10
  clear hb
  dsimp only
  go_wp2_with fail
  have hb : Below w11.heap.size w11 (w11.alloc (.cells #[.int .i64 2, .slice A2 0 c2, .slice I2 1 d2, .int .i64 0, .int .i32 0, .int .i32 0] 53)) := (Below.refl _ _).alloc (Nat.le_refl _) _
  have RE_12 := Lib.hid ((RE_11.out.below hb).more hb.size)
  have RX_12 := Lib.hid ((RX_11.out.below hb).more hb.size)
  have XA_12 := Lib.hid (XA_11.out.next hb)
  have B_12 := Lib.hid (B_11.out.trans (hb.mono B_11.out.size))
  have XB_12 : Hid (BxV (w11.alloc (.cells #[.int .i64 2, .slice A2 0 c2, .slice I2 1 d2, .int .i64 0, .int .i32 0, .int .i32 0] 53)) w11.heap.size _) := Lib.hid (BxV.new w11 #[.int .i64 2, .slice A2 0 c2, .slice I2 1 d2, .int .i64 0, .int .i32 0, .int .i32 0] 53)
  clear hb RE_11 RX_11 XA_11 B_11
  generalize hw : w11.alloc (.cells #[.int .i64 2, .slice A2 0 c2, .slice I2 1 d2, .int .i64 0, .int .i32 0, .int .i32 0] 53) = w12 at *
  generalize w11.heap.size = p2 at *
  clear hw
  go_wp2_with fail
  refine (st24_any 1 0 0 _).mono ?_
  rintro e w13 ⟨rfl, hb⟩
  have RE_13 := Lib.hid ((RE_12.out.below hb).more hb.size)
  have RX_13 := Lib.hid ((RX_12.out.below hb).more hb.size)
  have XA_13 := Lib.hid (XA_12.out.next hb)
  have XB_13 := Lib.hid (XB_12.out.next hb)
  have B_13 := Lib.hid (B_12.out.trans (hb.mono B_12.out.size))
  clear RE_12 RX_12 XA_12 XB_12 B_12
  clear hb
  go_wp2_with fail
  refine (st24_any 1 0 0 _).mono ?_
  rintro e w14 ⟨rfl, hb⟩
  have RE_14 := Lib.hid ((RE_13.out.below hb).more hb.size)
  have RX_14 := Lib.hid ((RX_13.out.below hb).more hb.size)
  have XA_14 := Lib.hid (XA_13.out.next hb)
  have XB_14 := Lib.hid (XB_13.out.next hb)
  have B_14 := Lib.hid (B_13.out.trans (hb.mono B_13.out.size))
  clear RE_13 RX_13 XA_13 XB_13 B_13
  clear hb
  go_wp2_with fail
  refine (scan_nm [] 0 rfl (by decide) ⟨1, 0, 0⟩ ⟨1, 0, 0⟩ [] 0 rfl (by decide) 1 0 0 ⟨0, 0, 0⟩ nm_3 b1 none 0 none 0 _ RE_14.out Rd.nil Rd.nil).mono ?_
  rintro e w15 ⟨A3, c3, I3, d3, rfl, hb⟩
  have RE_15 := Lib.hid ((RE_14.out.below hb).more hb.size)
  have RX_15 := Lib.hid ((RX_14.out.below hb).more hb.size)
  have XA_15 := Lib.hid (XA_14.out.next hb)
  have XB_15 := Lib.hid (XB_14.out.next hb)
  have B_15 := Lib.hid (B_14.out.trans (hb.mono B_14.out.size))
  clear RE_14 RX_14 XA_14 XB_14 B_14
  clear hb
  dsimp only
  go_wp2_with fail
  have hb : Below w15.heap.size w15 (w15.alloc (.cells #[.int .i64 1, .slice A3 0 c3, .slice I3 0 d3, .int .i64 0, .int .i32 0, .int .i32 0] 53)) := (Below.refl _ _).alloc (Nat.le_refl _) _
  have RE_16 := Lib.hid ((RE_15.out.below hb).more hb.size)
  have RX_16 := Lib.hid ((RX_15.out.below hb).more hb.size)
  have XA_16 := Lib.hid (XA_15.out.next hb)
  have XB_16 := Lib.hid (XB_15.out.next hb)
  have B_16 := Lib.hid (B_15.out.trans (hb.mono B_15.out.size))
  have XC_16 : Hid (BxV (w15.alloc (.cells #[.int .i64 1, .slice A3 0 c3, .slice I3 0 d3, .int .i64 0, .int .i32 0, .int .i32 0] 53)) w15.heap.size _) := Lib.hid (BxV.new w15 #[.int .i64 1, .slice A3 0 c3, .slice I3 0 d3, .int .i64 0, .int .i32 0, .int .i32 0] 53)
  clear hb RE_15 RX_15 XA_15 XB_15 B_15
  generalize hw : w15.alloc (.cells #[.int .i64 1, .slice A3 0 c3, .slice I3 0 d3, .int .i64 0, .int .i32 0, .int .i32 0] 53) = w16 at *
  generalize w15.heap.size = p3 at *
  clear hw
  go_wp2_with fail
  refine (st24_any 4 0 0 _).mono ?_
  rintro e w17 ⟨rfl, hb⟩
  have RE_17 := Lib.hid ((RE_16.out.below hb).more hb.size)
  have RX_17 := Lib.hid ((RX_16.out.below hb).more hb.size)
  have XA_17 := Lib.hid (XA_16.out.next hb)
  have XB_17 := Lib.hid (XB_16.out.next hb)
  have XC_17 := Lib.hid (XC_16.out.next hb)
  have B_17 := Lib.hid (B_16.out.trans (hb.mono B_16.out.size))
  clear RE_16 RX_16 XA_16 XB_16 XC_16 B_16
  clear hb
  go_wp2_with fail
  refine (st24_any 4 1 0 _).mono ?_
  rintro e w18 ⟨rfl, hb⟩
  have RE_18 := Lib.hid ((RE_17.out.below hb).more hb.size)
  have RX_18 := Lib.hid ((RX_17.out.below hb).more hb.size)
  have XA_18 := Lib.hid (XA_17.out.next hb)
  have XB_18 := Lib.hid (XB_17.out.next hb)
  have XC_18 := Lib.hid (XC_17.out.next hb)
  have B_18 := Lib.hid (B_17.out.trans (hb.mono B_17.out.size))
  clear RE_17 RX_17 XA_17 XB_17 XC_17 B_17
  clear hb
  go_wp2_with fail
  have hb : Below w18.heap.size w18 (w18.alloc (.cells #[.int .i32 1, .int .i32 2] 27)) := (Below.refl _ _).alloc (Nat.le_refl _) _
  have RE_19 := Lib.hid ((RE_18.out.below hb).more hb.size)
  have RX_19 := Lib.hid ((RX_18.out.below hb).more hb.size)
  have XA_19 := Lib.hid (XA_18.out.next hb)
  have XB_19 := Lib.hid (XB_18.out.next hb)
  have XC_19 := Lib.hid (XC_18.out.next hb)
  have B_19 := Lib.hid (B_18.out.trans (hb.mono B_18.out.size))
  have RK_19 : Hid (Rd (w18.alloc (.cells #[.int .i32 1, .int .i32 2] 27)) (w18.alloc (.cells #[.int .i32 1, .int .i32 2] 27)).heap.size (some ⟨w18.heap.size, 0, none⟩) (txv [(1, 2)])) := Lib.hid (rd_frC w18 #[.int .i32 1, .int .i32 2] 27 (0, 0))
  clear hb RE_18 RX_18 XA_18 XB_18 XC_18 B_18
  generalize hw : w18.alloc (.cells #[.int .i32 1, .int .i32 2] 27) = w19 at *
  generalize w18.heap.size = pk at *
  clear hw
  go_wp2_with fail
  refine (scan_nm xsL 1 rfl (by decide) ⟨4, 0, 0⟩ ⟨4, 1, 0⟩ [(1, 2)] 1 rfl (by decide) 1 1 0 ⟨0, 0, 0⟩ nm_4 b1 (some ⟨p0, 0, none⟩) 1 (some ⟨pk, 0, none⟩) 1 _ RE_19.out RX_19.out RK_19.out).mono ?_
  rintro e w20 ⟨A4, c4, I4, d4, rfl, hb⟩
  have RE_20 := Lib.hid ((RE_19.out.below hb).more hb.size)
  have RX_20 := Lib.hid ((RX_19.out.below hb).more hb.size)
  have XA_20 := Lib.hid (XA_19.out.next hb)
  have XB_20 := Lib.hid (XB_19.out.next hb)
  have XC_20 := Lib.hid (XC_19.out.next hb)
  have RK_20 := Lib.hid ((RK_19.out.below hb).more hb.size)
  have B_20 := Lib.hid (B_19.out.trans (hb.mono B_19.out.size))
  clear RE_19 RX_19 XA_19 XB_19 XC_19 RK_19 B_19
  clear hb
  dsimp only
  have rXA0 := XA_20.out.c 0 _ rfl
  have zXA := XA_20.out.lt
  have rXB0 := XB_20.out.c 0 _ rfl
  have rXB2 := XB_20.out.c 2 _ rfl
  have zXB := XB_20.out.lt
  have rXC0 := XC_20.out.c 0 _ rfl
  have rXC1 := XC_20.out.c 1 _ rfl
  have zXC := XC_20.out.lt
  go_wp2_with fail
  clear rXA0 zXA rXB0 rXB2 zXB rXC0 rXC1 zXC
  have hb : Below w20.heap.size w20 (w20.alloc (.cells #[.int .i64 1, .slice A4 1 c4, .slice I4 0 d4, .int .i64 0, .int .i32 0, .int .i32 0] 53)) := (Below.refl _ _).alloc (Nat.le_refl _) _
  have RE_21 := Lib.hid ((RE_20.out.below hb).more hb.size)
  have RX_21 := Lib.hid ((RX_20.out.below hb).more hb.size)
  have XA_21 := Lib.hid (XA_20.out.next hb)
  have XB_21 := Lib.hid (XB_20.out.next hb)
  have XC_21 := Lib.hid (XC_20.out.next hb)
  have RK_21 := Lib.hid ((RK_20.out.below hb).more hb.size)
  have B_21 := Lib.hid (B_20.out.trans (hb.mono B_20.out.size))
  have XD_21 : Hid (BxV (w20.alloc (.cells #[.int .i64 1, .slice A4 1 c4, .slice I4 0 d4, .int .i64 0, .int .i32 0, .int .i32 0] 53)) w20.heap.size _) := Lib.hid (BxV.new w20 #[.int .i64 1, .slice A4 1 c4, .slice I4 0 d4, .int .i64 0, .int .i32 0, .int .i32 0] 53)
  clear hb RE_20 RX_20 XA_20 XB_20 XC_20 RK_20 B_20
  generalize hw : w20.alloc (.cells #[.int .i64 1, .slice A4 1 c4, .slice I4 0 d4, .int .i64 0, .int .i32 0, .int .i32 0] 53) = w21 at *
  generalize w20.heap.size = p4 at *
  clear hw
  go_wp2_with fail
  refine (st24_any 6 0 17 _).mono ?_
  rintro e w22 ⟨rfl, hb⟩
  have RE_22 := Lib.hid ((RE_21.out.below hb).more hb.size)
  have RX_22 := Lib.hid ((RX_21.out.below hb).more hb.size)
  have XA_22 := Lib.hid (XA_21.out.next hb)
  have XB_22 := Lib.hid (XB_21.out.next hb)
  have XC_22 := Lib.hid (XC_21.out.next hb)
  have RK_22 := Lib.hid ((RK_21.out.below hb).more hb.size)
  have XD_22 := Lib.hid (XD_21.out.next hb)
  have B_22 := Lib.hid (B_21.out.trans (hb.mono B_21.out.size))
  clear RE_21 RX_21 XA_21 XB_21 XC_21 RK_21 XD_21 B_21
  clear hb
  go_wp2_with fail
  refine (laid_any ⟨#[97]⟩ ⟨6, 0, 17⟩ _).mono ?_
  rintro e w23 ⟨rfl, hb⟩
  have RE_23 := Lib.hid ((RE_22.out.below hb).more hb.size)
  have RX_23 := Lib.hid ((RX_22.out.below hb).more hb.size)
  have XA_23 := Lib.hid (XA_22.out.next hb)
  have XB_23 := Lib.hid (XB_22.out.next hb)
  have XC_23 := Lib.hid (XC_22.out.next hb)
  have RK_23 := Lib.hid ((RK_22.out.below hb).more hb.size)
  have XD_23 := Lib.hid (XD_22.out.next hb)
  have B_23 := Lib.hid (B_22.out.trans (hb.mono B_22.out.size))
  clear RE_22 RX_22 XA_22 XB_22 XC_22 RK_22 XD_22 B_22
  clear hb
  unfold Itt.v laidI zeroS zE
  dsimp only
  go_wp2_with fail
  refine (st24_any 1 0 0 _).mono ?_
  rintro e w24 ⟨rfl, hb⟩
  have RE_24 := Lib.hid ((RE_23.out.below hb).more hb.size)
  have RX_24 := Lib.hid ((RX_23.out.below hb).more hb.size)
  have XA_24 := Lib.hid (XA_23.out.next hb)
  have XB_24 := Lib.hid (XB_23.out.next hb)
  have XC_24 := Lib.hid (XC_23.out.next hb)
  have RK_24 := Lib.hid ((RK_23.out.below hb).more hb.size)
  have XD_24 := Lib.hid (XD_23.out.next hb)
  have B_24 := Lib.hid (B_23.out.trans (hb.mono B_23.out.size))
  clear RE_23 RX_23 XA_23 XB_23 XC_23 RK_23 XD_23 B_23
  clear hb
  go_wp2_with fail
  refine (wr_nm (laidI ⟨#[97]⟩ ⟨6, 0, 17⟩) ⟨1, 0, 0⟩ ⟨6, 0, 17⟩ nm_5 b1 _ RE_24.out).mono ?_
  rintro e w25 ⟨rfl, hb⟩
  have RE_25 := Lib.hid ((RE_24.out.below hb).more hb.size)
  have RX_25 := Lib.hid ((RX_24.out.below hb).more hb.size)
  have XA_25 := Lib.hid (XA_24.out.next hb)
  have XB_25 := Lib.hid (XB_24.out.next hb)
  have XC_25 := Lib.hid (XC_24.out.next hb)
  have RK_25 := Lib.hid ((RK_24.out.below hb).more hb.size)
  have XD_25 := Lib.hid (XD_24.out.next hb)
  have B_25 := Lib.hid (B_24.out.trans (hb.mono B_24.out.size))
  clear RE_24 RX_24 XA_24 XB_24 XC_24 RK_24 XD_24 B_24
  clear hb
  dsimp only
  go_wp2_with fail
  have hb : Below w25.heap.size w25 (w25.alloc (.cells #[.int .i64 6, .int .i32 0, .int .i32 17] 25)) := (Below.refl _ _).alloc (Nat.le_refl _) _
  have RE_26 := Lib.hid ((RE_25.out.below hb).more hb.size)
  have RX_26 := Lib.hid ((RX_25.out.below hb).more hb.size)
  have XA_26 := Lib.hid (XA_25.out.next hb)
  have XB_26 := Lib.hid (XB_25.out.next hb)
  have XC_26 := Lib.hid (XC_25.out.next hb)
  have RK_26 := Lib.hid ((RK_25.out.below hb).more hb.size)
  have XD_26 := Lib.hid (XD_25.out.next hb)
  have B_26 := Lib.hid (B_25.out.trans (hb.mono B_25.out.size))
  have XE_26 : Hid (BxV (w25.alloc (.cells #[.int .i64 6, .int .i32 0, .int .i32 17] 25)) w25.heap.size _) := Lib.hid (BxV.new w25 #[.int .i64 6, .int .i32 0, .int .i32 17] 25)
  clear hb RE_25 RX_25 XA_25 XB_25 XC_25 RK_25 XD_25 B_25
  generalize hw : w25.alloc (.cells #[.int .i64 6, .int .i32 0, .int .i32 17] 25) = w26 at *
  generalize w25.heap.size = p5 at *
  clear hw
  go_wp2_with fail
  refine (st24_any 4 0 17 _).mono ?_
  rintro e w27 ⟨rfl, hb⟩
  have RE_27 := Lib.hid ((RE_26.out.below hb).more hb.size)
  have RX_27 := Lib.hid ((RX_26.out.below hb).more hb.size)
  have XA_27 := Lib.hid (XA_26.out.next hb)
  have XB_27 := Lib.hid (XB_26.out.next hb)
  have XC_27 := Lib.hid (XC_26.out.next hb)
  have RK_27 := Lib.hid ((RK_26.out.below hb).more hb.size)
  have XD_27 := Lib.hid (XD_26.out.next hb)
  have XE_27 := Lib.hid (XE_26.out.next hb)
  have B_27 := Lib.hid (B_26.out.trans (hb.mono B_26.out.size))
  clear RE_26 RX_26 XA_26 XB_26 XC_26 RK_26 XD_26 XE_26 B_26
  clear hb
  go_wp2_with fail
  refine (laid_any ⟨#[97]⟩ ⟨4, 0, 17⟩ _).mono ?_
  rintro e w28 ⟨rfl, hb⟩
  have RE_28 := Lib.hid ((RE_27.out.below hb).more hb.size)
  have RX_28 := Lib.hid ((RX_27.out.below hb).more hb.size)
  have XA_28 := Lib.hid (XA_27.out.next hb)
  have XB_28 := Lib.hid (XB_27.out.next hb)
  have XC_28 := Lib.hid (XC_27.out.next hb)
  have RK_28 := Lib.hid ((RK_27.out.below hb).more hb.size)
  have XD_28 := Lib.hid (XD_27.out.next hb)
  have XE_28 := Lib.hid (XE_27.out.next hb)
  have B_28 := Lib.hid (B_27.out.trans (hb.mono B_27.out.size))
  clear RE_27 RX_27 XA_27 XB_27 XC_27 RK_27 XD_27 XE_27 B_27
  clear hb
  unfold Itt.v laidI zeroS zE
  dsimp only
  go_wp2_with fail
  refine (st24_any 7 0 20 _).mono ?_
  rintro e w29 ⟨rfl, hb⟩
  have RE_29 := Lib.hid ((RE_28.out.below hb).more hb.size)
  have RX_29 := Lib.hid ((RX_28.out.below hb).more hb.size)
  have XA_29 := Lib.hid (XA_28.out.next hb)
  have XB_29 := Lib.hid (XB_28.out.next hb)
  have XC_29 := Lib.hid (XC_28.out.next hb)
  have RK_29 := Lib.hid ((RK_28.out.below hb).more hb.size)
  have XD_29 := Lib.hid (XD_28.out.next hb)
  have XE_29 := Lib.hid (XE_28.out.next hb)
  have B_29 := Lib.hid (B_28.out.trans (hb.mono B_28.out.size))
  clear RE_28 RX_28 XA_28 XB_28 XC_28 RK_28 XD_28 XE_28 B_28
  clear hb
  go_wp2_with fail
  refine (wr_nm (laidI ⟨#[97]⟩ ⟨4, 0, 17⟩) ⟨7, 0, 20⟩ ⟨7, 1, 17⟩ nm_6 b1 _ RE_29.out).mono ?_
  rintro e w30 ⟨rfl, hb⟩
  have RE_30 := Lib.hid ((RE_29.out.below hb).more hb.size)
  have RX_30 := Lib.hid ((RX_29.out.below hb).more hb.size)
  have XA_30 := Lib.hid (XA_29.out.next hb)
  have XB_30 := Lib.hid (XB_29.out.next hb)
  have XC_30 := Lib.hid (XC_29.out.next hb)
  have RK_30 := Lib.hid ((RK_29.out.below hb).more hb.size)
  have XD_30 := Lib.hid (XD_29.out.next hb)
  have XE_30 := Lib.hid (XE_29.out.next hb)
  have B_30 := Lib.hid (B_29.out.trans (hb.mono B_29.out.size))
  clear RE_29 RX_29 XA_29 XB_29 XC_29 RK_29 XD_29 XE_29 B_29
  clear hb
  dsimp only
  go_wp2_with fail
  have hb : Below w30.heap.size w30 (w30.alloc (.cells #[.int .i64 7, .int .i32 1, .int .i32 17] 25)) := (Below.refl _ _).alloc (Nat.le_refl _) _
  have RE_31 := Lib.hid ((RE_30.out.below hb).more hb.size)
  have RX_31 := Lib.hid ((RX_30.out.below hb).more hb.size)
  have XA_31 := Lib.hid (XA_30.out.next hb)
  have XB_31 := Lib.hid (XB_30.out.next hb)
  have XC_31 := Lib.hid (XC_30.out.next hb)
  have RK_31 := Lib.hid ((RK_30.out.below hb).more hb.size)
  have XD_31 := Lib.hid (XD_30.out.next hb)
  have XE_31 := Lib.hid (XE_30.out.next hb)
  have B_31 := Lib.hid (B_30.out.trans (hb.mono B_30.out.size))
  have XF_31 : Hid (BxV (w30.alloc (.cells #[.int .i64 7, .int .i32 1, .int .i32 17] 25)) w30.heap.size _) := Lib.hid (BxV.new w30 #[.int .i64 7, .int .i32 1, .int .i32 17] 25)
  clear hb RE_30 RX_30 XA_30 XB_30 XC_30 RK_30 XD_30 XE_30 B_30
  generalize hw : w30.alloc (.cells #[.int .i64 7, .int .i32 1, .int .i32 17] 25) = w31 at *
  generalize w30.heap.size = p6 at *
  clear hw
  go_wp2_with fail
  refine (st24_any 3 1 0 _).mono ?_
  rintro e w32 ⟨rfl, hb⟩
  have RE_32 := Lib.hid ((RE_31.out.below hb).more hb.size)
  have RX_32 := Lib.hid ((RX_31.out.below hb).more hb.size)
  have XA_32 := Lib.hid (XA_31.out.next hb)
  have XB_32 := Lib.hid (XB_31.out.next hb)
  have XC_32 := Lib.hid (XC_31.out.next hb)
  have RK_32 := Lib.hid ((RK_31.out.below hb).more hb.size)
  have XD_32 := Lib.hid (XD_31.out.next hb)
  have XE_32 := Lib.hid (XE_31.out.next hb)
  have XF_32 := Lib.hid (XF_31.out.next hb)
  have B_32 := Lib.hid (B_31.out.trans (hb.mono B_31.out.size))
  clear RE_31 RX_31 XA_31 XB_31 XC_31 RK_31 XD_31 XE_31 XF_31 B_31
  clear hb
  go_wp2_with fail
  refine (st24_any 4 0 0 _).mono ?_
  rintro e w33 ⟨rfl, hb⟩
  have RE_33 := Lib.hid ((RE_32.out.below hb).more hb.size)
  have RX_33 := Lib.hid ((RX_32.out.below hb).more hb.size)
  have XA_33 := Lib.hid (XA_32.out.next hb)
  have XB_33 := Lib.hid (XB_32.out.next hb)
  have XC_33 := Lib.hid (XC_32.out.next hb)
  have RK_33 := Lib.hid ((RK_32.out.below hb).more hb.size)
  have XD_33 := Lib.hid (XD_32.out.next hb)
  have XE_33 := Lib.hid (XE_32.out.next hb)
  have XF_33 := Lib.hid (XF_32.out.next hb)
  have B_33 := Lib.hid (B_32.out.trans (hb.mono B_32.out.size))
  clear RE_32 RX_32 XA_32 XB_32 XC_32 RK_32 XD_32 XE_32 XF_32 B_32
  clear hb
  go_wp2_with fail
  refine (ref_nm ⟨3, 1, 0⟩ ⟨4, 0, 0⟩ true nm_7 b1 _ RE_33.out).mono ?_
  rintro e w34 ⟨rfl, hb⟩
  have RE_34 := Lib.hid ((RE_33.out.below hb).more hb.size)
  have RX_34 := Lib.hid ((RX_33.out.below hb).more hb.size)
  have XA_34 := Lib.hid (XA_33.out.next hb)
  have XB_34 := Lib.hid (XB_33.out.next hb)
  have XC_34 := Lib.hid (XC_33.out.next hb)
  have RK_34 := Lib.hid ((RK_33.out.below hb).more hb.size)
  have XD_34 := Lib.hid (XD_33.out.next hb)
  have XE_34 := Lib.hid (XE_33.out.next hb)
  have XF_34 := Lib.hid (XF_33.out.next hb)
  have B_34 := Lib.hid (B_33.out.trans (hb.mono B_33.out.size))
  clear RE_33 RX_33 XA_33 XB_33 XC_33 RK_33 XD_33 XE_33 XF_33 B_33
  clear hb
  go_wp2_with fail
  refine (st24_any 3 1 0 _).mono ?_
  rintro e w35 ⟨rfl, hb⟩
  have RE_35 := Lib.hid ((RE_34.out.below hb).more hb.size)
  have RX_35 := Lib.hid ((RX_34.out.below hb).more hb.size)
  have XA_35 := Lib.hid (XA_34.out.next hb)
  have XB_35 := Lib.hid (XB_34.out.next hb)
  have XC_35 := Lib.hid (XC_34.out.next hb)
  have RK_35 := Lib.hid ((RK_34.out.below hb).more hb.size)
  have XD_35 := Lib.hid (XD_34.out.next hb)
  have XE_35 := Lib.hid (XE_34.out.next hb)
  have XF_35 := Lib.hid (XF_34.out.next hb)
  have B_35 := Lib.hid (B_34.out.trans (hb.mono B_34.out.size))
  clear RE_34 RX_34 XA_34 XB_34 XC_34 RK_34 XD_34 XE_34 XF_34 B_34
  clear hb
  go_wp2_with fail
  refine (st24_any 5 1 0 _).mono ?_
  rintro e w36 ⟨rfl, hb⟩
  have RE_36 := Lib.hid ((RE_35.out.below hb).more hb.size)
  have RX_36 := Lib.hid ((RX_35.out.below hb).more hb.size)
  have XA_36 := Lib.hid (XA_35.out.next hb)
  have XB_36 := Lib.hid (XB_35.out.next hb)
  have XC_36 := Lib.hid (XC_35.out.next hb)
  have RK_36 := Lib.hid ((RK_35.out.below hb).more hb.size)
  have XD_36 := Lib.hid (XD_35.out.next hb)
  have XE_36 := Lib.hid (XE_35.out.next hb)
  have XF_36 := Lib.hid (XF_35.out.next hb)
  have B_36 := Lib.hid (B_35.out.trans (hb.mono B_35.out.size))
  clear RE_35 RX_35 XA_35 XB_35 XC_35 RK_35 XD_35 XE_35 XF_35 B_35
  clear hb
  go_wp2_with fail
  refine (ref_nm ⟨3, 1, 0⟩ ⟨5, 1, 0⟩ false nm_8 b1 _ RE_36.out).mono ?_
  rintro e w37 ⟨rfl, hb⟩
  have RE_37 := Lib.hid ((RE_36.out.below hb).more hb.size)
  have RX_37 := Lib.hid ((RX_36.out.below hb).more hb.size)
  have XA_37 := Lib.hid (XA_36.out.next hb)
  have XB_37 := Lib.hid (XB_36.out.next hb)
  have XC_37 := Lib.hid (XC_36.out.next hb)
  have RK_37 := Lib.hid ((RK_36.out.below hb).more hb.size)
  have XD_37 := Lib.hid (XD_36.out.next hb)
  have XE_37 := Lib.hid (XE_36.out.next hb)
  have XF_37 := Lib.hid (XF_36.out.next hb)
  have B_37 := Lib.hid (B_36.out.trans (hb.mono B_36.out.size))
  clear RE_36 RX_36 XA_36 XB_36 XC_36 RK_36 XD_36 XE_36 XF_36 B_36
  clear hb
  have rXE0 := XE_37.out.c 0 _ rfl
  have rXE1 := XE_37.out.c 1 _ rfl
  have rXE2 := XE_37.out.c 2 _ rfl
  have zXE := XE_37.out.lt
  have rXF0 := XF_37.out.c 0 _ rfl
  have rXF1 := XF_37.out.c 1 _ rfl
  have rXF2 := XF_37.out.c 2 _ rfl
  have zXF := XF_37.out.lt
  go_wp2_with fail
  refine wp_qall (by kernel_rfl) (by kernel_rfl) ?_
  intro hcg
  repeat (first | go_big_quiet_step ((with_reducible (first | exact Calls.reg (st24_any 6 0 17 _) | exact Calls.reg (st24_any 7 1 17 _)))) | quiet_step ((with_reducible (first | exact Calls.reg (st24_any 6 0 17 _) | exact Calls.reg (st24_any 7 1 17 _)))))
  refine wpQuiet_nil ?_
  intro wq hbwq hcwq hfwq
  clear hcg
  have hb := hbwq
  have RE_38 := Lib.hid ((RE_37.out.below hb).more hb.size)
  have RX_38 := Lib.hid ((RX_37.out.below hb).more hb.size)
  have XA_38 := Lib.hid (XA_37.out.next hb)
  have XB_38 := Lib.hid (XB_37.out.next hb)
  have XC_38 := Lib.hid (XC_37.out.next hb)
  have RK_38 := Lib.hid ((RK_37.out.below hb).more hb.size)
  have XD_38 := Lib.hid (XD_37.out.next hb)
  have XE_38 := Lib.hid (XE_37.out.next hb)
  have XF_38 := Lib.hid (XF_37.out.next hb)
  have B_38 := Lib.hid (B_37.out.trans (hb.mono B_37.out.size))
  clear RE_37 RX_37 XA_37 XB_37 XC_37 RK_37 XD_37 XE_37 XF_37 B_37
  clear hb hbwq hcwq hfwq rXE0 rXE1 rXE2 rXF0 rXF1 rXF2 zXE zXF
  go_wp2_with fail
  refine (st24_any 4 0 0 _).mono ?_
  rintro e w39 ⟨rfl, hb⟩
  have RE_39 := Lib.hid ((RE_38.out.below hb).more hb.size)
  have RX_39 := Lib.hid ((RX_38.out.below hb).more hb.size)
  have XA_39 := Lib.hid (XA_38.out.next hb)
  have XB_39 := Lib.hid (XB_38.out.next hb)
  have XC_39 := Lib.hid (XC_38.out.next hb)
  have RK_39 := Lib.hid ((RK_38.out.below hb).more hb.size)
  have XD_39 := Lib.hid (XD_38.out.next hb)
  have XE_39 := Lib.hid (XE_38.out.next hb)
  have XF_39 := Lib.hid (XF_38.out.next hb)
  have B_39 := Lib.hid (B_38.out.trans (hb.mono B_38.out.size))
  clear RE_38 RX_38 XA_38 XB_38 XC_38 RK_38 XD_38 XE_38 XF_38 B_38
  clear hb
  go_wp2_with fail
  refine (gone_nm ⟨4, 0, 0⟩ (exL.drop 2) 1 rfl nm_9 b1 _ RE_39.out).mono ?_
  rintro e w40 ⟨G1, e1, rfl, r1, hb⟩
  have RE_40 := Lib.hid ((RE_39.out.below hb).more hb.size)
  have RX_40 := Lib.hid ((RX_39.out.below hb).more hb.size)
  have XA_40 := Lib.hid (XA_39.out.next hb)
  have XB_40 := Lib.hid (XB_39.out.next hb)
  have XC_40 := Lib.hid (XC_39.out.next hb)
  have RK_40 := Lib.hid ((RK_39.out.below hb).more hb.size)
  have XD_40 := Lib.hid (XD_39.out.next hb)
  have XE_40 := Lib.hid (XE_39.out.next hb)
  have XF_40 := Lib.hid (XF_39.out.next hb)
  have B_40 := Lib.hid (B_39.out.trans (hb.mono B_39.out.size))
  clear RE_39 RX_39 XA_39 XB_39 XC_39 RK_39 XD_39 XE_39 XF_39 B_39
  have RG_40 := Lib.hid r1
  clear r1
  clear hb
  go_wp2_with fail
  refine (st24_any 5 0 8 _).mono ?_
  rintro e w41 ⟨rfl, hb⟩
  have RE_41 := Lib.hid ((RE_40.out.below hb).more hb.size)
  have RX_41 := Lib.hid ((RX_40.out.below hb).more hb.size)
  have XA_41 := Lib.hid (XA_40.out.next hb)
  have XB_41 := Lib.hid (XB_40.out.next hb)
  have XC_41 := Lib.hid (XC_40.out.next hb)
  have RK_41 := Lib.hid ((RK_40.out.below hb).more hb.size)
  have XD_41 := Lib.hid (XD_40.out.next hb)
  have XE_41 := Lib.hid (XE_40.out.next hb)
  have XF_41 := Lib.hid (XF_40.out.next hb)
  have RG_41 := Lib.hid ((RG_40.out.below hb).more hb.size)
  have B_41 := Lib.hid (B_40.out.trans (hb.mono B_40.out.size))
  clear RE_40 RX_40 XA_40 XB_40 XC_40 RK_40 XD_40 XE_40 XF_40 RG_40 B_40
  clear hb
  go_wp2_with fail
  refine (gone_nm ⟨5, 0, 8⟩ (exL.drop 1) 2 rfl nm_10 b1 _ RE_41.out).mono ?_
  rintro e w42 ⟨G2, e2, rfl, r1, hb⟩
  have RE_42 := Lib.hid ((RE_41.out.below hb).more hb.size)
  have RX_42 := Lib.hid ((RX_41.out.below hb).more hb.size)
  have XA_42 := Lib.hid (XA_41.out.next hb)
  have XB_42 := Lib.hid (XB_41.out.next hb)
  have XC_42 := Lib.hid (XC_41.out.next hb)
  have RK_42 := Lib.hid ((RK_41.out.below hb).more hb.size)
  have XD_42 := Lib.hid (XD_41.out.next hb)
  have XE_42 := Lib.hid (XE_41.out.next hb)
  have XF_42 := Lib.hid (XF_41.out.next hb)
  have RG_42 := Lib.hid ((RG_41.out.below hb).more hb.size)
  have B_42 := Lib.hid (B_41.out.trans (hb.mono B_41.out.size))
  clear RE_41 RX_41 XA_41 XB_41 XC_41 RK_41 XD_41 XE_41 XF_41 RG_41 B_41
  have RH_42 := Lib.hid r1
  clear r1
  clear hb
  go_wp2_with fail
  refine (lives24_any _).mono ?_
  rintro e w43 ⟨rfl, hb⟩
  have RE_43 := Lib.hid ((RE_42.out.below hb).more hb.size)
  have RX_43 := Lib.hid ((RX_42.out.below hb).more hb.size)
  have XA_43 := Lib.hid (XA_42.out.next hb)
  have XB_43 := Lib.hid (XB_42.out.next hb)
  have XC_43 := Lib.hid (XC_42.out.next hb)
  have RK_43 := Lib.hid ((RK_42.out.below hb).more hb.size)
  have XD_43 := Lib.hid (XD_42.out.next hb)
  have XE_43 := Lib.hid (XE_42.out.next hb)
  have XF_43 := Lib.hid (XF_42.out.next hb)
  have RG_43 := Lib.hid ((RG_42.out.below hb).more hb.size)
  have RH_43 := Lib.hid ((RH_42.out.below hb).more hb.size)
  have B_43 := Lib.hid (B_42.out.trans (hb.mono B_42.out.size))
  clear RE_42 RX_42 XA_42 XB_42 XC_42 RK_42 XD_42 XE_42 XF_42 RG_42 RH_42 B_42
  clear hb
  have D2 : Rd w43 w43.heap.size (some ⟨b1, 12, none⟩) (cev (exL.drop 2)) := by
    have h := RE_43.out.drop 12 (cap := 18) (by decide)
    simpa [Addr.add, cev, exL, Cel.c] using h
  have D1 : Rd w43 w43.heap.size (some ⟨b1, 6, none⟩) (cev (exL.drop 1)) := by
    have h := RE_43.out.drop 6 (cap := 18) (by decide)
    simpa [Addr.add, cev, exL, Cel.c] using h
  have D1H := Lib.hid D1
  have D2H := Lib.hid D2
  clear D1 D2
  have D1X_43 := D1H
  have D2X_43 := D2H
  clear D1H D2H
  go_wp2_with fail
  refine (cellsq_yes G1 1 e1 (some ⟨b1, 12, none⟩) 1 (exL.drop 2) rfl (by decide) _ _ RG_43.out D2X_43.out (Nat.le_refl _)).mono ?_
  rintro e w44 ⟨rfl, hb⟩
  have RE_44 := Lib.hid ((RE_43.out.below hb).more hb.size)
  have RX_44 := Lib.hid ((RX_43.out.below hb).more hb.size)
  have XA_44 := Lib.hid (XA_43.out.next hb)
  have XB_44 := Lib.hid (XB_43.out.next hb)
  have XC_44 := Lib.hid (XC_43.out.next hb)
  have RK_44 := Lib.hid ((RK_43.out.below hb).more hb.size)
  have XD_44 := Lib.hid (XD_43.out.next hb)
  have XE_44 := Lib.hid (XE_43.out.next hb)
  have XF_44 := Lib.hid (XF_43.out.next hb)
  have RG_44 := Lib.hid ((RG_43.out.below hb).more hb.size)
  have RH_44 := Lib.hid ((RH_43.out.below hb).more hb.size)
  have D1X_44 := Lib.hid ((D1X_43.out.below hb).more hb.size)
  have D2X_44 := Lib.hid ((D2X_43.out.below hb).more hb.size)
  have B_44 := Lib.hid (B_43.out.trans (hb.mono B_43.out.size))
  clear RE_43 RX_43 XA_43 XB_43 XC_43 RK_43 XD_43 XE_43 XF_43 RG_43 RH_43 D1X_43 D2X_43 B_43
  clear hb
  go_wp2_with fail
  refine (cellsq_yes G2 2 e2 (some ⟨b1, 6, none⟩) 2 (exL.drop 1) rfl (by decide) _ _ RH_44.out D1X_44.out (Nat.le_refl _)).mono ?_
  rintro e w45 ⟨rfl, hb⟩
  have RE_45 := Lib.hid ((RE_44.out.below hb).more hb.size)
  have RX_45 := Lib.hid ((RX_44.out.below hb).more hb.size)
  have XA_45 := Lib.hid (XA_44.out.next hb)
  have XB_45 := Lib.hid (XB_44.out.next hb)
  have XC_45 := Lib.hid (XC_44.out.next hb)
  have RK_45 := Lib.hid ((RK_44.out.below hb).more hb.size)
  have XD_45 := Lib.hid (XD_44.out.next hb)
  have XE_45 := Lib.hid (XE_44.out.next hb)
  have XF_45 := Lib.hid (XF_44.out.next hb)
  have RG_45 := Lib.hid ((RG_44.out.below hb).more hb.size)
  have RH_45 := Lib.hid ((RH_44.out.below hb).more hb.size)
  have D1X_45 := Lib.hid ((D1X_44.out.below hb).more hb.size)
  have D2X_45 := Lib.hid ((D2X_44.out.below hb).more hb.size)
  have B_45 := Lib.hid (B_44.out.trans (hb.mono B_44.out.size))
  clear RE_44 RX_44 XA_44 XB_44 XC_44 RK_44 XD_44 XE_44 XF_44 RG_44 RH_44 D1X_44 D2X_44 B_44
  clear hb
  go_wp2_with fail
  go_ret
  exact ⟨rfl, B_45.out⟩
end Go.Proofs.Ytgikaglmeeeplaa
