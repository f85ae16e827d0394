/- Walk: whatever comes in, in whatever order, stands in order. -/
import Derived.Test.YtjhgbdeadkoegaaLu
import Derived.Test.YtjhgbdeadkoegaaPick
namespace Go.Proofs.Ytjhgbdeadkoegaa
open Go.RowKit Go.St Go.Shelf Go.Maps
set_option linter.unusedVariables false
set_option linter.unusedSimpArgs false
set_option maxRecDepth 100000

def h5 : List Int := [3, 1, 2, 1, 12]
set_option maxHeartbeats 12800000 in
theorem memOrder_walk (w : World) (A : Option Addr) (n d : Nat) (l : List Ent) (hl : l.length = n) (hn : n ≤ 140737488351232) (hr : Rd w w.heap.size A (env l)) (o : Int) (hord : -9223372036854775808 ≤ o ∧ o ≤ 9223372036854775807) :
    Calls Try.prog 3 #[.slice A n d, .int .i64 o] w fun e w' => e = .returned (.bool true) ∧ Below w.heap.size w w' := by
  have HL := Lib.hid hl
  have HR := Lib.hid hr
  clear hl hr
  go_enter Try.func3, Try.ntmps3
  go_wp2_with fail
  refine (lives6_any w).mono ?_
  rintro r w2 ⟨rfl, hb⟩
  have B2 := Lib.hid hb
  clear hb
  go_wp2_with fail
  refine (small6_any A n d l HL.out (by omega) w.heap.size w2 (HR.out.below B2.out) (by have := B2.out.size; omega)).mono ?_
  rintro r w3 ⟨rfl, hb⟩
  have B3 := Lib.hid (B2.out.trans (hb.mono B2.out.size))
  clear hb B2
  cases hsm : smallM l
  · go_wp2_with fail
    go_ret
    exact ⟨rfl, B3.out⟩
  have HSM := Lib.hid (smallM_get hsm)
  clear hsm
  have n60 : n ≤ 60 := by rw [← HL.out]; exact HSM.out.1
  go_wp2_with fail
  have hal : Below w3.heap.size w3 (w3.alloc (.cells #[.int .i64 3, .int .i64 1, .int .i64 2, .int .i64 1, .int .i64 12] 3)) := (Below.refl _ _).alloc (Nat.le_refl _) _
  have B4 := Lib.hid (B3.out.trans (hal.mono B3.out.size))
  refine (mnew_any _ 5 5 _ h5 rfl (by omega) _ (rd_frC w3 #[.int .i64 3, .int .i64 1, .int .i64 2, .int .i64 1, .int .i64 12] _ _) (Nat.le_refl _)).mono ?_
  rintro r w5 ⟨⟨h, _⟩ | ⟨_, T, rfl, hm⟩, hb⟩
  · exact absurd h (by decide)
  have B5 := Lib.hid (B4.out.trans (hb.mono B4.out.size))
  have MT5 := Lib.hid hm
  have hz5 := hb.size
  have hz4 := B4.out.size
  clear hm hb B4 B3 hal
  generalize (w3.alloc (.cells #[.int .i64 3, .int .i64 1, .int .i64 2, .int .i64 1, .int .i64 12] 3)).heap.size = g0 at *
  go_wp2_with fail
  refine (mnew_any none 0 0 0 [] rfl (by omega) w5 Rd.nil (Nat.zero_le _)).mono ?_
  rintro r w6 ⟨⟨h, _⟩ | ⟨_, U, rfl, hm⟩, hb⟩
  · exact absurd h (by decide)
  have B6 := Lib.hid (B5.out.trans (hb.mono B5.out.size))
  have MT6 := Lib.hid (MT5.out.next hb)
  have MU6 := Lib.hid hm
  have hz6 := hb.size
  clear hm hb B5 MT5
  obtain ⟨g1, hg1⟩ : ∃ g, g = w5.heap.size := ⟨_, rfl⟩
  obtain ⟨g2, hg2⟩ : ∃ g, g = w6.heap.size := ⟨_, rfl⟩
  rw [← hg1] at MT6 MU6 hz5 hz6
  rw [← hg2] at MU6 hz6
  clear hg1
  go_wp2_with fail
  go_loopw [10, 11] (fun s10 s11 wr => ∃ i : Nat, s10 = .int .i64 (i : Int) ∧ i ≤ n ∧ g2 ≤ wr.heap.size ∧ Hid (Mt wr (fun g => (g0 ≤ g ∧ g < g1) ∨ (g2 ≤ g ∧ g < wr.heap.size)) T h5 (adds h5 (l.take i))) ∧ Hid (Mt wr (fun g => g1 ≤ g ∧ g < g2) U [] []) ∧ Hid (Took h5 l i) ∧ Hid (Below w.heap.size w wr)) (fun s10 _ _ => n - (intOf s10).toNat)
  case atStart => exact ⟨0, rfl, Nat.zero_le _, by omega, Lib.hid (MT6.out.mono (fun g hg => .inl hg)), MU6, Lib.hid (fun j x hj => by omega), B6⟩
  case round =>
    clear MT6 MU6 B6 hg2
    obtain ⟨i, rfl, hi, hgr, MI, MU, TK, DI⟩ := hrel
    obtain ⟨w7, rfl⟩ : ∃ x, x = wr := ⟨_, rfl⟩
    by_cases hlt : i < n
    · obtain ⟨x, hx⟩ : ∃ x, l[i]? = some x := ⟨_, List.getElem?_eq_getElem (by rw [HL.out]; exact hlt)⟩
      obtain ⟨b, off, rfl, hb, hce⟩ := en_at HR.out hx
      obtain ⟨d0, d1, d2, d3⟩ := hce.below hb DI.out
      have HX := Lib.hid hx
      have i1 : (i : Int) < (n : Int) := by omega
      have i0 : (0 : Int) ≤ (i : Int) := by omega
      have zb : b < w7.heap.size := by have := DI.out.size; omega
      have hkx := (HSM.out.2 i x hx).1
      clear hce hx
      go_wp2_with fail
      refine (madd_any _ T h5 (adds h5 (l.take i)) (by have := adds_len h5 (l.take i); rw [List.length_take] at this; omega) x (by unfold maxLen; omega) w7 MI.out).mono ?_
      rintro r w8 ⟨rfl, hm, ho⟩
      rw [← adds_succ HX.out] at hm
      have hs8 := ho.size
      have D8 := Lib.hid (DI.out.trans (ho.below DI.out.size (fun g hg => by omega)))
      rcases addC_cases x (adds h5 (l.take i)) with hc | hc | hc
      · have TK8 : Hid (Took h5 l (i + 1)) := Lib.hid (fun j y hj hy => by
          rcases Nat.lt_or_ge j i with h | h
          · exact TK.out j y h hy
          · have e : j = i := by omega
            subst e
            have := HX.out
            rw [hy] at this
            injection this with this
            rw [this]
            exact hc)
        have M8 : Hid (Mt w8 (fun g => (g0 ≤ g ∧ g < g1) ∨ (g2 ≤ g ∧ g < w8.heap.size)) T h5 (adds h5 (l.take (i + 1)))) := Lib.hid (hm.mono (fun g hg => by omega))
        have MU8 : Hid (Mt w8 (fun g => g1 ≤ g ∧ g < g2) U [] []) := Lib.hid (MU.out.oth ho (fun g h1 h2 => by omega))
        rw [hc]
        clear hm ho hc
        go_wp2_with fail
        go_roundw
        case rel => exact ⟨i + 1, by go_num, by omega, by omega, M8, MU8, TK8, D8⟩
        case measure => simp [intOf]; omega
      · rw [hc]
        clear hm ho hc
        go_wp2_with fail
        go_ret
        exact ⟨rfl, D8.out⟩
      · rw [hc]
        clear hm ho hc
        go_wp2_with fail
        go_ret
        exact ⟨rfl, D8.out⟩
    · obtain rfl : i = n := by omega
      have i1 : ¬ (i : Int) < (i : Int) := by omega
      rw [List.take_of_length_le (by rw [HL.out]; exact Nat.le_refl _)] at MI
      have TKA : Hid (Took h5 l l.length) := Lib.hid (by rw [HL.out]; exact TK.out)
      have HTL : Hid ((adds h5 l).length = i) := Lib.hid (by have := (took_props (Nat.le_refl _) TKA.out).1; rw [List.take_length] at this; rw [this, HL.out])
      clear TK hlt
      go_wp2_with fail
      refine (pick_any o (max 1 (i : Int)) (by omega) (by omega) hord w7).mono ?_
      rintro r w8 ⟨rfl, rfl⟩
      obtain ⟨f, hf, hf1⟩ : ∃ f : Nat, o % (max 1 (i : Int)) = (f : Int) ∧ f < max 1 i := by
        have h1 := Int.emod_nonneg o (show max 1 (i : Int) ≠ 0 by omega)
        have h2 := Int.emod_lt_of_pos o (show 0 < max 1 (i : Int) by omega)
        exact ⟨(o % max 1 (i : Int)).toNat, by omega, by omega⟩
      rw [hf]
      clear hf
      have TKB : Hid (Took [] (rotL f l) (rotL f l).length) := Lib.hid (by
        rcases Nat.eq_zero_or_pos i with h0 | h0
        · intro j x hj
          rw [rotL_len, HL.out] at hj
          omega
        · have hfl : f < l.length := by rw [HL.out]; omega
          exact took_of (rotL_dist hfl (took_dist TKA.out)) (fun x hx => took_ok TKA.out x ((rotL_mem hfl x).2 hx)) _ (Nat.le_refl _))
      have HSE : Hid ((adds h5 l).map Prod.fst = (adds [] (rotL f l)).map Prod.fst) := Lib.hid (by
        rcases Nat.eq_zero_or_pos i with h0 | h0
        · have e : l = [] := List.eq_nil_of_length_eq_zero (by rw [HL.out]; exact h0)
          rw [e]; rfl
        · have hfl : f < l.length := by rw [HL.out]; omega
          exact took_same TKA.out TKB.out (rotL_mem hfl))
      have HOR := Lib.hid (adds_pw h5 l)
      have HLE : Hid (((adds h5 l).map Prod.fst).length = i) := Lib.hid (by rw [List.length_map]; exact HTL.out)
      have HLF : (adds h5 l).length ≤ 60 := by rw [HTL.out]; omega
      generalize adds h5 l = LT at *
      obtain ⟨g3, hg3⟩ : ∃ g, g = w7.heap.size := ⟨_, rfl⟩
      rw [← hg3] at MI hgr
      have hz7 := DI.out.size
      rw [← hg3] at hz7
      have hg37 : g3 ≤ w7.heap.size := by omega
      clear hg3 TKA HTL
      go_wp2_with fail
      go_loopw [13] (fun s13 wr => ∃ j : Nat, s13 = .int .i64 (j : Int) ∧ j ≤ i ∧ g3 ≤ wr.heap.size ∧ Hid (Mt wr (fun g => (g0 ≤ g ∧ g < g1) ∨ (g2 ≤ g ∧ g < g3)) T h5 LT) ∧ Hid (Mt wr (fun g => (g1 ≤ g ∧ g < g2) ∨ (g3 ≤ g ∧ g < wr.heap.size)) U [] (adds [] ((rotL f l).take j))) ∧ Hid (Below w.heap.size w wr)) (fun s13 _ => i - (intOf s13).toNat)
      case atStart => exact ⟨0, rfl, Nat.zero_le _, by omega, MI, Lib.hid (MU.out.mono (fun g hg => .inl hg)), DI⟩
      case round =>
        clear MI MU DI hg37
        obtain ⟨j, rfl, hj, hgr3, MI, MU, DI⟩ := hrel
        obtain ⟨w7, rfl⟩ : ∃ x, x = wr := ⟨_, rfl⟩
        by_cases hlt : j < i
        · have hfi : f < i := by omega
          obtain ⟨q, hq⟩ : ∃ q, q = (f + j) % i := ⟨_, rfl⟩
          have hqi : q < i := by rw [hq]; exact Nat.mod_lt _ (by omega)
          obtain ⟨x, hx⟩ : ∃ x, l[q]? = some x := ⟨_, List.getElem?_eq_getElem (by rw [HL.out]; exact hqi)⟩
          have hxr : (rotL f l)[j]? = some x := by rw [rotL_get (by rw [HL.out]; exact hlt), HL.out, ← hq]; exact hx
          obtain ⟨b, off, rfl, hb, hce⟩ := en_at HR.out hx
          obtain ⟨d0, d1, d2, d3⟩ := hce.below hb DI.out
          have HXR := Lib.hid hxr
          have i1 : (j : Int) < (i : Int) := by omega
          have i0 : (0 : Int) ≤ (q : Int) := by omega
          have i2 : (q : Int) < (i : Int) := by omega
          have hw : IntKind.i64.wrap ((f : Int) + (j : Int)) = (f : Int) + (j : Int) := IntWalk.i64_in _ (by omega)
          have hmd : Int.tmod ((f : Int) + (j : Int)) (i : Int) = (q : Int) := by rw [hq]; rfl
          have kz : ((i : Int) == 0) = false := by rw [beq_eq_false_iff_ne]; omega
          have kz2 : (i : Int) ≠ 0 := by omega
          have kz3 : ¬ i = 0 := by omega
          have zb : b < w7.heap.size := by have := DI.out.size; omega
          have hkx := (HSM.out.2 q x hx).1
          clear hce hx hxr hq
          go_wp2_with fail
          refine (madd_any _ U [] (adds [] ((rotL f l).take j)) (by have := adds_len [] ((rotL f l).take j); rw [List.length_take] at this; omega) x (by unfold maxLen; omega) w7 MU.out).mono ?_
          rintro r w8 ⟨rfl, hm, ho⟩
          rw [← adds_succ HXR.out] at hm
          have hs8 := ho.size
          have D8 := Lib.hid (DI.out.trans (ho.below DI.out.size (fun g hg => by omega)))
          have hc : addC x (adds [] ((rotL f l).take j)) = 0 := TKB.out j x (by rw [rotL_len, HL.out]; exact hlt) HXR.out
          have M8 : Hid (Mt w8 (fun g => (g1 ≤ g ∧ g < g2) ∨ (g3 ≤ g ∧ g < w8.heap.size)) U [] (adds [] ((rotL f l).take (j + 1)))) := Lib.hid (hm.mono (fun g hg => by omega))
          have MI8 : Hid (Mt w8 (fun g => (g0 ≤ g ∧ g < g1) ∨ (g2 ≤ g ∧ g < g3)) T h5 LT) := Lib.hid (MI.out.oth ho (fun g h1 h2 => by omega))
          rw [hc]
          clear hm ho hc hw hmd kz kz2 kz3
          go_wp2_with fail
          go_roundw
          case rel => exact ⟨j + 1, by go_num, by omega, by omega, MI8, M8, D8⟩
          case measure => simp [intOf]; omega
        · obtain rfl : j = i := by omega
          rw [List.take_of_length_le (by rw [rotL_len, HL.out]; exact Nat.le_refl _)] at MU
          have HLG : (adds [] (rotL f l)).length ≤ 60 := by have := adds_len [] (rotL f l); rw [rotL_len, HL.out] at this; omega
          generalize adds [] (rotL f l) = LU at *
          have i1 : ¬ (j : Int) < (j : Int) := by omega
          clear hlt HSM HR TKB
          go_wp2_with fail
          have HA1 := mall_any _ T h5 LT (by omega) (j + 1) w7 MI.out
          rw [show ((j + 1 : Nat) : Int) = (j : Int) + 1 from rfl, List.take_of_length_le (by rw [HLE.out]; omega)] at HA1
          refine HA1.mono ?_
          rintro r w8 ⟨u, rfl, own, hb⟩
          rw [HLE.out] at own
          obtain ⟨A1, c1, rfl, -, r1⟩ := own_sl own
          have R1 := Lib.hid r1
          have MU8 := Lib.hid (MU.out.next hb)
          have D8 := Lib.hid (DI.out.trans (hb.mono DI.out.size))
          clear own r1 hb HA1 MI MU DI
          go_wp2_with fail
          have HA2 := mall_any _ U [] LU (by omega) (j + 1) w8 MU8.out
          rw [← HSE.out, show ((j + 1 : Nat) : Int) = (j : Int) + 1 from rfl, List.take_of_length_le (by rw [HLE.out]; omega)] at HA2
          refine HA2.mono ?_
          rintro r w9 ⟨u, rfl, own, hb⟩
          rw [HLE.out] at own
          obtain ⟨A2, c2, rfl, -, r2⟩ := own_sl own
          have R2 := Lib.hid r2
          have R1' := Lib.hid ((R1.out.below hb).more hb.size)
          have D9 := Lib.hid (D8.out.trans (hb.mono D8.out.size))
          clear own r2 hb HA2 MU8 D8 R1
          generalize LT.map Prod.fst = E at *
          have e1 : ((j : Int) != (j : Int)) = false := by simp
          go_wp2_with fail
          refine (sameE_any A1 A2 j j c1 c2 w9.heap.size w9.heap.size E E HLE.out HLE.out (by omega) w9 R1'.out (Nat.le_refl _) R2.out (Nat.le_refl _)).mono ?_
          rintro r w10 ⟨rfl, hb⟩
          rw [decide_eq_true rfl]
          have R10 := Lib.hid ((R1'.out.below hb).more hb.size)
          have D10 := Lib.hid (D9.out.trans (hb.mono D9.out.size))
          clear hb R1' R2 D9
          go_wp2_with fail
          go_loopw [16] (fun s16 wr => ∃ q : Nat, s16 = .int .i64 (q : Int) ∧ 1 ≤ q ∧ (q ≤ j ∨ q = 1) ∧ Hid (Below w10.heap.size w10 wr)) (fun s16 _ => j + 1 - (intOf s16).toNat)
          case atStart => exact ⟨1, rfl, Nat.le_refl _, .inr rfl, Lib.hid (Below.refl _ _)⟩
          case round =>
            obtain ⟨q, rfl, hq1, hqj, DQ⟩ := hrel
            obtain ⟨w11, rfl⟩ : ∃ x, x = wr := ⟨_, rfl⟩
            by_cases hlt : q < j
            · obtain ⟨p, rfl⟩ : ∃ p, q = p + 1 := ⟨q - 1, by omega⟩
              obtain ⟨x, hx⟩ : ∃ x, E[p]? = some x := ⟨_, List.getElem?_eq_getElem (by rw [HLE.out]; omega)⟩
              obtain ⟨y, hy⟩ : ∃ y, E[p + 1]? = some y := ⟨_, List.getElem?_eq_getElem (by rw [HLE.out]; omega)⟩
              have hxy : ltE x y = true := by
                obtain ⟨h1, rfl⟩ := List.getElem?_eq_some_iff.1 hx
                obtain ⟨h2, rfl⟩ := List.getElem?_eq_some_iff.1 hy
                exact List.pairwise_iff_getElem.1 HOR.out p (p + 1) h1 h2 (by omega)
              have H1 := Lib.hid (fun W => ahead_any x y W)
              have H2 := Lib.hid (fun W => ahead_any y x W)
              rw [hxy] at H1
              rw [ltE_asym hxy] at H2
              obtain ⟨b1, o1, eA, hb1, hc1⟩ := en_at R10.out hx
              obtain ⟨b2, o2, eB, hb2, hc2⟩ := en_at R10.out hy
              rw [eA] at eB
              injection eB with eB
              injection eB with eB1 eB2
              subst eA eB1 eB2
              obtain ⟨d0, d1, d2, d3⟩ := hc1.below hb1 DQ.out
              obtain ⟨f0, f1, f2, f3⟩ := hc2.below hb1 DQ.out
              have zb : b1 < w11.heap.size := Nat.lt_of_lt_of_le hb1 DQ.out.size
              rw [show ((p + 1 : Nat) : Int) = (p : Int) + 1 from rfl]
              have i1 : (p : Int) + 1 < (j : Int) := by omega
              have i2 : (p : Int) < (j : Int) := by omega
              have i3 : (0 : Int) ≤ (p : Int) := by omega
              have i4 : (0 : Int) ≤ (p : Int) + 1 := by omega
              have hw : IntKind.i64.wrap ((p : Int) + 1 - 1) = (p : Int) := by rw [IntWalk.i64_in _ (by omega)]; omega
              have hw2 : (p : Int) + 1 - 1 = (p : Int) := by omega
              clear hx hy hxy hc1 hc2
              go_wp2_with fail
              refine wp_qall (by kernel_rfl) (by kernel_rfl) ?_
              intro hcg
              repeat (first | go_big_quiet_step ((first | with_reducible (exact Calls.reg (H1.out _)) | with_reducible (exact Calls.reg (H2.out _)))) | quiet_step ((first | with_reducible (exact Calls.reg (H1.out _)) | with_reducible (exact Calls.reg (H2.out _)))))
              refine wpQuiet_nil ?_
              intro wq hbwq hcwq hfwq
              clear hcg
              have DQ9 := Lib.hid (DQ.out.trans (hbwq.mono DQ.out.size))
              clear hbwq hcwq hfwq
              go_wp2_with fail
              go_roundw
              case rel => exact ⟨p + 1 + 1, by go_num, by omega, .inl (by omega), DQ9⟩
              case measure => simp [intOf]; omega
            · have i1 : ¬ (q : Int) < (j : Int) := by omega
              go_wp2_with fail
              go_ret
              exact ⟨rfl, D10.out.trans (DQ.out.mono D10.out.size)⟩
end Go.Proofs.Ytjhgbdeadkoegaa
