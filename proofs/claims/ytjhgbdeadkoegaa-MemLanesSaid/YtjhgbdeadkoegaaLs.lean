/- Walk: lanes. -/
import Derived.Test.YtjhgbdeadkoegaaLr
import Derived.Test.YtjhgbdeadkoegaaLq
namespace Go.Proofs.Ytjhgbdeadkoegaa
open Go.RowKit Go.St Go.Shelf Go.Maps
set_option linter.unusedVariables false
set_option linter.unusedSimpArgs false
set_option maxRecDepth 100000

set_option maxHeartbeats 12800000 in
theorem memLanes_walk (w : World) (K : Option Addr) (k c : Nat) (hs : List Int) (hhl : hs.length = k) (hk : k ≤ 140737488351232) (hrK : Rd w w.heap.size K (nv hs)) (A : Option Addr) (n d : Nat) (l : List Ent) (hl : l.length = n) (hn : n ≤ 140737488351232) (hr : Rd w w.heap.size A (env l)) (a : AskM) :
    Calls Try.prog 5 #[.slice K k c, .slice A n d, .agg #[.string a.key, .int .i64 a.seq, .string a.fr, .string a.to_, .int .i64 a.lane]] w fun e w' => e = .returned (.bool true) ∧ Below w.heap.size w w' := by
  have HHL := Lib.hid hhl
  have HL := Lib.hid hl
  have HRK := Lib.hid hrK
  have HR := Lib.hid hr
  clear hhl hl hrK hr
  go_enter Try.func5, Try.ntmps5
  go_wp2_with fail
  have XA0 : BxV (w.alloc (.cells #[.string a.key, .int .i64 a.seq, .string a.fr, .string a.to_, .int .i64 a.lane] 41)) w.heap.size a.c := BxV.new w _ _
  have B0 : Hid (Below w.heap.size w (w.alloc (.cells #[.string a.key, .int .i64 a.seq, .string a.fr, .string a.to_, .int .i64 a.lane] 41))) := Lib.hid ((Below.refl _ _).alloc (Nat.le_refl _) _)
  have hz0 : w.heap.size < (w.alloc (.cells #[.string a.key, .int .i64 a.seq, .string a.fr, .string a.to_, .int .i64 a.lane] 41)).heap.size := by simp
  generalize w.alloc (.cells #[.string a.key, .int .i64 a.seq, .string a.fr, .string a.to_, .int .i64 a.lane] 41) = w1 at *
  have XA1 := Lib.hid XA0
  clear XA0
  refine (lives6_any w1).mono ?_
  rintro r w2 ⟨rfl, hb⟩
  have XA2 := Lib.hid (XA1.out.next hb)
  have B2 := Lib.hid (B0.out.trans (hb.mono B0.out.size))
  have hz2 : w.heap.size < w2.heap.size := XA2.out.lt
  clear hb XA1 B0
  go_wp2_with fail
  refine (small6_any A n d l HL.out (by omega) w.heap.size w2 (HR.out.below B2.out) (by omega)).mono ?_
  rintro r w3 ⟨rfl, hb⟩
  have XA3 := Lib.hid (XA2.out.next hb)
  have B3 := Lib.hid (B2.out.trans (hb.mono B2.out.size))
  have hz3 : w.heap.size < w3.heap.size := XA3.out.lt
  clear hb XA2 B2 hz2
  cases hsm : smallM l
  · go_wp2_with fail
    go_ret
    exact ⟨rfl, B3.out⟩
  have HSM := Lib.hid (smallM_get hsm)
  clear hsm
  by_cases hk6 : 60 < k
  · have k1 : (60 : Int) < (k : Int) := by omega
    go_wp2_with fail
    go_ret
    exact ⟨rfl, B3.out⟩
  have k1 : ¬ (60 : Int) < (k : Int) := by omega
  have n60 : n ≤ 60 := by rw [← HL.out]; exact HSM.out.1
  go_wp2_with fail
  refine (mnew_any K k c w.heap.size hs HHL.out (by omega) w3 (HRK.out.below B3.out) (by omega)).mono ?_
  rintro r w4 ⟨⟨_, rfl⟩ | ⟨_, T, rfl, hm⟩, hb⟩
  · have B4 := Lib.hid (B3.out.trans (hb.mono B3.out.size))
    clear hb
    go_wp2_with fail
    go_ret
    exact ⟨rfl, B4.out⟩
  have M4 := Lib.hid hm
  have XA4 := Lib.hid (XA3.out.next hb)
  have B4 := Lib.hid (B3.out.trans (hb.mono B3.out.size))
  have hz4 := hb.size
  obtain ⟨g0, hg0⟩ : ∃ g, g = w3.heap.size := ⟨_, rfl⟩
  rw [← hg0] at M4 hz4 hz3
  have D4 : Hid (Below g0 w4 w4) := Lib.hid (Below.refl _ _)
  clear hm hb XA3 B3 hg0 HRK
  go_wp2_with fail
  go_loopw [9] (fun s9 wr => ∃ i : Nat, s9 = .int .i64 (i : Int) ∧ i ≤ n ∧ g0 ≤ wr.heap.size ∧ Hid (Mt wr (fun g => g0 ≤ g ∧ g < wr.heap.size) T hs (adds hs (l.take i))) ∧ Hid (Below g0 w4 wr)) (fun s9 _ => n - (intOf s9).toNat)
  case atStart => exact ⟨0, rfl, Nat.zero_le _, hz4, M4, D4⟩
  case round =>
    clear M4 D4
    obtain ⟨i, rfl, hi, hgr, MI, DI⟩ := hrel
    obtain ⟨w5, rfl⟩ : ∃ x, x = wr := ⟨_, rfl⟩
    have HB5 : Hid (Below w.heap.size w w5) := Lib.hid (B4.out.trans (DI.out.mono (by omega)))
    by_cases hlt : i < n
    · obtain ⟨x, hx⟩ : ∃ x, l[i]? = some x := ⟨_, List.getElem?_eq_getElem (by rw [HL.out]; exact hlt)⟩
      obtain ⟨b, off, rfl, hb, hce⟩ := en_at HR.out hx
      obtain ⟨d0, d1, d2, d3⟩ := hce.below hb HB5.out
      have HX := Lib.hid hx
      have i1 : (i : Int) < (n : Int) := by omega
      have i0 : (0 : Int) ≤ (i : Int) := by omega
      have zb : b < w5.heap.size := by have := HB5.out.size; omega
      have hkx := (HSM.out.2 i x hx).1
      clear hce hx
      go_wp2_with fail
      refine (madd_any _ T hs (adds hs (l.take i)) (by have := adds_len hs (l.take i); rw [List.length_take] at this; omega) x (by unfold maxLen; omega) w5 MI.out).mono ?_
      rintro r w6 ⟨rfl, hm, ho⟩
      rw [← adds_succ HX.out] at hm
      have hs6 := ho.size
      have M6 : Hid (Mt w6 (fun g => g0 ≤ g ∧ g < w6.heap.size) T hs (adds hs (l.take (i + 1)))) := Lib.hid (hm.mono (fun g hg => by omega))
      have D6 := Lib.hid (DI.out.trans (ho.below hgr (fun g hg => by omega)))
      clear hm ho
      go_wp2_with fail
      go_roundw
      case rel => exact ⟨i + 1, by go_num, by omega, by omega, M6, D6⟩
      case measure => simp [intOf]; omega
    · obtain rfl : i = n := by omega
      have i1 : ¬ (i : Int) < (i : Int) := by omega
      rw [List.take_of_length_le (by rw [HL.out]; exact Nat.le_refl _)] at MI
      have HLL : Hid ((adds hs l).length ≤ 60) := Lib.hid (by have := adds_len hs l; have := HSM.out.1; omega)
      generalize adds hs l = L at *
      have XA5 := Lib.hid (XA4.out.below DI.out (by omega))
      clear hlt HSM HR XA4 B4 DI
      go_wp2_with fail
      go_loopw [10] (fun s10 wr => ∃ j : Nat, s10 = .int .i64 (j : Int) ∧ 2 ≤ j ∧ j ≤ 13 ∧ Hid (Below w5.heap.size w5 wr)) (fun s10 _ => 13 - (intOf s10).toNat)
      case atStart => exact ⟨2, rfl, by omega, by omega, Lib.hid (Below.refl _ _)⟩
      case round =>
        obtain ⟨j, rfl, hj2, hj13, DJ⟩ := hrel
        obtain ⟨w6, rfl⟩ : ∃ x, x = wr := ⟨_, rfl⟩
        by_cases hj : j ≤ 12
        · have j1 : (j : Int) ≤ 12 := by omega
          have jw : IntKind.i64.wrap ((j : Int) - 1) = (j : Int) - 1 := IntWalk.i64_in _ (by omega)
          go_wp2_with fail
          refine (mlane_any _ T hs L (by have := HLL.out; omega) (j : Int) w6 (MI.out.next DJ.out)).mono ?_
          rintro r w7 ⟨u, rfl, own, hb⟩
          obtain ⟨AU, cU, rfl, -, rU⟩ := own_sl own
          have DJ7 := Lib.hid (DJ.out.trans (hb.mono DJ.out.size))
          have RU7 := Lib.hid rU
          clear own rU hb
          go_wp2_with fail
          refine (mlane_any _ T hs L (by have := HLL.out; omega) ((j : Int) - 1) w7 (MI.out.next DJ7.out)).mono ?_
          rintro r w8 ⟨u, rfl, own, hb⟩
          obtain ⟨AV, cV, rfl, -, rV⟩ := own_sl own
          have DJ8 := Lib.hid (DJ7.out.trans (hb.mono DJ7.out.size))
          have RU8 := Lib.hid ((RU7.out.below hb).more hb.size)
          have RV8 := Lib.hid rV
          have HAU := Lib.hid (lnL_asc (j : Int) L)
          have HAV := Lib.hid (lnL_asc ((j : Int) - 1) L)
          have HUV := Lib.hid (lnL_sub (h := (j : Int)) (by omega) (by omega) L)
          have HNU : (lnL (j : Int) L).length ≤ 60 := by have := lnL_len (j : Int) L; have := HLL.out; omega
          have HNV : (lnL ((j : Int) - 1) L).length ≤ 60 := by have := lnL_len ((j : Int) - 1) L; have := HLL.out; omega
          clear own rV hb RU7 DJ7
          generalize lnL (j : Int) L = U at *
          generalize lnL ((j : Int) - 1) L = V at *
          clear jw
          go_wp2_with fail
          go_loopw [13, 14] (fun s13 s14 wr => ∃ q i : Nat, s13 = .int .i64 (q : Int) ∧ s14 = .int .i64 (i : Int) ∧ i ≤ U.length ∧ q ≤ V.length ∧ Hid (∀ y p, U[i]? = some y → V[p]? = some y → q ≤ p) ∧ Hid (Below w8.heap.size w8 wr)) (fun _ s14 _ => U.length - (intOf s14).toNat)
          case atStart => exact ⟨0, 0, rfl, rfl, Nat.zero_le _, Nat.zero_le _, Lib.hid (fun _ _ _ _ => Nat.zero_le _), Lib.hid (Below.refl _ _)⟩
          case round =>
            obtain ⟨q, i, rfl, rfl, hi, hq, HQ, DQ⟩ := hrel
            obtain ⟨w9, rfl⟩ : ∃ x, x = wr := ⟨_, rfl⟩
            by_cases hlt : i < U.length
            · obtain ⟨y, hy⟩ : ∃ y, U[i]? = some y := ⟨_, List.getElem?_eq_getElem hlt⟩
              obtain ⟨p, hp⟩ := List.mem_iff_getElem?.1 (HUV.out y (List.mem_of_getElem? hy))
              have hpl : p < V.length := (List.getElem?_eq_some_iff.1 hp).1
              have hqp := HQ.out y p hy hp
              obtain ⟨bu, ou, rfl, hbu, hcu⟩ := RU8.out (by intro e; rw [List.eq_nil_iff_length_eq_zero] at e; rw [nv_length] at e; omega)
              obtain ⟨bv, ov, rfl, hbv, hcv⟩ := RV8.out (by intro e; rw [List.eq_nil_iff_length_eq_zero] at e; rw [nv_length] at e; omega)
              have HCV := Lib.hid (fun (k' : Nat) (v : Int) (hv : V[k']? = some v) => hcv k' _ (nv_get hv))
              have CU := Lib.hid (hcu i _ (nv_get hy))
              have HY := Lib.hid hy
              have HP := Lib.hid hp
              have i1 : (i : Int) < (U.length : Int) := by omega
              have i0 : (0 : Int) ≤ (i : Int) := by omega
              clear hcu hcv hy hp HQ
              go_wp2_with fail
              go_loopw [13] (fun s13 wr => ∃ q : Nat, s13 = .int .i64 (q : Int) ∧ q ≤ p ∧ Hid (Below w8.heap.size w8 wr)) (fun s13 _ => p - (intOf s13).toNat)
              case atStart => exact ⟨q, rfl, hqp, DQ⟩
              case round =>
                clear hq hqp DQ
                obtain ⟨q, rfl, hqp, DQ⟩ := hrel
                obtain ⟨w9, rfl⟩ : ∃ x, x = wr := ⟨_, rfl⟩
                obtain ⟨z, hz⟩ : ∃ z, V[q]? = some z := ⟨_, List.getElem?_eq_getElem (by omega)⟩
                have q1 : (q : Int) < (V.length : Int) := by omega
                have q0 : (0 : Int) ≤ (q : Int) := by omega
                have q2 : ((q : Int) == (V.length : Int)) = false := by rw [beq_eq_false_iff_ne]; omega
                have cz := (DQ.out.cell (p := ⟨bv, ov + q, none⟩) hbv).trans (HCV.out q z hz)
                have cy := (DQ.out.cell (p := ⟨bu, ou + i, none⟩) hbu).trans CU.out
                have lz : bv < w9.heap.size := Nat.lt_of_lt_of_le hbv DQ.out.size
                have ly : bu < w9.heap.size := Nat.lt_of_lt_of_le hbu DQ.out.size
                by_cases hqlt : q < p
                · have zy : z < y := asc_lt HAV.out hqlt hz HP.out
                  have zy' : decide (z < y) = true := decide_eq_true zy
                  clear hz
                  go_wp2_with fail
                  refine wp_qall (by kernel_rfl) (by kernel_rfl) ?_
                  intro hcg
                  repeat (first | go_big_quiet_step (fail) | quiet_step (fail))
                  refine wpQuiet_nil ?_
                  intro wq hbwq hcwq hfwq
                  clear hcg
                  have D9 := Lib.hid (DQ.out.trans (hbwq.mono DQ.out.size))
                  clear hbwq hcwq hfwq
                  go_wp2_with fail
                  go_roundw
                  case rel => exact ⟨q + 1, by go_num, by omega, D9⟩
                  case measure => simp [intOf]; omega
                · obtain rfl : q = p := by omega
                  obtain rfl : z = y := by have := HP.out; rw [hz] at this; injection this
                  have zy' : decide (z < z) = false := decide_eq_false (by omega)
                  clear hz
                  go_wp2_with fail
                  refine wp_qall (by kernel_rfl) (by kernel_rfl) ?_
                  intro hcg
                  repeat (first | go_big_quiet_step (fail) | quiet_step (fail))
                  refine wpQuiet_nil ?_
                  intro wq hbwq hcwq hfwq
                  clear hcg
                  have D9 := Lib.hid (DQ.out.trans (hbwq.mono DQ.out.size))
                  have cz' := (hcwq _ _ lz).trans cz
                  have cy' := (hcwq _ _ ly).trans cy
                  have lz' : bv < wq.heap.size := Nat.lt_of_lt_of_le lz hbwq.size
                  have ly' : bu < wq.heap.size := Nat.lt_of_lt_of_le ly hbwq.size
                  clear hbwq hcwq hfwq cz cy lz ly DQ zy'
                  have ne : (z != z) = false := by simp
                  go_wp2_with fail
                  refine wp_qall (by kernel_rfl) (by kernel_rfl) ?_
                  intro hcg
                  repeat (first | go_big_quiet_step (fail) | quiet_step (fail))
                  refine wpQuiet_nil ?_
                  intro wr hbwr hcwr hfwr
                  clear hcg
                  have D10 := Lib.hid (D9.out.trans (hbwr.mono D9.out.size))
                  clear hbwr hcwr hfwr
                  have HQ9 : Hid (∀ y' p', U[i + 1]? = some y' → V[p']? = some y' → q ≤ p') := Lib.hid (fun y' p' h1 h2 => by
                    rcases Nat.lt_or_ge p' q with h | h
                    · have e1 := asc_lt HAV.out h h2 HP.out
                      have e2 := asc_lt HAU.out (Nat.lt_succ_self i) HY.out h1
                      omega
                    · exact h)
                  go_wp2_with fail
                  go_roundw
                  case rel => exact ⟨q, i + 1, rfl, by go_num, by omega, by omega, HQ9, D10⟩
                  case measure => simp [intOf]; omega
            · have i1 : ¬ (i : Int) < (U.length : Int) := by omega
              go_wp2_with fail
              go_roundw
              case rel => exact ⟨j + 1, by go_num, by omega, by omega, Lib.hid (DJ8.out.trans (DQ.out.mono DJ8.out.size))⟩
              case measure => simp [intOf]; omega
        · have j1 : ¬ (j : Int) ≤ 12 := by omega
          have a0 := (XA5.out.next DJ.out).c 0 _ rfl
          have a1 := (XA5.out.next DJ.out).c 1 _ rfl
          have la := (XA5.out.next DJ.out).lt
          go_wp2_with fail
          refine (mcost_any _ T hs L (by have := HLL.out; omega) a.key a.seq w6 (MI.out.next DJ.out)).mono ?_
          rintro r w7 ⟨rfl, hb⟩
          have D7 := Lib.hid (DJ.out.trans (hb.mono DJ.out.size))
          have hcl := cst_le a.key a.seq L
          clear hb a0 a1 la
          go_wp2_with fail
          refine (mlane_any _ T hs L (by have := HLL.out; omega) 1 w7 (MI.out.next D7.out)).mono ?_
          rintro r w8 ⟨u, rfl, own, hb⟩
          rw [lnL_one MI.out.tow] at own
          obtain ⟨AU, cU, rfl, -, rU⟩ := own_sl own
          have D8 := Lib.hid (D7.out.trans (hb.mono D7.out.size))
          clear own rU hb
          go_wp2_with fail
          refine (mlen_any _ T hs L w8 (MI.out.next D8.out)).mono ?_
          rintro r w9 ⟨rfl, rfl⟩
          have e1 : ((L.length : Int) == (L.length : Int)) = true := by simp
          have hll := HLL.out
          generalize cst a.key a.seq L = C at *
          have c0 : (0 : Int) ≤ (C : Int) := by omega
          have c1 : IntKind.i64.wrap ((L.length : Int) + 12) = (L.length : Int) + 12 := IntWalk.i64_in _ (by omega)
          have c2 : (C : Int) ≤ (L.length : Int) + 12 := by omega
          go_wp2_with fail
          refine (mlen_any _ T hs L w8 (MI.out.next D8.out)).mono ?_
          rintro r w9 ⟨rfl, rfl⟩
          go_wp2_with fail
          go_ret
          exact ⟨rfl, HB5.out.trans (D8.out.mono HB5.out.size)⟩
end Go.Proofs.Ytjhgbdeadkoegaa
