/- The walk: each key in just one range, a span in parts. -/
import Derived.Test.YtlpdihcgdgkkbaaRp
import Derived.Test.YtlpdihcgdgkkbaaPick
namespace Go.Proofs.Ytlpdihcgdgkkbaa
open Go.RowKit Go.St
set_option linter.unusedVariables false
set_option linter.unusedSimpArgs false
set_option maxRecDepth 100000

/-- A span in a block. -/
def BxS (w : World) (b : Nat) (f t : ByteArray) : Prop := b < w.heap.size ∧ w.cell? ⟨b, 0, none⟩ = some (.string f) ∧ w.cell? ⟨b, 1, none⟩ = some (.string t)
theorem BxS.below {w w' : World} {B b : Nat} {f t : ByteArray} (h : BxS w b f t) (hb : Below B w w') (hB : b < B) : BxS w' b f t :=
  ⟨Nat.lt_of_lt_of_le h.1 hb.size, (hb.cell (p := ⟨b, 0, none⟩) hB).trans h.2.1, (hb.cell (p := ⟨b, 1, none⟩) hB).trans h.2.2⟩
theorem BxS.next {w w' : World} {b : Nat} {f t : ByteArray} (h : BxS w b f t) (hb : Below w.heap.size w w') : BxS w' b f t := h.below hb h.1
theorem BxS.drew {w : World} {b : Nat} {f t : ByteArray} (h : BxS w b f t) (m : Nat) : BxS (w.drewN m) b f t := h.next (bel_dn (Below.refl _ _) m)
theorem BxS.alloc {w : World} {b : Nat} {f t : ByteArray} (h : BxS w b f t) (o : Obj) : BxS (w.alloc o) b f t := h.next ((Below.refl _ _).alloc (Nat.le_refl _) o)

def cntP (a r : Nat) (q : Bool) (i : Nat) : Nat := if q = true ∧ a ≤ r ∧ r < a + i then 1 else 0
theorem cntP_zero (a r : Nat) (q : Bool) : cntP a r q 0 = 0 := by unfold cntP; rw [if_neg (by omega)]
theorem cntP_yes {a r : Nat} {q : Bool} {i : Nat} (h : (decide (a + i = r) && q) = true) : cntP a r q i = 0 ∧ cntP a r q (i + 1) = 1 := by
  simp at h
  unfold cntP
  rw [if_neg (by omega), if_pos ⟨h.2, by omega, by omega⟩]
  exact ⟨rfl, rfl⟩
theorem cntP_no {a r : Nat} {q : Bool} {i : Nat} (h : (decide (a + i = r) && q) = false) : cntP a r q (i + 1) = cntP a r q i := by
  unfold cntP
  cases q
  · simp
  · simp at h
    by_cases h1 : a ≤ r ∧ r < a + i
    · rw [if_pos ⟨rfl, h1.1, by omega⟩, if_pos ⟨rfl, h1⟩]
    · rw [if_neg (fun h2 => h1 ⟨h2.2.1, by omega⟩), if_neg (fun h2 => h1 h2.2)]

set_option maxHeartbeats 6400000 in
theorem rangesPart_walk (w : World) (A : Option Addr) (n c : Nat) (l : List ByteArray) (hl : l.length = n) (hn : n < 4611686018427387904) (hr : Rd w w.heap.size A (sv l)) (f t k : ByteArray) (nodes : Int) (hnd : -9223372036854775808 ≤ nodes ∧ nodes ≤ 9223372036854775807) :
    Calls Try.prog 13 #[.slice A n c, .agg #[.string f, .string t], .string k, .int .i64 nodes] w fun e w' => e = .returned (.bool true) ∧ Below w.heap.size w w' := by
  have HR : Hid (Rd (w.alloc (.cells #[.string f, .string t] 67)) w.heap.size A (sv l)) := hr.alloc (Nat.le_refl _) _
  have HCK := Lib.hid (fun W (h : Rd W w.heap.size A (sv l)) => check21_any A n c w.heap.size l hl (by omega) W h)
  by_cases hc : chk21 l = 0
  case neg =>
    have hne : (chk21 l != 0) = true := by simp [hc]
    clear hr hl
    generalize chk21 l = q at *
    go_enter Try.func13, Try.ntmps13
    go_wp2_with fail
    refine (lives21_any _).mono ?_
    rintro e w1 ⟨rfl, hb⟩
    obtain ⟨hcw1, hfw1⟩ := bcell hb
    have HBw1 : Hid (Below w.heap.size w w1) := Below.go (by go_grown) hb (by go_size)
    have hzw10 : w.heap.size < w1.heap.size := by have := hb.size; (try simp at this); omega
    have HEw1 := Lib.hid hb
    clear hb
    have R1 : Hid (Rd w1 w.heap.size A (sv l)) := HR.out.below (HEw1.out.mono (by simp))
    go_wp2_with fail
    refine (HCK.out _ R1.out).mono ?_
    rintro e w' ⟨rfl, m, rfl⟩
    go_wp2
    go_ret
    exact ⟨rfl, bel_dn HBw1.out _⟩
  have hn15 : n ≤ 15 := by have := chk_len hc; omega
  rw [hc] at HCK
  obtain ⟨r, hrr⟩ : ∃ r, r = ofT l k := ⟨_, rfl⟩
  have hrn : r ≤ n := by rw [hrr, ← hl]; exact ofT_le hc k
  have HOF := Lib.hid (fun (x : ByteArray) W (h : Rd W w.heap.size A (sv l)) => by
    have := of21_any A n c w.heap.size l hl (by omega) x W h
    rw [hc, ofR_eq hc] at this
    exact this)
  have HND := Lib.hid (fun (m : Nat) (h1 : 1 ≤ m) (h2 : m ≤ 7) W (h : Rd W w.heap.size A (sv l)) => by
    have := node21_any A n c w.heap.size l hl (by omega) k m (by omega) (by omega) W h
    have e1 : ndE l m = 0 := by unfold ndE; rw [if_neg (by rw [hc]; decide), if_neg (by omega)]
    have e2 : ndR l k m = (r : Int) % m := by unfold ndR; rw [e1, if_pos rfl, ofR_eq hc, hrr]
    rw [e1, e2] at this
    exact this)
  have HSP := Lib.hid (fun (W : World) (i : Nat) (hi : i ≤ n) (h : Rd W w.heap.size A (sv l)) (hB : w.heap.size ≤ W.heap.size) => by
    have := span21_any A n c w.heap.size l hl hn i (by omega) (by omega) W h hB
    have e1 : spE l i = 0 := by unfold spE; rw [if_neg (by rw [hc]; decide), if_neg (by omega)]
    have e2 : spV l i = .agg #[.string (frT l i), .string (toT l i)] := by unfold spV spF spT; rw [e1]; rfl
    rw [e1, e2] at this
    exact this)
  have HHR := Lib.hid (fun (i : Nat) (hi : i ≤ n) W => by
    have := has21_any (frT l i) (toT l i) k W
    rw [has_range hc k (by omega), ← hrr] at this
    exact this)
  have HPA := Lib.hid (fun W (h : Rd W w.heap.size A (sv l)) hB => by
    have := parts21_any A n c w.heap.size l hl hn f t W h hB
    rw [hc] at this
    exact this)
  have HEM := Lib.hid (fun W => empty_any f t W)
  have HHS := Lib.hid (fun W => has21_any f t k W)
  have HR0 := Lib.hid hr
  have HRR := Lib.hid hrr
  have HL := Lib.hid hl
  have HC := Lib.hid hc
  clear hr hl hrr hc
  go_enter Try.func13, Try.ntmps13
  go_wp2_with fail
  refine (lives21_any _).mono ?_
  rintro e w1 ⟨rfl, hb⟩
  obtain ⟨hcw1, hfw1⟩ := bcell hb
  have HBw1 : Hid (Below w.heap.size w w1) := Below.go (by go_grown) hb (by go_size)
  have hzw10 : w.heap.size < w1.heap.size := by have := hb.size; (try simp at this); omega
  have HEw1 := Lib.hid hb
  clear hb
  have R1 : Hid (Rd w1 w.heap.size A (sv l)) := HR.out.below (HEw1.out.mono (by simp))
  have BX1 : Hid (BxS w1 w.heap.size f t) := ⟨by omega, by rw [hcw1 _ _ (by simp)]; simp, by rw [hcw1 _ _ (by simp)]; simp⟩
  clear hcw1 hfw1 HEw1 HR
  go_wp2_with fail
  refine (HCK.out _ R1.out).mono ?_
  rintro e w' ⟨rfl, m0, rfl⟩
  clear HCK
  go_wp2_with fail
  refine (pick_any nodes 7 (by omega) (by omega) hnd _).mono ?_
  rintro e w' ⟨rfl, rfl⟩
  obtain ⟨m7, hm7, hm1, hm2⟩ : ∃ m : Nat, (1 : Int) + nodes % 7 = (m : Int) ∧ 1 ≤ m ∧ m ≤ 7 := ⟨(1 + nodes % 7).toNat, by omega, by omega, by omega⟩
  have hp1 : 0 ≤ nodes % 7 := by omega
  have hp2 : nodes % 7 ≤ 6 := by omega
  generalize nodes % 7 = pk at *
  go_wp2_with fail
  refine (HOF.out k _ (Rd.drew R1.out _)).mono ?_
  rintro e w' ⟨rfl, m3, rfl⟩
  rw [← HRR.out]
  clear hm7 hp1 hp2
  go_wp2_with fail
  refine (HND.out m7 hm1 hm2 _ (Rd.drew R1.out _)).mono ?_
  rintro e w' ⟨rfl, m4, rfl⟩
  clear HND
  go_wp2_with fail
  go_loopw [13] (fun s wr => ∃ j : Nat, j ≤ n + 1 ∧ s = .int .i64 j ∧ Hid (Below w.heap.size w wr) ∧ Hid (Rd wr w.heap.size A (sv l)) ∧ Hid (BxS wr w.heap.size f t)) (fun s _ => n + 1 - (intOf s).toNat)
  case atStart => exact ⟨0, by omega, rfl, by unfold Hid; simpa using bel_dn HBw1.out _, by unfold Hid; simpa using Rd.drew R1.out _, by unfold Hid; simpa using BxS.drew BX1.out _⟩
  case round =>
    obtain ⟨j, hj, rfl, HBr, Rr, BXr⟩ := hrel
    by_cases hjn : j ≤ n
    · go_wp2_with fail
      refine (HSP.out _ j hjn Rr.out HBr.out.size).mono ?_
      rintro e w3 ⟨rfl, hb⟩
      have hs3 := hb.size
      have HB3 : Hid (Below w.heap.size w w3) := HBr.out.trans (hb.mono HBr.out.size)
      have R3 : Hid (Rd w3 w.heap.size A (sv l)) := Rr.out.below (hb.mono HBr.out.size)
      have BX3 : Hid (BxS w3 w.heap.size f t) := BXr.out.next hb
      clear hb HBr Rr BXr
      by_cases hjr : j = r
      · have hh := HHR.out j hjn
        rw [decide_eq_true hjr] at hh
        have HH := Lib.hid hh; clear hh
        generalize frT l j = f1 at *
        generalize toT l j = t1 at *
        subst hjr
        go_wp2_with fail
        refine (HH.out _).mono ?_
        rintro e w4 ⟨rfl, hb⟩
        obtain ⟨hcw4, hfw4⟩ := bcell hb
        have HBw4 : Hid (Below w.heap.size w w4) := Below.go (by have hpre := HB3.out; have hps := hpre.size; go_grown) hb (by have hpre := HB3.out; have hps := hpre.size; go_size)
        have HEw4 := Lib.hid hb
        clear hb
        have hB4 : Below w3.heap.size w3 w4 := Below.go ((Below.refl _ _).alloc (Nat.le_refl _) _) HEw4.out (by simp)
        go_wp2
        exact ⟨⟨j + 1, by omega, by go_num, HBw4, R3.out.below (hB4.mono HB3.out.size), BX3.out.next hB4⟩, by simp [intOf]; omega⟩
      · have hh := HHR.out j hjn
        rw [decide_eq_false hjr] at hh
        have HH := Lib.hid hh; clear hh
        generalize frT l j = f1 at *
        generalize toT l j = t1 at *
        have hne : ((j : Int) == (r : Int)) = false := by rw [beq_eq_false_iff_ne]; omega
        go_wp2_with fail
        refine (HH.out _).mono ?_
        rintro e w4 ⟨rfl, hb⟩
        obtain ⟨hcw4, hfw4⟩ := bcell hb
        have HBw4 : Hid (Below w.heap.size w w4) := Below.go (by have hpre := HB3.out; have hps := hpre.size; go_grown) hb (by have hpre := HB3.out; have hps := hpre.size; go_size)
        have HEw4 := Lib.hid hb
        clear hb
        have hB4 : Below w3.heap.size w3 w4 := Below.go ((Below.refl _ _).alloc (Nat.le_refl _) _) HEw4.out (by simp)
        go_wp2
        exact ⟨⟨j + 1, by omega, by go_num, HBw4, R3.out.below (hB4.mono HB3.out.size), BX3.out.next hB4⟩, by simp [intOf]; omega⟩
    · obtain rfl : j = n + 1 := by omega
      clear HHR
      cases he : sEmp f t
      case true =>
        have hem := HEM.out
        have hpa := HPA.out
        have hq := emp_has he k
        rw [he] at hem
        rw [partsN_emp HC.out he] at hpa
        have hhs := HHS.out
        rw [hq] at hhs
        have H1 := Lib.hid hem; have H2 := Lib.hid hpa; have H3 := Lib.hid hhs
        clear hem hpa hhs hq HEM HPA HHS he HC HSP HOF HRR HL HR0
        obtain ⟨x0, x1, x2⟩ := BXr.out
        go_wp2_with fail
        refine (H2.out _ Rr.out HBr.out.size).mono ?_
        rintro e w5 ⟨v, rfl, own, hb⟩
        have HB5 : Hid (Below w.heap.size w w5) := HBr.out.trans (hb.mono HBr.out.size)
        have BX5 : Hid (BxS w5 w.heap.size f t) := BXr.out.next hb
        obtain ⟨A1, c1, rfl, -⟩ := own_rdS own (by decide)
        clear own hb x0 x1 x2 H2 HBr BXr Rr
        obtain ⟨x0, x1, x2⟩ := BX5.out
        go_wp2_with fail
        refine (H1.out _).mono ?_
        rintro e w6 ⟨rfl, hb⟩
        have HB6 : Hid (Below w.heap.size w w6) := HB5.out.trans (hb.mono HB5.out.size)
        have BX6 : Hid (BxS w6 w.heap.size f t) := BX5.out.next hb
        clear hb x0 x1 x2 BX5 HB5 H1
        obtain ⟨x0, x1, x2⟩ := BX6.out
        go_wp2_with fail
        go_loopw [17, 18] (fun s s' wr => s = .int .i64 0 ∧ s' = .int .i64 0 ∧ wr = w6) (fun _ _ _ => 0)
        case atStart => exact ⟨rfl, rfl, rfl⟩
        case round =>
          obtain ⟨rfl, rfl, rfl⟩ := hrel
          go_wp2_with fail
          go_quiet (fail)
          go_wp2_with fail
          refine (H3.out _).mono ?_
          rintro e w7 ⟨rfl, hb⟩
          have HB7 : Hid (Below w.heap.size w w7) := (bel_dn HB6.out _).trans (hb.mono HB6.out.size)
          go_wp2
          go_ret
          exact ⟨rfl, HB7.out⟩
      case false =>
        have hpa := HPA.out
        have hem := HEM.out
        rw [he] at hem
        obtain ⟨a, ha⟩ : ∃ a, a = paA l f := ⟨_, rfl⟩
        obtain ⟨b, hb⟩ : ∃ b, b = paB l t := ⟨_, rfl⟩
        have hab : a ≤ b := by rw [ha, hb]; exact paA_le_paB HC.out he
        have hbn : b ≤ n := by rw [hb, ← HL.out]; exact paB_le HC.out t
        obtain ⟨L, hL, hLb⟩ : ∃ L, (partsN l f t).length = L + 1 ∧ a + L = b := ⟨b - a, by rw [partsN_len HC.out he, ← ha, ← hb]; omega, by omega⟩
        have hpg : ∀ i, i < L + 1 → (pv (partsN l f t))[2 * i]? = some (.string (paP l f t (a + i)).1) ∧ (pv (partsN l f t))[2 * i + 1]? = some (.string (paP l f t (a + i)).2) := by
          intro i hi
          have h : i < (partsN l f t).length := by omega
          have e := partsN_get HC.out he h
          rw [← ha] at e
          rw [pv_get1 _ _ h, pv_get2 _ _ h, e]
          exact ⟨rfl, rfl⟩
        have hpo : ∀ i, i < L + 1 → ofT l (paP l f t (a + i)).1 = a + i := fun i hi => paP_of HC.out he (by omega) (by omega)
        have hme : ∀ i, i < L + 1 → ∀ W, Calls Try.prog 44 #[.agg #[.string (frT l (a + i)), .string (toT l (a + i))], .agg #[.string f, .string t]] W fun e w' => e = .returned (.tuple #[.agg #[.string (paP l f t (a + i)).1, .string (paP l f t (a + i)).2], .bool true]) ∧ Below W.heap.size W w' := fun i hi W => by
          have h := meet_any (frT l (a + i)) (toT l (a + i)) f t W
          have e1 : meetE (frT l (a + i)) (toT l (a + i)) f t = false := by
            rw [paE HC.out he (by rw [HL.out]; omega), decide_eq_true (by omega)]; rfl
          have e2 := paP_meet HC.out (f := f) (t := t) (i := a + i) (by rw [HL.out]; omega)
          unfold meetV at h
          rw [e1] at h
          rw [← e2]
          exact h
        have hpn : ∀ i, i + 1 < L + 1 → (paP l f t (a + i)).2 = (paP l f t (a + (i + 1))).1 := fun i hi => paP_next HC.out (by omega) (by omega)
        have hph : ∀ i, i < L + 1 → ∀ W, Calls Try.prog 49 #[.agg #[.string (paP l f t (a + i)).1, .string (paP l f t (a + i)).2], .string k] W fun e w' => e = .returned (.bool (decide (a + i = r) && sHas f t k)) ∧ Below W.heap.size W w' := fun i hi W => by
          have h := has21_any (paP l f t (a + i)).1 (paP l f t (a + i)).2 k W
          rw [paP_has HC.out (by rw [HL.out]; omega), ← HRR.out] at h
          exact h
        have hp0 : (paP l f t (a + 0)).1 = f := by rw [Nat.add_zero, ha]; exact paP_first HC.out
        have hpl : (paP l f t (a + L)).2 = t := by rw [hLb, hb]; exact paP_last HC.out
        have hq : sHas f t k = true → a ≤ r ∧ r < a + (L + 1) := fun h => by
          have := has_in HC.out he h
          rw [← ha, ← hb, ← HRR.out] at this
          omega
        have hhs := HHS.out
        rw [hL] at hpa
        generalize hqq : sHas f t k = q at *
        generalize partsN l f t = PL at *
        have H1 := Lib.hid hem; have H2 := Lib.hid hpa; have H3 := Lib.hid hhs
        have HPG := Lib.hid hpg; have HPO := Lib.hid hpo; have HME := Lib.hid hme; have HPN := Lib.hid hpn; have HPH := Lib.hid hph; have HP0 := Lib.hid hp0; have HPL := Lib.hid hpl; have HQ := Lib.hid hq
        have haL : a + L ≤ n := by omega
        clear hem hpa hhs hq hqq HEM HPA HHS he HC HRR HL hpg hpo hme hpn hph hp0 hpl ha hb hL hab hbn hLb
        generalize hPP : (fun i => paP l f t (a + i)) = PP at *
        have HPG : Hid (∀ i, i < L + 1 → (pv PL)[2 * i]? = some (.string (PP i).1) ∧ (pv PL)[2 * i + 1]? = some (.string (PP i).2)) := by subst hPP; exact HPG
        have HPO : Hid (∀ i, i < L + 1 → ofT l (PP i).1 = a + i) := by subst hPP; exact HPO
        have HME : Hid (∀ i, i < L + 1 → ∀ W, Calls Try.prog 44 #[.agg #[.string (frT l (a + i)), .string (toT l (a + i))], .agg #[.string f, .string t]] W fun e w' => e = .returned (.tuple #[.agg #[.string (PP i).1, .string (PP i).2], .bool true]) ∧ Below W.heap.size W w') := by subst hPP; exact HME
        have HPN : Hid (∀ i, i + 1 < L + 1 → (PP i).2 = (PP (i + 1)).1) := by subst hPP; exact HPN
        have HPH : Hid (∀ i, i < L + 1 → ∀ W, Calls Try.prog 49 #[.agg #[.string (PP i).1, .string (PP i).2], .string k] W fun e w' => e = .returned (.bool (decide (a + i = r) && q)) ∧ Below W.heap.size W w') := by subst hPP; exact HPH
        have HP0 : Hid ((PP 0).1 = f) := by subst hPP; exact HP0
        have HPL : Hid ((PP L).2 = t) := by subst hPP; exact HPL
        clear hPP
        obtain ⟨x0, x1, x2⟩ := BXr.out
        go_wp2_with fail
        refine (H2.out _ Rr.out HBr.out.size).mono ?_
        rintro e w5 ⟨v, rfl, own, hb⟩
        have HB5 : Hid (Below w.heap.size w w5) := HBr.out.trans (hb.mono HBr.out.size)
        have BX5 : Hid (BxS w5 w.heap.size f t) := BXr.out.next hb
        have R5 : Hid (Rd w5 w.heap.size A (sv l)) := Rr.out.below (hb.mono HBr.out.size)
        obtain ⟨A1, c1, rfl, rd1⟩ := own_rdS own (by decide)
        clear own hb x0 x1 x2 H2 HBr BXr Rr
        have hL0 : (((L : Int) + 1) == 0) = false := by rw [beq_eq_false_iff_ne]; omega
        have hL1 : decide (((L : Int) + 1) = 0) = false := decide_eq_false (by omega)
        have hL2 : (((L + 1 : Nat) : Int) == 0) = false := by rw [beq_eq_false_iff_ne]; omega
        obtain ⟨bb, oo, rfl, hbb, -⟩ := rd1.at_ (HPG.out 0 (by omega)).1
        have HCL : Hid (∀ W, Rd W w5.heap.size (some ⟨bb, oo, none⟩) (pv PL) → ∀ i, i < L + 1 → W.cell? ⟨bb, oo + i * 2, none⟩ = some (.string (PP i).1) ∧ W.cell? ⟨bb, oo + i * 2 + 1, none⟩ = some (.string (PP i).2)) := by
          intro W h i hi
          obtain ⟨_, _, e, _, ca⟩ := h.at_ (HPG.out i hi).1
          injection e with e; injection e with e1 e2; subst e1 e2
          obtain ⟨_, _, e, _, cb⟩ := h.at_ (HPG.out i hi).2
          injection e with e; injection e with e1 e2; subst e1 e2
          rw [Nat.mul_comm i 2, Nat.add_assoc]
          exact ⟨ca, cb⟩
        have RP5 : Hid (Rd w5 w5.heap.size (some ⟨bb, oo, none⟩) (pv PL)) := rd1
        clear rd1 HPG
        obtain ⟨x0, x1, x2⟩ := BX5.out
        go_wp2_with fail
        refine (H1.out _).mono ?_
        rintro e w6 ⟨rfl, hb⟩
        have hs6 := hb.size
        have HB6 : Hid (Below w.heap.size w w6) := HB5.out.trans (hb.mono HB5.out.size)
        have BX6 : Hid (BxS w6 w.heap.size f t) := BX5.out.next hb
        have R6 : Hid (Rd w6 w.heap.size A (sv l)) := R5.out.below (hb.mono HB5.out.size)
        have RP6 : Hid (Rd w6 w5.heap.size (some ⟨bb, oo, none⟩) (pv PL)) := RP5.out.below hb
        clear hb x0 x1 x2 BX5 HB5 H1 R5 RP5
        go_wp2_with fail
        go_loopw [17, 18] (fun s s' wr => ∃ i cn : Nat, i ≤ L + 1 ∧ cn ≤ 1 ∧ s = .int .i64 cn ∧ s' = .int .i64 i ∧ Hid (cn = cntP a r q i) ∧ Hid (Below w6.heap.size w6 wr)) (fun _ s' _ => L + 1 - (intOf s').toNat)
        case atStart => exact ⟨0, 0, by omega, by omega, rfl, rfl, (cntP_zero _ _ _).symm, Below.refl _ _⟩
        case round =>
          obtain ⟨i, cn, hi, hcn1, rfl, rfl, HCN, HW⟩ := hrel
          have HBr : Hid (Below w.heap.size w wr) := HB6.out.trans (HW.out.mono HB6.out.size)
          have BXr : Hid (BxS wr w.heap.size f t) := BX6.out.next HW.out
          have Rr : Hid (Rd wr w.heap.size A (sv l)) := R6.out.below (HW.out.mono HB6.out.size)
          have RPr : Hid (Rd wr w5.heap.size (some ⟨bb, oo, none⟩) (pv PL)) := RP6.out.below (HW.out.mono hs6)
          have hsr := HW.out.size
          have hbr : bb < wr.heap.size := by omega
          by_cases hil : i < L + 1
          · rcases i with _ | i
            · skip
              obtain ⟨x0, x1, x2⟩ := BXr.out
              obtain ⟨ca, cb⟩ := HCL.out _ RPr.out 0 (by omega)
              have hpo := HPO.out 0 (by omega)
              have hme := HME.out 0 (by omega)
              have hph := HPH.out 0 (by omega)
              have hsn : a + 0 ≤ n := by omega
              generalize hfr : frT l (a + 0) = f1 at *
              generalize hto : toT l (a + 0) = t1 at *
              generalize hsI : a + 0 = sI at *
              generalize hpI : PP 0 = pI at *
              obtain ⟨p1, p2⟩ := pI
              simp only at ca cb hpo hme hph
              simp only [Nat.zero_mul, Nat.add_zero] at ca cb
              have hof := fun W h => HOF.out p1 W h
              rw [hpo] at hof
              have hsp := fun W => HSP.out W sI hsn
              rw [hfr, hto] at hsp
              have HO1 := Lib.hid hof; have HS1 := Lib.hid hsp; have HM1 := Lib.hid hme; have HH1 := Lib.hid hph
              clear hof hsp hme hph hpo x0 x1 x2
              go_wp2_with fail
              refine (HO1.out _ Rr.out).mono ?_
              rintro e w' ⟨rfl, q1, rfl⟩
              have HBr1 := Lib.hid (bel_dn HBr.out q1)
              go_wp2_with fail
              refine (HS1.out _ (Rd.drew Rr.out q1) HBr1.out.size).mono ?_
              rintro e w7 ⟨rfl, hb⟩
              have hb7 : Below wr.heap.size wr w7 := (bel_dn (Below.refl _ _) q1).trans hb
              have hs7 := hb7.size
              have HW7 : Hid (Below w6.heap.size w6 w7) := HW.out.trans (hb7.mono hsr)
              have BX7 : Hid (BxS w7 w.heap.size f t) := BXr.out.next hb7
              have RP7 : Hid (Rd w7 w5.heap.size (some ⟨bb, oo, none⟩) (pv PL)) := RPr.out.below (hb7.mono (by omega))
              clear hb hb7 HBr1 HW BXr Rr RPr ca cb HBr
              obtain ⟨x0, x1, x2⟩ := BX7.out
              go_wp2_with fail
              refine (HM1.out _).mono ?_
              rintro e w8 ⟨rfl, hb⟩
              have hb8 : Below w7.heap.size w7 w8 := Below.go ((Below.refl _ _).alloc (Nat.le_refl _) _) hb (by simp)
              have hs8 : w7.heap.size + 1 ≤ w8.heap.size := by simpa using hb.size
              have HW8 : Hid (Below w6.heap.size w6 w8) := HW7.out.trans (hb8.mono HW7.out.size)
              have RP8 : Hid (Rd w8 w5.heap.size (some ⟨bb, oo, none⟩) (pv PL)) := RP7.out.below (hb8.mono (by omega))
              have hbb8 : bb < w8.heap.size := by omega
              clear hb hb8 HW7 BX7 RP7 x0 x1 x2 HO1 HS1 HM1
              obtain ⟨ca, cb⟩ := HCL.out _ RP8.out 0 (by omega)
              rw [hpI] at ca cb
              simp only [Nat.zero_mul, Nat.add_zero] at ca cb
              go_wp2_with fail
              go_quiet (fail)
              go_wp2_with fail
              refine (HH1.out _).mono ?_
              rintro e w9 ⟨rfl, hb⟩
              have HW9 : Hid (Below w6.heap.size w6 w9) := Below.go (bel_dn (HW8.out.alloc HW8.out.size _) _) hb (by have := HW8.out.size; simp; omega)
              clear hb HW8 RP8 ca cb HH1
              cases hd : (decide (sI = r) && q)
              · have hc2 := cntP_no (a := a) (r := r) (q := q) (i := 0) (by rw [hsI]; exact hd)
                go_wp2
                go_roundw
                case rel => exact ⟨0 + 1, cn, by omega, hcn1, rfl, by go_num, HCN.out.trans hc2.symm, HW9⟩
                case measure => first | (simp [intOf]; omega) | simp [intOf]
              · have hc2 := cntP_yes (a := a) (r := r) (q := q) (i := 0) (by rw [hsI]; exact hd)
                have hcn0 : cn = 0 := HCN.out.trans hc2.1
                subst hcn0
                go_wp2
                go_roundw
                case rel => exact ⟨0 + 1, 1, by omega, by omega, rfl, by go_num, hc2.2.symm, HW9⟩
                case measure => first | (simp [intOf]; omega) | simp [intOf]
            · skip
              obtain ⟨x0, x1, x2⟩ := BXr.out
              obtain ⟨ca, cb⟩ := HCL.out _ RPr.out (i + 1) (by omega)
              have hpo := HPO.out (i + 1) (by omega)
              have hme := HME.out (i + 1) (by omega)
              have hph := HPH.out (i + 1) (by omega)
              obtain ⟨-, cp⟩ := HCL.out _ RPr.out i (by omega)
              rw [HPN.out i (by omega)] at cp
              have hsn : a + (i + 1) ≤ n := by omega
              generalize hfr : frT l (a + (i + 1)) = f1 at *
              generalize hto : toT l (a + (i + 1)) = t1 at *
              generalize hsI : a + (i + 1) = sI at *
              generalize hpI : PP (i + 1) = pI at *
              obtain ⟨p1, p2⟩ := pI
              simp only at ca cb hpo hme hph
              simp only at cp
              have hof := fun W h => HOF.out p1 W h
              rw [hpo] at hof
              have hsp := fun W => HSP.out W sI hsn
              rw [hfr, hto] at hsp
              have HO1 := Lib.hid hof; have HS1 := Lib.hid hsp; have HM1 := Lib.hid hme; have HH1 := Lib.hid hph
              clear hof hsp hme hph hpo x0 x1 x2
              go_wp2_with fail
              refine (HO1.out _ Rr.out).mono ?_
              rintro e w' ⟨rfl, q1, rfl⟩
              have HBr1 := Lib.hid (bel_dn HBr.out q1)
              go_wp2_with fail
              refine (HS1.out _ (Rd.drew Rr.out q1) HBr1.out.size).mono ?_
              rintro e w7 ⟨rfl, hb⟩
              have hb7 : Below wr.heap.size wr w7 := (bel_dn (Below.refl _ _) q1).trans hb
              have hs7 := hb7.size
              have HW7 : Hid (Below w6.heap.size w6 w7) := HW.out.trans (hb7.mono hsr)
              have BX7 : Hid (BxS w7 w.heap.size f t) := BXr.out.next hb7
              have RP7 : Hid (Rd w7 w5.heap.size (some ⟨bb, oo, none⟩) (pv PL)) := RPr.out.below (hb7.mono (by omega))
              clear hb hb7 HBr1 HW BXr Rr RPr ca cb HBr cp
              obtain ⟨x0, x1, x2⟩ := BX7.out
              go_wp2_with fail
              refine (HM1.out _).mono ?_
              rintro e w8 ⟨rfl, hb⟩
              have hb8 : Below w7.heap.size w7 w8 := Below.go ((Below.refl _ _).alloc (Nat.le_refl _) _) hb (by simp)
              have hs8 : w7.heap.size + 1 ≤ w8.heap.size := by simpa using hb.size
              have HW8 : Hid (Below w6.heap.size w6 w8) := HW7.out.trans (hb8.mono HW7.out.size)
              have RP8 : Hid (Rd w8 w5.heap.size (some ⟨bb, oo, none⟩) (pv PL)) := RP7.out.below (hb8.mono (by omega))
              have hbb8 : bb < w8.heap.size := by omega
              clear hb hb8 HW7 BX7 RP7 x0 x1 x2 HO1 HS1 HM1
              obtain ⟨ca, cb⟩ := HCL.out _ RP8.out (i + 1) (by omega)
              rw [hpI] at ca cb
              obtain ⟨-, cp⟩ := HCL.out _ RP8.out i (by omega)
              rw [HPN.out i (by omega), hpI] at cp
              simp only at ca cb cp
              go_wp2_with fail
              go_quiet (fail)
              go_wp2_with fail
              refine (HH1.out _).mono ?_
              rintro e w9 ⟨rfl, hb⟩
              have HW9 : Hid (Below w6.heap.size w6 w9) := Below.go (bel_dn (HW8.out.alloc HW8.out.size _) _) hb (by have := HW8.out.size; simp; omega)
              clear hb HW8 RP8 ca cb HH1 cp
              cases hd : (decide (sI = r) && q)
              · have hc2 := cntP_no (a := a) (r := r) (q := q) (i := (i + 1)) (by rw [hsI]; exact hd)
                go_wp2
                go_roundw
                case rel => exact ⟨(i + 1) + 1, cn, by omega, hcn1, rfl, by go_num, HCN.out.trans hc2.symm, HW9⟩
                case measure => first | (simp [intOf]; omega) | simp [intOf]
              · have hc2 := cntP_yes (a := a) (r := r) (q := q) (i := (i + 1)) (by rw [hsI]; exact hd)
                have hcn0 : cn = 0 := HCN.out.trans hc2.1
                subst hcn0
                go_wp2
                go_roundw
                case rel => exact ⟨(i + 1) + 1, 1, by omega, by omega, rfl, by go_num, hc2.2.symm, HW9⟩
                case measure => first | (simp [intOf]; omega) | simp [intOf]
          · obtain rfl : i = L + 1 := by omega
            obtain ⟨x0, x1, x2⟩ := BXr.out
            obtain ⟨ca, -⟩ := HCL.out _ RPr.out 0 (by omega)
            obtain ⟨-, cb⟩ := HCL.out _ RPr.out L (by omega)
            rw [HP0.out] at ca
            rw [HPL.out] at cb
            simp only [Nat.zero_mul, Nat.add_zero] at ca
            have hcn := HCN.out
            have hL3 : decide (0 < (L : Int) + 1) = true := decide_eq_true (by omega)
            cases q
            · have hv : cn = 0 := by rw [hcn]; unfold cntP; simp
              clear hcn
              subst hv
              go_wp2_with fail
              go_quiet (fail)
              go_wp2_with fail
              refine (H3.out _).mono ?_
              rintro e w9 ⟨rfl, hb⟩
              have HB9 : Hid (Below w.heap.size w w9) := (bel_dn HBr.out _).trans (hb.mono HBr.out.size)
              clear hb
              go_wp2
              go_ret
              exact ⟨rfl, HB9.out⟩
            · have hv : cn = 1 := by
                have := HQ.out rfl
                rw [hcn]; unfold cntP; rw [if_pos ⟨rfl, this.1, this.2⟩]
              clear hcn
              subst hv
              go_wp2_with fail
              go_quiet (fail)
              go_wp2_with fail
              refine (H3.out _).mono ?_
              rintro e w9 ⟨rfl, hb⟩
              have HB9 : Hid (Below w.heap.size w w9) := (bel_dn HBr.out _).trans (hb.mono HBr.out.size)
              clear hb
              go_wp2
              go_ret
              exact ⟨rfl, HB9.out⟩
end Go.Proofs.Ytlpdihcgdgkkbaa
