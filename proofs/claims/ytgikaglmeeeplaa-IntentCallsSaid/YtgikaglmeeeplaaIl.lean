/- Walk: a write is never laid at or below a read of its key, a version of it, or another's stamp. -/
import Derived.Test.YtgikaglmeeeplaaIj
import Derived.Test.YtgikaglmeeeplaaIk
import Derived.Test.YtgikaglmeeeplaaOcase
import Derived.Deep.MidRow
import Derived.Deep.Cut
namespace Go.Proofs.Ytgikaglmeeeplaa
open Go.RowKit Go.St
set_option linter.unusedVariables false
set_option linter.unusedSimpArgs false
set_option maxRecDepth 100000

theorem small24_any (k : Cas) (w : World) : Calls Try.prog 8 #[.agg k.cells.toArray] w fun e w' => e = .returned (.bool (decide (k.n ≤ 60) && decide (k.m ≤ 60))) ∧ Below w.heap.size w w' := by
  have hu : k.cells.toArray = #[.slice k.A k.n k.c, .slice k.A2 k.m k.c2, .int .i64 k.at_.wall, .int .i32 k.at_.logic, .int .i32 k.at_.tag, .int .i64 k.to_.wall, .int .i32 k.to_.logic, .int .i32 k.to_.tag, .int .i32 k.by_.1, .int .i32 k.by_.2, .string k.x.key, .int .i32 k.x.nd, .int .i32 k.x.nu, .int .i64 k.x.bg.wall, .int .i32 k.x.bg.logic, .int .i32 k.x.bg.tag, .string k.x.anc, .int .i64 k.x.at_.wall, .int .i32 k.x.at_.logic, .int .i32 k.x.at_.tag, .string k.x.val, .bool k.x.del, .int .i32 k.r.nd, .int .i32 k.r.nu, .int .u8 k.r.st, .int .i64 k.r.at_.wall, .int .i32 k.r.at_.logic, .int .i32 k.r.at_.tag, .slice k.r.A k.r.n k.r.c, .int .i64 k.r.beat, .int .i64 k.r.pu.wall, .int .i32 k.r.pu.logic, .int .i32 k.r.pu.tag, .slice k.A3 k.q k.c3] := rfl
  rw [hu]
  clear hu
  by_cases h1 : k.n ≤ 60
  · have g1 : (k.n : Int) ≤ 60 := by omega
    by_cases h2 : k.m ≤ 60
    · have g2 : (k.m : Int) ≤ 60 := by omega
      rw [decide_eq_true h1, decide_eq_true h2]
      clear h1 h2
      go_enter Try.func8, Try.ntmps8
      go_wp2
      go_ret
      exact ⟨rfl, (Below.refl _ _).alloc (Nat.le_refl _) _⟩
    · have g2 : ¬ (k.m : Int) ≤ 60 := by omega
      rw [decide_eq_true h1, decide_eq_false h2]
      clear h1 h2
      go_enter Try.func8, Try.ntmps8
      go_wp2
      go_ret
      exact ⟨rfl, (Below.refl _ _).alloc (Nat.le_refl _) _⟩
  · have g1 : ¬ (k.n : Int) ≤ 60 := by omega
    rw [decide_eq_false h1]
    clear h1
    go_enter Try.func8, Try.ntmps8
    go_wp2
    go_ret
    exact ⟨rfl, (Below.refl _ _).alloc (Nat.le_refl _) _⟩

set_option maxHeartbeats 12800000 in
theorem intentWrites_walk (w : World) (k : Cas) (h : InCas w k) :
    Calls Try.prog 3 #[.agg k.cells.toArray] w fun e w' => e = .returned (.bool true) ∧ Below w.heap.size w w' := by
  have HI := Lib.hid h
  clear h
  have HSM := Lib.hid (small24_any k)
  have hsz : k.cells.length = 34 := rfl
  go_enter Try.func3, Try.ntmps3
  go_wp2_with fail
  refine (lives24_any _).mono ?_
  rintro e w1 ⟨rfl, hb1⟩
  have X1 := Lib.hid ((BxV.new w k.cells.toArray 36).next hb1)
  have B1 : Hid (Below w.heap.size w w1) := Lib.hid (((Below.refl _ _).alloc (Nat.le_refl _) _).trans (hb1.mono (by simp)))
  clear hb1
  have hrg : w1.rangeAt w.heap.size 0 k.cells := fun j v hv => by rw [Nat.zero_add]; exact X1.out.c j v (by simpa using hv)
  go_wp2_with (refine wpList_load_mid rfl 36 _ rfl w.heap.size 0 rfl k.cells _ hrg Try.underlying36 rfl (by kernel_rfl) ?_)
  refine (HSM.out _).mono ?_
  rintro e w2 ⟨rfl, hb2⟩
  have X2 := Lib.hid (X1.out.next hb2)
  have B2 := Lib.hid (B1.out.trans (hb2.mono B1.out.size))
  clear hrg hsz X1 B1 hb2 HSM
  by_cases hn : k.n ≤ 60
  case neg =>
    rw [decide_eq_false hn]
    go_wp2_with fail
    go_ret
    exact ⟨rfl, B2.out⟩
  by_cases hm : k.m ≤ 60
  case neg =>
    rw [decide_eq_true hn, decide_eq_false hm]
    go_wp2_with fail
    go_ret
    exact ⟨rfl, B2.out⟩
  rw [decide_eq_true hn, decide_eq_true hm]
  have x0 := X2.out.c 0 _ rfl
  have x1 := X2.out.c 1 _ rfl
  go_wp2_with fail
  refine (check24_any k.A k.n k.c k.cs HI.out.hl (by omega) k.A2 k.m k.c2 k.is HI.out.hl2 (by omega) w.heap.size w2 (HI.out.hr.below B2.out) (HI.out.hr2.below B2.out) B2.out.size).mono ?_
  rintro e w3 ⟨rfl, hb3⟩
  have X3 := Lib.hid (X2.out.next hb3)
  have B3 := Lib.hid (B2.out.trans (hb3.mono B2.out.size))
  clear x0 x1 X2 B2 hb3
  by_cases h0 : chkCI k.cs k.is = 0
  case neg =>
    have e1 : (chkCI k.cs k.is != 0) = true := by simpa using h0
    clear h0
    generalize chkCI k.cs k.is = E at *
    go_wp2_with fail
    go_ret
    exact ⟨rfl, B3.out⟩
  rw [h0]
  have HO := Lib.hid (chkCI_ok.1 h0)
  clear h0
  have HWC := Lib.hid (fun W B hr hr2 hB => write24_any k.A k.n k.c k.cs HI.out.hl (by omega) k.A2 k.m k.c2 k.is HI.out.hl2 (by omega) k.x k.at_ B W hr hr2 hB)
  unfold wrV Itt.v at HWC
  have x0 := X3.out.c 0 _ rfl
  have x1 := X3.out.c 1 _ rfl
  have x2 := X3.out.c 2 _ rfl
  have x3 := X3.out.c 3 _ rfl
  have x4 := X3.out.c 4 _ rfl
  have x10 := X3.out.c 10 _ rfl
  have x11 := X3.out.c 11 _ rfl
  have x12 := X3.out.c 12 _ rfl
  have x13 := X3.out.c 13 _ rfl
  have x14 := X3.out.c 14 _ rfl
  have x15 := X3.out.c 15 _ rfl
  have x16 := X3.out.c 16 _ rfl
  have x17 := X3.out.c 17 _ rfl
  have x18 := X3.out.c 18 _ rfl
  have x19 := X3.out.c 19 _ rfl
  have x20 := X3.out.c 20 _ rfl
  have x21 := X3.out.c 21 _ rfl
  go_wp2_with fail
  refine (HWC.out _ w.heap.size (HI.out.hr.below B3.out) (HI.out.hr2.below B3.out) B3.out.size).mono ?_
  rintro e w4 ⟨rfl, hb4⟩
  have X4 := Lib.hid (X3.out.next hb4)
  have B4 := Lib.hid (B3.out.trans (hb4.mono B3.out.size))
  clear x0 x1 x2 x3 x4 x10 x11 x12 x13 x14 x15 x16 x17 x18 x19 x20 x21 X3 B3 hb4 HWC
  obtain ⟨T, hT⟩ : ∃ T, T = wrT k.cs k.is k.x k.at_ := ⟨_, rfl⟩
  have HT := Lib.hid hT
  rw [← hT]
  clear hT
  have TE : Hid (T.2.2 ≠ 0 → T.1 = zeroS ∧ T.2.1 = false) := Lib.hid (by rw [HT.out]; exact wr_err)
  have TM : Hid (T.2.1 = true → ¬ noK k.is k.x.key k.is.length) := Lib.hid (by rw [HT.out]; exact wr_met)
  have TF : Hid (T.2.2 = 0 → noK k.is k.x.key k.is.length → T.2.1 = false ∧ T.1.tag = k.x.at_.tag ∧ less T.1 k.x.at_ = false ∧ less k.at_ T.1 = true ∧ ∀ (i : Nat) (c : Cel), k.cs[i]? = some c → c.key = k.x.key → less c.at_ T.1 = true) := Lib.hid (by rw [HT.out]; exact wr_free)
  have TA : Hid (T.2.2 = 0 → ∀ (i : Nat) (y : Itt), k.is[i]? = some y → y.key = k.x.key → T = if y.nd = k.x.nd ∧ y.nu = k.x.nu then (y.at_, false, 0) else (zeroS, true, 0)) := Lib.hid (by rw [HT.out]; exact fun h i y hy hk => wr_at h (fun _ _ => trivial) HO.out.2.2.2 hy hk (wr_zero h).1 (wr_zero h).2)
  clear HT
  obtain ⟨t, met, E⟩ := T
  dsimp only at TE TM TF TA ⊢
  have XT : Hid (BxV (w4.alloc (.cells #[.int .i64 t.wall, .int .i32 t.logic, .int .i32 t.tag] 25)) w4.heap.size (spc t)) := Lib.hid (BxV.new _ _ _)
  have X5 := Lib.hid (X4.out.alloc (.cells #[.int .i64 t.wall, .int .i32 t.logic, .int .i32 t.tag] 25))
  have B5 := Lib.hid (B4.out.alloc B4.out.size (.cells #[.int .i64 t.wall, .int .i32 t.logic, .int .i32 t.tag] 25))
  have hs5 : w.heap.size < w4.heap.size := X4.out.lt
  clear X4 B4
  go_upto_region 6 with (fail)
  generalize w4.alloc (.cells #[.int .i64 t.wall, .int .i32 t.logic, .int .i32 t.tag] 25) = w5 at *
  generalize w4.heap.size = p at *
  by_cases h0 : E = 0
  case neg =>
    obtain ⟨rfl, rfl⟩ := TE.out h0
    have e1 : (E != 0) = true := by simpa using h0
    have t0 := XT.out.c 0 _ rfl
    have t1 := XT.out.c 1 _ rfl
    have t2 := XT.out.c 2 _ rfl
    unfold zeroS at t0 t1 t2
    dsimp only at t0 t1 t2
    clear h0
    go_wp2_with fail
    go_ret
    exact ⟨rfl, B5.out⟩
  subst h0
  have HKM := Lib.hid (moved_any k.x k.to_)
  unfold Itt.v at HKM
  go_wp2_with fail
  go_loopw [6, 7] (fun s6 s7 wr => ∃ (own : Bool) (i : Nat), s6 = .bool own ∧ s7 = .int .i64 (i : Int) ∧ i ≤ k.m ∧ Hid (own = false → noK k.is k.x.key i) ∧ Hid (own = true → ¬ noK k.is k.x.key k.is.length) ∧ Hid (Below w5.heap.size w5 wr)) (fun s6 s7 _ => k.m - (intOf s7).toNat)
  case atStart => exact ⟨false, 0, rfl, rfl, Nat.zero_le _, Lib.hid (fun _ j a h => by omega), Lib.hid (fun e => by cases e), Lib.hid (Below.refl _ _)⟩
  case round =>
    obtain ⟨own, i, rfl, rfl, hi, HN, HNT, hB1⟩ := hrel
    obtain ⟨w6, rfl⟩ : ∃ x, x = wr := ⟨_, rfl⟩
    have X6 := Lib.hid (X5.out.next hB1.out)
    have T6 := Lib.hid (XT.out.next hB1.out)
    have B6 := Lib.hid (B5.out.trans (hB1.out.mono B5.out.size))
    have u1 := X6.out.c 1 _ rfl
    have z0 := X6.out.lt
    by_cases hlt : i < k.m
    · obtain ⟨y, hy⟩ : ∃ y, k.is[i]? = some y := ⟨_, List.getElem?_eq_getElem (by rw [HI.out.hl2]; exact hlt)⟩
      obtain ⟨b, off, hA, hb, hce⟩ := it_at HI.out.hr2 hy
      obtain ⟨d0, d1, d2, -, -, -, -, d7, d8, d9, -, -⟩ := hce.below hb B6.out
      have z1 : b < w6.heap.size := by have := B6.out.size; omega
      have HY := Lib.hid hy
      have u10 := X6.out.c 10 _ rfl
      have i1 : (i : Int) < (k.m : Int) := by omega
      have i0 : (0 : Int) ≤ (i : Int) := by omega
      rw [hA] at u1
      clear hce hy hA
      by_cases q0 : y.key = k.x.key
      · have g0 : (y.key.toList == k.x.key.toList) = true := by rw [str_eq, decide_eq_true q0]
        have HK := Lib.hid q0
        have HNO : Hid (¬ noK k.is k.x.key k.is.length) := Lib.hid (fun hn => hn i y (by have := (List.getElem?_eq_some_iff.1 HY.out).1; exact this) HY.out HK.out)
        have u11 := X6.out.c 11 _ rfl
        have u12 := X6.out.c 12 _ rfl
        have v0 := T6.out.c 0 _ rfl
        have v1 := T6.out.c 1 _ rfl
        have v2 := T6.out.c 2 _ rfl
        have zp := T6.out.lt
        clear q0 HN HNT X6 B6 T6
        by_cases q1 : y.nd = k.x.nd
        · have g1 : (y.nd == k.x.nd) = true := by simpa using q1
          by_cases q2 : y.nu = k.x.nu
          · have g2 : (y.nu == k.x.nu) = true := by simpa using q2
            have hT := TA.out trivial i y HY.out HK.out
            rw [if_pos ⟨q1, q2⟩] at hT
            injection hT with hT1 hT2
            injection hT2 with hT3 hT4
            clear q1 q2 hT4
            subst hT1 hT3
            go_wp2_with fail
            refine wp_qall (by kernel_rfl) (by kernel_rfl) ?_
            intro hcg
            repeat (first | go_big_quiet_step (fail) | quiet_step (fail))
            refine wpQuiet_nil ?_
            intro wq hbwq hcwq hfwq
            clear hcg
            have z1q := Nat.lt_of_lt_of_le z1 hbwq.size
            have z0q := Nat.lt_of_lt_of_le z0 hbwq.size
            have zpq := Nat.lt_of_lt_of_le zp hbwq.size
            have Bq := Lib.hid (hB1.out.trans (hbwq.mono hB1.out.size))
            have c1 := (hcwq _ _ z1).trans d1
            have c2 := (hcwq _ _ z1).trans d2
            have c7 := (hcwq _ _ z1).trans d7
            have c8 := (hcwq _ _ z1).trans d8
            have c9 := (hcwq _ _ z1).trans d9
            have u1q := (hcwq _ _ z0).trans u1
            have u11q := (hcwq _ _ z0).trans u11
            have u12q := (hcwq _ _ z0).trans u12
            have v0q := (hcwq _ _ zp).trans v0
            have v1q := (hcwq _ _ zp).trans v1
            have v2q := (hcwq _ _ zp).trans v2
            clear d0 d1 d2 d7 d8 d9 u1 u10 u11 u12 v0 v1 v2 hcwq hfwq hbwq
            go_wp2_with fail
            refine wp_qall (by kernel_rfl) (by kernel_rfl) ?_
            intro hcg
            repeat (first | go_big_quiet_step (fail) | quiet_step (fail))
            refine wpQuiet_nil ?_
            intro wr2 hbwr2 hcwr2 hfwr2
            clear hcg
            have Br := Lib.hid (Bq.out.trans (hbwr2.mono Bq.out.size))
            clear hbwr2 hcwr2 hfwr2 Bq hB1
            go_wp2_with fail
            go_roundw
            case rel => exact ⟨true, i + 1, rfl, by go_num, by omega, Lib.hid (fun e => (by cases e)), Lib.hid (fun _ => HNO.out), Br⟩
            case measure => simp [intOf]; omega
          · have g2 : (y.nu == k.x.nu) = false := by simpa using q2
            have hne : Hid (¬ (y.nd = k.x.nd ∧ y.nu = k.x.nu)) := Lib.hid (fun e => q2 e.2)
            clear q1 q2
            have hT := TA.out trivial i y HY.out HK.out
            rw [if_neg hne.out] at hT
            injection hT with hT1 hT2
            injection hT2 with hT3 hT4
            have e1 : met = true := hT3
            have HM := Lib.hid e1
            clear hT1 hT3 hT4
            subst e1
            go_wp2_with fail
            refine wp_qall (by kernel_rfl) (by kernel_rfl) ?_
            intro hcg
            repeat (first | go_big_quiet_step (fail) | quiet_step (fail))
            refine wpQuiet_nil ?_
            intro wq hbwq hcwq hfwq
            clear hcg
            have z1q := Nat.lt_of_lt_of_le z1 hbwq.size
            have Bq := Lib.hid (hB1.out.trans (hbwq.mono hB1.out.size))
            have c1 := (hcwq _ _ z1).trans d1
            have c2 := (hcwq _ _ z1).trans d2
            have u1q := (hcwq _ _ z0).trans u1
            have u10q := (hcwq _ _ z0).trans u10
            have u11q := (hcwq _ _ z0).trans u11
            have u12q := (hcwq _ _ z0).trans u12
            have z0q := Nat.lt_of_lt_of_le z0 hbwq.size
            clear d0 d1 d2 d7 d8 d9 u1 u10 u11 u12 v0 v1 v2 hcwq hfwq hbwq
            go_wp2_with fail
            refine wp_qall (by kernel_rfl) (by kernel_rfl) ?_
            intro hcg
            repeat (first | go_big_quiet_step (fail) | quiet_step (fail))
            refine wpQuiet_nil ?_
            intro wr2 hbwr2 hcwr2 hfwr2
            clear hcg
            have Br := Lib.hid (Bq.out.trans (hbwr2.mono Bq.out.size))
            clear hbwr2 hcwr2 hfwr2 Bq hB1
            go_wp2_with fail
            go_roundw
            case rel => exact ⟨true, i + 1, rfl, by go_num, by omega, Lib.hid (fun e => (by cases e)), Lib.hid (fun _ => HNO.out), Br⟩
            case measure => simp [intOf]; omega
        · have g1 : (y.nd == k.x.nd) = false := by simpa using q1
          have hne : Hid (¬ (y.nd = k.x.nd ∧ y.nu = k.x.nu)) := Lib.hid (fun e => q1 e.1)
          clear q1
          have hT := TA.out trivial i y HY.out HK.out
          rw [if_neg hne.out] at hT
          injection hT with hT1 hT2
          injection hT2 with hT3 hT4
          have e1 : met = true := hT3
          have HM := Lib.hid e1
          clear hT1 hT3 hT4
          subst e1
          go_wp2_with fail
          refine wp_qall (by kernel_rfl) (by kernel_rfl) ?_
          intro hcg
          repeat (first | go_big_quiet_step (fail) | quiet_step (fail))
          refine wpQuiet_nil ?_
          intro wq hbwq hcwq hfwq
          clear hcg
          have z1q := Nat.lt_of_lt_of_le z1 hbwq.size
          have Bq := Lib.hid (hB1.out.trans (hbwq.mono hB1.out.size))
          have c1 := (hcwq _ _ z1).trans d1
          have c2 := (hcwq _ _ z1).trans d2
          have u1q := (hcwq _ _ z0).trans u1
          have u10q := (hcwq _ _ z0).trans u10
          have u11q := (hcwq _ _ z0).trans u11
          have u12q := (hcwq _ _ z0).trans u12
          have z0q := Nat.lt_of_lt_of_le z0 hbwq.size
          clear d0 d1 d2 d7 d8 d9 u1 u10 u11 u12 v0 v1 v2 hcwq hfwq hbwq
          go_wp2_with fail
          refine wp_qall (by kernel_rfl) (by kernel_rfl) ?_
          intro hcg
          repeat (first | go_big_quiet_step (fail) | quiet_step (fail))
          refine wpQuiet_nil ?_
          intro wr2 hbwr2 hcwr2 hfwr2
          clear hcg
          have Br := Lib.hid (Bq.out.trans (hbwr2.mono Bq.out.size))
          clear hbwr2 hcwr2 hfwr2 Bq hB1
          go_wp2_with fail
          go_roundw
          case rel => exact ⟨true, i + 1, rfl, by go_num, by omega, Lib.hid (fun e => (by cases e)), Lib.hid (fun _ => HNO.out), Br⟩
          case measure => simp [intOf]; omega
      · have g0 : (y.key.toList == k.x.key.toList) = false := by rw [str_eq, decide_eq_false q0]
        have HN2 : Hid (own = false → noK k.is k.x.key (i + 1)) := Lib.hid (fun e => noK_succ (HN.out e) HY.out q0)
        clear q0 HN X6 B6 T6
        go_wp2_with fail
        refine wp_qall (by kernel_rfl) (by kernel_rfl) ?_
        intro hcg
        repeat (first | go_big_quiet_step (fail) | quiet_step (fail))
        refine wpQuiet_nil ?_
        intro wq hbwq hcwq hfwq
        clear hcg
        have Bq := Lib.hid (hB1.out.trans (hbwq.mono hB1.out.size))
        clear hbwq hcwq hfwq hB1
        go_wp2_with fail
        go_roundw
        case rel => exact ⟨own, i + 1, rfl, by go_num, by omega, HN2, HNT, Bq⟩
        case measure => simp [intOf]; omega
    · have i1 : ¬ (i : Int) < (k.m : Int) := by omega
      cases own
      case true =>
        clear hlt
        go_wp2_with fail
        go_ret
        exact ⟨rfl, B6.out⟩
      have hno : noK k.is k.x.key k.is.length := by
        have h1 := HN.out rfl
        have h2 : i = k.is.length := by rw [HI.out.hl2]; omega
        rwa [h2] at h1
      obtain ⟨f1, f2, f3, f4, f5⟩ := TF.out trivial hno
      have HF5 := Lib.hid f5
      have HL1 : Hid (∀ W, Calls Try.prog 11 #[.agg #[.int .i64 t.wall, .int .i32 t.logic, .int .i32 t.tag], .agg #[.int .i64 k.x.at_.wall, .int .i32 k.x.at_.logic, .int .i32 k.x.at_.tag]] W fun e w' => e = .returned (.bool false) ∧ Below W.heap.size W w') := Lib.hid (fun W => by have h := rless_any t k.x.at_ W; rw [f3] at h; exact h)
      have HL2 : Hid (∀ W, Calls Try.prog 11 #[.agg #[.int .i64 k.at_.wall, .int .i32 k.at_.logic, .int .i32 k.at_.tag], .agg #[.int .i64 t.wall, .int .i32 t.logic, .int .i32 t.tag]] W fun e w' => e = .returned (.bool true) ∧ Below W.heap.size W w') := Lib.hid (fun W => by have h := rless_any k.at_ t W; rw [f4] at h; exact h)
      have g5 : (t.tag != k.x.at_.tag) = false := by simpa using f2
      subst f1
      have v0 := T6.out.c 0 _ rfl
      have v1 := T6.out.c 1 _ rfl
      have v2 := T6.out.c 2 _ rfl
      have u17 := X6.out.c 17 _ rfl
      have u18 := X6.out.c 18 _ rfl
      have u19 := X6.out.c 19 _ rfl
      clear f2 f3 f4 f5 hno HN HNT TF TA TM TE hlt
      go_wp2_with fail
      refine (HL1.out _).mono ?_
      rintro e w7 ⟨rfl, hb7⟩
      have X7 := Lib.hid (X6.out.next hb7)
      have T7 := Lib.hid (T6.out.next hb7)
      have B7 := Lib.hid (B6.out.trans (hb7.mono B6.out.size))
      clear v0 v1 v2 u17 u18 u19 u1 z0 hb7 X6 T6 B6
      have v0 := T7.out.c 0 _ rfl
      have v1 := T7.out.c 1 _ rfl
      have v2 := T7.out.c 2 _ rfl
      have u2 := X7.out.c 2 _ rfl
      have u3 := X7.out.c 3 _ rfl
      have u4 := X7.out.c 4 _ rfl
      go_wp2_with fail
      refine (HL2.out _).mono ?_
      rintro e w8 ⟨rfl, hb8⟩
      have X8 := Lib.hid (X7.out.next hb8)
      have T8 := Lib.hid (T7.out.next hb8)
      have B8 := Lib.hid (B7.out.trans (hb8.mono B7.out.size))
      clear v0 v1 v2 u2 u3 u4 hb8 X7 T7 B7 HL1 HL2 XT X5 B5 hB1
      go_wp2_with fail
      go_loopw [8] (fun s8 wr => ∃ (i : Nat), s8 = .int .i64 (i : Int) ∧ i ≤ k.n ∧ Hid (Below w8.heap.size w8 wr)) (fun s8 _ => k.n - (intOf s8).toNat)
      case atStart => exact ⟨0, rfl, Nat.zero_le _, Lib.hid (Below.refl _ _)⟩
      case round =>
        obtain ⟨j, rfl, hj, hB3⟩ := hrel
        obtain ⟨w9, rfl⟩ : ∃ x, x = wr := ⟨_, rfl⟩
        have X9 := Lib.hid (X8.out.next hB3.out)
        have T9 := Lib.hid (T8.out.next hB3.out)
        have B9 := Lib.hid (B8.out.trans (hB3.out.mono B8.out.size))
        have u0 := X9.out.c 0 _ rfl
        have z0 := X9.out.lt
        by_cases hlt2 : j < k.n
        · obtain ⟨y, hy⟩ : ∃ y, k.cs[j]? = some y := ⟨_, List.getElem?_eq_getElem (by rw [HI.out.hl]; exact hlt2)⟩
          obtain ⟨b, off, hA, hb, hce⟩ := ce_at HI.out.hr hy
          obtain ⟨d0, d1, d2, d3, -, -⟩ := hce.below hb B9.out
          have z1 : b < w9.heap.size := by have := B9.out.size; omega
          have HY := Lib.hid hy
          have u10 := X9.out.c 10 _ rfl
          have v0 := T9.out.c 0 _ rfl
          have v1 := T9.out.c 1 _ rfl
          have v2 := T9.out.c 2 _ rfl
          have zp := T9.out.lt
          have i1 : (j : Int) < (k.n : Int) := by omega
          have i0 : (0 : Int) ≤ (j : Int) := by omega
          rw [hA] at u0
          clear hce hy hA
          by_cases q0 : y.key = k.x.key
          · have g0 : (y.key.toList == k.x.key.toList) = true := by rw [str_eq, decide_eq_true q0]
            have HLC : Hid (∀ W, Calls Try.prog 11 #[.agg #[.int .i64 y.at_.wall, .int .i32 y.at_.logic, .int .i32 y.at_.tag], .agg #[.int .i64 t.wall, .int .i32 t.logic, .int .i32 t.tag]] W fun e w' => e = .returned (.bool true) ∧ Below W.heap.size W w') := Lib.hid (fun W => by have h := rless_any y.at_ t W; rw [HF5.out j y HY.out q0] at h; exact h)
            clear q0 X9 T9 B9
            go_wp2_with fail
            refine wp_qall (by kernel_rfl) (by kernel_rfl) ?_
            intro hcg
            repeat (first | go_big_quiet_step ((with_reducible (exact Calls.reg (HLC.out _)))) | quiet_step ((with_reducible (exact Calls.reg (HLC.out _)))))
            refine wpQuiet_nil ?_
            intro wq hbwq hcwq hfwq
            clear hcg
            have Bq := Lib.hid (hB3.out.trans (hbwq.mono hB3.out.size))
            clear hbwq hcwq hfwq hB3
            go_wp2_with fail
            go_roundw
            case rel => exact ⟨j + 1, by go_num, by omega, Bq⟩
            case measure => simp [intOf]; omega
          · have g0 : (y.key.toList == k.x.key.toList) = false := by rw [str_eq, decide_eq_false q0]
            clear q0 X9 T9 B9
            go_wp2_with fail
            refine wp_qall (by kernel_rfl) (by kernel_rfl) ?_
            intro hcg
            repeat (first | go_big_quiet_step (fail) | quiet_step (fail))
            refine wpQuiet_nil ?_
            intro wq hbwq hcwq hfwq
            clear hcg
            have Bq := Lib.hid (hB3.out.trans (hbwq.mono hB3.out.size))
            clear hbwq hcwq hfwq hB3
            go_wp2_with fail
            go_roundw
            case rel => exact ⟨j + 1, by go_num, by omega, Bq⟩
            case measure => simp [intOf]; omega
        · have i1 : ¬ (j : Int) < (k.n : Int) := by omega
          have u5 := X9.out.c 5 _ rfl
          have u6 := X9.out.c 6 _ rfl
          have u7 := X9.out.c 7 _ rfl
          have u10 := X9.out.c 10 _ rfl
          have u11 := X9.out.c 11 _ rfl
          have u12 := X9.out.c 12 _ rfl
          have u13 := X9.out.c 13 _ rfl
          have u14 := X9.out.c 14 _ rfl
          have u15 := X9.out.c 15 _ rfl
          have u16 := X9.out.c 16 _ rfl
          have u17 := X9.out.c 17 _ rfl
          have u18 := X9.out.c 18 _ rfl
          have u19 := X9.out.c 19 _ rfl
          have u20 := X9.out.c 20 _ rfl
          have u21 := X9.out.c 21 _ rfl
          clear hlt2 X8 T8 B8 hB3
          go_wp2_with fail
          refine (HKM.out _).mono ?_
          rintro e w10 ⟨rfl, hb10⟩
          have X10 := Lib.hid (X9.out.next hb10)
          have B10 := Lib.hid (B9.out.trans (hb10.mono B9.out.size))
          clear u0 u5 u6 u7 u10 u11 u12 u13 u14 u15 u16 u17 u18 u19 u20 u21 hb10 X9 T9 B9 z0
          by_cases h0 : movE k.x k.to_ = 0
          · have HM := Lib.hid (mov_ok h0)
            rw [h0]
            obtain ⟨m1, m2, m3, m4⟩ := HM.out
            rw [m1]
            generalize (movM k.x k.to_).at_ = u at *
            have HL1 : Hid (∀ W, Calls Try.prog 11 #[.agg #[.int .i64 k.to_.wall, .int .i32 k.to_.logic, .int .i32 k.to_.tag], .agg #[.int .i64 u.wall, .int .i32 u.logic, .int .i32 u.tag]] W fun e w' => e = .returned (.bool true) ∧ Below W.heap.size W w') := Lib.hid (fun W => by have h := rless_any k.to_ u W; rw [m2] at h; exact h)
            have HL2 : Hid (∀ W, Calls Try.prog 11 #[.agg #[.int .i64 u.wall, .int .i32 u.logic, .int .i32 u.tag], .agg #[.int .i64 k.x.at_.wall, .int .i32 k.x.at_.logic, .int .i32 k.x.at_.tag]] W fun e w' => e = .returned (.bool false) ∧ Below W.heap.size W w') := Lib.hid (fun W => by have h := rless_any u k.x.at_ W; rw [m3] at h; exact h)
            have g5 : (u.tag == k.x.at_.tag) = true := by simpa using m4
            clear m1 m2 m3 m4 HM h0
            dsimp only
            have XY : Hid (BxV (w10.alloc (.cells #[.string k.x.key, .int .i32 k.x.nd, .int .i32 k.x.nu, .int .i64 k.x.bg.wall, .int .i32 k.x.bg.logic, .int .i32 k.x.bg.tag, .string k.x.anc, .int .i64 u.wall, .int .i32 u.logic, .int .i32 u.tag, .string k.x.val, .bool k.x.del] 29)) w10.heap.size [.string k.x.key, .int .i32 k.x.nd, .int .i32 k.x.nu, .int .i64 k.x.bg.wall, .int .i32 k.x.bg.logic, .int .i32 k.x.bg.tag, .string k.x.anc, .int .i64 u.wall, .int .i32 u.logic, .int .i32 u.tag, .string k.x.val, .bool k.x.del]) := Lib.hid (BxV.new _ _ _)
            have X11 := Lib.hid (X10.out.alloc (.cells #[.string k.x.key, .int .i32 k.x.nd, .int .i32 k.x.nu, .int .i64 k.x.bg.wall, .int .i32 k.x.bg.logic, .int .i32 k.x.bg.tag, .string k.x.anc, .int .i64 u.wall, .int .i32 u.logic, .int .i32 u.tag, .string k.x.val, .bool k.x.del] 29))
            have B11 := Lib.hid (B10.out.alloc B10.out.size (.cells #[.string k.x.key, .int .i32 k.x.nd, .int .i32 k.x.nu, .int .i64 k.x.bg.wall, .int .i32 k.x.bg.logic, .int .i32 k.x.bg.tag, .string k.x.anc, .int .i64 u.wall, .int .i32 u.logic, .int .i32 u.tag, .string k.x.val, .bool k.x.del] 29))
            clear X10 B10
            go_upto_region 28 with (fail)
            generalize w10.alloc (.cells #[.string k.x.key, .int .i32 k.x.nd, .int .i32 k.x.nu, .int .i64 k.x.bg.wall, .int .i32 k.x.bg.logic, .int .i32 k.x.bg.tag, .string k.x.anc, .int .i64 u.wall, .int .i32 u.logic, .int .i32 u.tag, .string k.x.val, .bool k.x.del] 29) = w11 at *
            generalize w10.heap.size = p2 at *
            have y0 := XY.out.c 0 _ rfl
            have y1 := XY.out.c 1 _ rfl
            have y2 := XY.out.c 2 _ rfl
            have y3 := XY.out.c 3 _ rfl
            have y4 := XY.out.c 4 _ rfl
            have y5 := XY.out.c 5 _ rfl
            have y6 := XY.out.c 6 _ rfl
            have y7 := XY.out.c 7 _ rfl
            have y8 := XY.out.c 8 _ rfl
            have y9 := XY.out.c 9 _ rfl
            have y10 := XY.out.c 10 _ rfl
            have y11 := XY.out.c 11 _ rfl
            go_upto_region 29 with (fail)
            clear y0 y1 y2 y3 y4 y5 y6 y7 y8 y9 y10 y11
            have XM : Hid (BxV (w11.alloc (.cells #[.string k.x.key, .int .i32 k.x.nd, .int .i32 k.x.nu, .int .i64 k.x.bg.wall, .int .i32 k.x.bg.logic, .int .i32 k.x.bg.tag, .string k.x.anc, .int .i64 u.wall, .int .i32 u.logic, .int .i32 u.tag, .string k.x.val, .bool k.x.del] 29)) w11.heap.size (Itt.c ⟨k.x.key, k.x.nd, k.x.nu, k.x.bg, k.x.anc, u, k.x.val, k.x.del⟩)) := Lib.hid (BxV.new _ _ _)
            have X12 := Lib.hid (X11.out.alloc (.cells #[.string k.x.key, .int .i32 k.x.nd, .int .i32 k.x.nu, .int .i64 k.x.bg.wall, .int .i32 k.x.bg.logic, .int .i32 k.x.bg.tag, .string k.x.anc, .int .i64 u.wall, .int .i32 u.logic, .int .i32 u.tag, .string k.x.val, .bool k.x.del] 29))
            have B12 := Lib.hid (B11.out.alloc B11.out.size (.cells #[.string k.x.key, .int .i32 k.x.nd, .int .i32 k.x.nu, .int .i64 k.x.bg.wall, .int .i32 k.x.bg.logic, .int .i32 k.x.bg.tag, .string k.x.anc, .int .i64 u.wall, .int .i32 u.logic, .int .i32 u.tag, .string k.x.val, .bool k.x.del] 29))
            have XY12 := Lib.hid (XY.out.alloc (.cells #[.string k.x.key, .int .i32 k.x.nd, .int .i32 k.x.nu, .int .i64 k.x.bg.wall, .int .i32 k.x.bg.logic, .int .i32 k.x.bg.tag, .string k.x.anc, .int .i64 u.wall, .int .i32 u.logic, .int .i32 u.tag, .string k.x.val, .bool k.x.del] 29))
            have hp3 : w.heap.size < w11.heap.size := X11.out.lt
            have hp4 : p2 < w11.heap.size := XY.out.lt
            clear X11 B11 XY
            generalize w11.alloc (.cells #[.string k.x.key, .int .i32 k.x.nd, .int .i32 k.x.nu, .int .i64 k.x.bg.wall, .int .i32 k.x.bg.logic, .int .i32 k.x.bg.tag, .string k.x.anc, .int .i64 u.wall, .int .i32 u.logic, .int .i32 u.tag, .string k.x.val, .bool k.x.del] 29) = w12 at *
            generalize w11.heap.size = p3 at *
            have u17 := X12.out.c 17 _ rfl
            have u18 := X12.out.c 18 _ rfl
            have u19 := X12.out.c 19 _ rfl
            have m7 := XM.out.c 7 _ rfl
            have m8 := XM.out.c 8 _ rfl
            have m9 := XM.out.c 9 _ rfl
            have mf := XM.out.fz
            go_upto_region 30 with (fail)
            change Code.wp _ _ _ _ (World.setCells w12 p3 7 (spc k.x.at_))
            have XV : Hid (BxV (World.setCells w12 p3 7 (spc k.x.at_)) p3 (Itt.c k.x)) := Lib.hid (XM.out.mid 7 (spc k.x.at_) (by simp [spc, Itt.c]))
            have X13 : Hid (BxV (World.setCells w12 p3 7 (spc k.x.at_)) w.heap.size k.cells) := Lib.hid (X12.out.other (by omega) 7 (spc k.x.at_))
            have Y13 := Lib.hid (XY12.out.other (p := p3) (by omega) 7 (spc k.x.at_))
            have B13 : Hid (Below w.heap.size w (World.setCells w12 p3 7 (spc k.x.at_))) := Lib.hid (bel_setCells (by omega) _ 7 _ B12.out)
            clear XM X12 XY12 B12 u17 u18 u19 m7 m8 m9 mf
            generalize World.setCells w12 p3 7 (spc k.x.at_) = w13 at *
            have y0 := XV.out.c 0 _ rfl
            have y1 := XV.out.c 1 _ rfl
            have y2 := XV.out.c 2 _ rfl
            have y3 := XV.out.c 3 _ rfl
            have y4 := XV.out.c 4 _ rfl
            have y5 := XV.out.c 5 _ rfl
            have y6 := XV.out.c 6 _ rfl
            have y7 := XV.out.c 7 _ rfl
            have y8 := XV.out.c 8 _ rfl
            have y9 := XV.out.c 9 _ rfl
            have y10 := XV.out.c 10 _ rfl
            have y11 := XV.out.c 11 _ rfl
            have u10 := X13.out.c 10 _ rfl
            have u11 := X13.out.c 11 _ rfl
            have u12 := X13.out.c 12 _ rfl
            have u13 := X13.out.c 13 _ rfl
            have u14 := X13.out.c 14 _ rfl
            have u15 := X13.out.c 15 _ rfl
            have u16 := X13.out.c 16 _ rfl
            have u17 := X13.out.c 17 _ rfl
            have u18 := X13.out.c 18 _ rfl
            have u19 := X13.out.c 19 _ rfl
            have u20 := X13.out.c 20 _ rfl
            have u21 := X13.out.c 21 _ rfl
            have u5 := X13.out.c 5 _ rfl
            have u6 := X13.out.c 6 _ rfl
            have u7 := X13.out.c 7 _ rfl
            have v7 := Y13.out.c 7 _ rfl
            have v8 := Y13.out.c 8 _ rfl
            have v9 := Y13.out.c 9 _ rfl
            go_wp2_with fail
            refine (HL1.out _).mono ?_
            rintro e w14 ⟨rfl, hb14⟩
            have X14 := Lib.hid (X13.out.next hb14)
            have Y14 := Lib.hid (Y13.out.next hb14)
            have B14 := Lib.hid (B13.out.trans (hb14.mono B13.out.size))
            clear y0 y1 y2 y3 y4 y5 y6 y7 y8 y9 y10 y11 u10 u11 u12 u13 u14 u15 u16 u17 u18 u19 u20 u21 u5 u6 u7 v7 v8 v9 X13 Y13 B13 XV hb14
            have u17 := X14.out.c 17 _ rfl
            have u18 := X14.out.c 18 _ rfl
            have u19 := X14.out.c 19 _ rfl
            have v7 := Y14.out.c 7 _ rfl
            have v8 := Y14.out.c 8 _ rfl
            have v9 := Y14.out.c 9 _ rfl
            go_wp2_with fail
            refine (HL2.out _).mono ?_
            rintro e w15 ⟨rfl, hb15⟩
            have X15 := Lib.hid (X14.out.next hb15)
            have Y15 := Lib.hid (Y14.out.next hb15)
            have B15 := Lib.hid (B14.out.trans (hb15.mono B14.out.size))
            clear u17 u18 u19 v7 v8 v9 X14 Y14 B14 hb15
            have u19 := X15.out.c 19 _ rfl
            have v9 := Y15.out.c 9 _ rfl
            go_wp2_with fail
            go_ret
            exact ⟨rfl, B15.out⟩
          · have hz := mov_err h0
            rw [hz]
            have e1 : (movE k.x k.to_ != 0) = true := by simpa using h0
            clear h0 hz
            generalize movE k.x k.to_ = E2 at *
            unfold ittZ zeroS zE
            dsimp only
            go_wp2_with fail
            go_ret
            exact ⟨rfl, (B10.out.alloc B10.out.size _)⟩
end Go.Proofs.Ytgikaglmeeeplaa
