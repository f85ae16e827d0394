/- Walk: a read at a stamp never sees what is written later, nor misses what was swept away. -/
import Derived.Test.YtgikaglmeeeplaaIj
import Derived.Test.YtgikaglmeeeplaaIu
import Derived.Test.YtgikaglmeeeplaaIl
import Derived.Test.YtgikaglmeeeplaaCut
import Derived.Deep.Cut
namespace Go.Proofs.Ytgikaglmeeeplaa
open Go.RowKit Go.St
set_option linter.unusedVariables false
set_option linter.unusedSimpArgs false
set_option maxRecDepth 100000

theorem okS_of {s : Stp} (h : chk s = 0) : okS s = true := by
  cases q : okS s
  · rw [chk_no q] at h
    cases h
  · rfl
theorem without_len : ∀ (l gs : List Cel), (withoutM l gs).length ≤ l.length
  | [], _ => Nat.le_refl _
  | c :: r, [] => by rw [withoutM]; have := without_len r []; simp only [List.length_cons]; omega
  | c :: r, g :: gs => by
    rw [withoutM]
    have h1 := without_len r gs
    have h2 := without_len r (g :: gs)
    split <;> simp only [List.length_cons] <;> omega
theorem scanM_len (cs : List Cel) (is : List Itt) (s t : Stp) (b : Int × Int) (kn : List (Int × Int)) : (scanM cs is s t b kn).rows.length ≤ cs.length ∧ (scanM cs is s t b kn).its.length ≤ is.length := by
  unfold scanM
  split
  · split
    · split
      · exact ⟨rows_len s cs zE, Nat.zero_le _⟩
      · exact ⟨Nat.zero_le _, Nat.zero_le _⟩
    · exact ⟨Nat.zero_le _, List.length_filter_le _ _⟩
  · exact ⟨Nat.zero_le _, Nat.zero_le _⟩
def SnL (M : Sn) (W : World) (e : Ending) (w' : World) : Prop := ∃ A c I d, e = .returned (.tuple #[.agg #[.int .i64 M.kind, .slice A M.rows.length c, .slice I M.its.length d, .int .i64 M.at_.wall, .int .i32 M.at_.logic, .int .i32 M.at_.tag], .int .i64 0]) ∧ w'.ownsRow W.heap.size 67 2 (.slice A M.rows.length c) M.rows.length (kvv M.rows) ∧ w'.ownsRow W.heap.size 29 12 (.slice I M.its.length d) M.its.length (itv M.its) ∧ Below W.heap.size W w'
theorem own_rdX {w : World} {base : Nat} {e : TypeId} {A : Option Addr} {n c : Nat} {xs : List Value} {s : Nat} (h : w.ownsRow base e s (.slice A n c) n xs) : Rd w w.heap.size A xs := by
  obtain ⟨A', c', e', -, r⟩ := own_sl h
  injection e' with e1 _ _
  rw [e1]
  exact r
theorem scan_tm {w : World} {k : Cas} (hI : InCas w k) (hm : k.m ≤ 60) (M : Sn) (A' : Option Addr) (n' c' : Nat) (cs' : List Cel) (hl : cs'.length = n') (hn : n' ≤ 1000000) (W : World) (hb : Below w.heap.size w W) (hr : Rd W W.heap.size A' (cev cs')) (hE : scanE cs' k.is k.at_ k.to_ = 0) (hM : scanM cs' k.is k.at_ k.to_ k.by_ k.kn = M) :
    Calls Try.prog 16 #[.slice A' n' c', .slice k.A2 k.m k.c2, .agg #[.int .i64 k.at_.wall, .int .i32 k.at_.logic, .int .i32 k.at_.tag], .agg #[.int .i64 k.to_.wall, .int .i32 k.to_.logic, .int .i32 k.to_.tag], .agg #[.int .i32 k.by_.1, .int .i32 k.by_.2], .slice k.A3 k.q k.c3] W (SnL M W) := by
  have h1 := scan24_any A' n' c' cs' hl hn k.A2 k.m k.c2 k.is hI.hl2 (by omega) k.at_ k.to_ k.by_ k.A3 k.q k.c3 k.kn hI.hl3 (by have := hI.hc3; have := hI.hn3; omega) W.heap.size W hr ((hI.hr2.below hb).more hb.size) ((hI.hr3.below hb).more hb.size) (Nat.le_refl _)
  rw [hE, hM] at h1
  refine h1.mono ?_
  rintro e w' ⟨⟨vr, vi, rfl, o1, o2⟩, h2⟩
  obtain ⟨A, c, rfl, -, -⟩ := own_sl o1
  obtain ⟨I, d, rfl, -, -⟩ := own_sl o2
  exact ⟨A, c, I, d, rfl, o1, o2, h2⟩
theorem scan_tn {w : World} {k : Cas} (hI : InCas w k) (hn : k.n ≤ 60) (M : Sn) (s : Stp) (W : World) (hb : Below w.heap.size w W) (hE : scanE k.cs [] s s = 0) (hM : scanM k.cs [] s s k.by_ [] = M) :
    Calls Try.prog 16 #[.slice k.A k.n k.c, .slice none 0 0, .agg #[.int .i64 s.wall, .int .i32 s.logic, .int .i32 s.tag], .agg #[.int .i64 s.wall, .int .i32 s.logic, .int .i32 s.tag], .agg #[.int .i32 k.by_.1, .int .i32 k.by_.2], .slice none 0 0] W (SnL M W) := by
  have h1 := scan24_any k.A k.n k.c k.cs hI.hl (by omega) none 0 0 [] rfl (by decide) s s k.by_ none 0 0 [] rfl (by decide) W.heap.size W ((hI.hr.below hb).more hb.size) Rd.nil Rd.nil (Nat.le_refl _)
  rw [hE, hM] at h1
  refine h1.mono ?_
  rintro e w' ⟨⟨vr, vi, rfl, o1, o2⟩, h2⟩
  obtain ⟨A, c, rfl, -, -⟩ := own_sl o1
  obtain ⟨I, d, rfl, -, -⟩ := own_sl o2
  exact ⟨A, c, I, d, rfl, o1, o2, h2⟩
theorem gone_tm {w : World} {k : Cas} (hI : InCas w k) (hn : k.n ≤ 60) (ho : okCI k.cs k.is) (hs : okS k.at_ = true) (W : World) (hb : Below w.heap.size w W) :
    Calls Try.prog 18 #[.slice k.A k.n k.c, .agg #[.int .i64 k.at_.wall, .int .i32 k.at_.logic, .int .i32 k.at_.tag]] W fun e w' => ∃ A c, e = .returned (.tuple #[.slice A (goneL k.cs k.at_).length c, .int .i64 0]) ∧ Rd w' w'.heap.size A (cev (goneL k.cs k.at_)) ∧ Below W.heap.size W w' := by
  have h1 := gone24_any k.A k.n k.c k.cs hI.hl (by omega) k.at_ W.heap.size W ((hI.hr.below hb).more hb.size) (Nat.le_refl _)
  have h0 : chkdE k.cs [] [k.at_] = 0 := chkdE_ok.2 ⟨okCI_nil ho, fun s h => by
    have e : s = k.at_ := by simpa using h
    rw [e]; exact hs⟩
  have hg : goneG k.cs k.at_ = goneL k.cs k.at_ := by unfold goneG; rw [if_pos h0]
  rw [h0, hg] at h1
  refine h1.mono ?_
  rintro e w' ⟨v, rfl, o1, h2⟩
  obtain ⟨A, c, rfl, -, r1⟩ := own_sl o1
  exact ⟨A, c, rfl, r1, h2⟩
theorem gone_ne {cs : List Cel} (hs : Srt cs) {c g : Cel} (hc : c ∈ cs) (hg : g ∈ cs) (hk : c.key = g.key) (ha : c.at_ = g.at_) : c = g := by
  obtain ⟨i, hi, rfl⟩ := List.getElem_of_mem hc
  obtain ⟨j, hj, rfl⟩ := List.getElem_of_mem hg
  rw [Srt, List.pairwise_iff_getElem] at hs
  rcases Nat.lt_trichotomy i j with h | h | h
  · have := hs i j hi hj h
    unfold ltC at this
    rw [hk, ha, klt_irr, less_irrefl] at this
    simp at this
  · subst h; rfl
  · have := hs j i hj hi h
    unfold ltC at this
    rw [hk, ha, klt_irr, less_irrefl] at this
    simp at this

set_option maxHeartbeats 12800000 in
theorem intentTime_walk (w : World) (k : Cas) (h : InCas w k) :
    Calls Try.prog 5 #[.agg k.cells.toArray] w fun e w' => e = .returned (.bool true) ∧ Below w.heap.size w w' := by
  have HI := Lib.hid h
  clear h
  have HSM := Lib.hid (small24_any k)
  have hsz : k.cells.length = 34 := rfl
  go_enter Try.func5, Try.ntmps5
  go_wp2_with fail
  refine (lives24_any _).mono ?_
  rintro e w1 ⟨rfl, hb1⟩
  have X1 := Lib.hid ((BxV.new w k.cells.toArray 36).next hb1)
  have B1 : Hid (Below w.heap.size w w1) := Lib.hid (((Below.refl _ _).alloc (Nat.le_refl _) _).trans (hb1.mono (by simp)))
  clear hb1
  have hrg : w1.rangeAt w.heap.size 0 k.cells := fun j v hv => by rw [Nat.zero_add]; exact X1.out.c j v (by simpa using hv)
  go_wp2_with (refine wpList_load_mid rfl 36 _ rfl w.heap.size 0 rfl k.cells _ hrg Try.underlying36 rfl (by kernel_rfl) ?_)
  refine (HSM.out _).mono ?_
  rintro e w2 ⟨rfl, hb⟩
  have X2 := Lib.hid (X1.out.next hb)
  have B2 := Lib.hid (B1.out.trans (hb.mono B1.out.size))
  clear hrg hsz X1 B1 hb HSM
  by_cases hn : k.n ≤ 60
  case neg =>
    rw [decide_eq_false hn]
    go_wp2_with fail
    go_ret
    exact ⟨rfl, B2.out⟩
  by_cases hm : k.m ≤ 60
  case neg =>
    rw [decide_eq_true hn, decide_eq_false hm]
    go_wp2_with fail
    go_ret
    exact ⟨rfl, B2.out⟩
  rw [decide_eq_true hn, decide_eq_true hm]
  have x0 := X2.out.c 0 _ rfl
  have x1 := X2.out.c 1 _ rfl
  go_wp2_with fail
  refine (check24_any k.A k.n k.c k.cs HI.out.hl (by omega) k.A2 k.m k.c2 k.is HI.out.hl2 (by omega) w.heap.size w2 (HI.out.hr.below B2.out) (HI.out.hr2.below B2.out) B2.out.size).mono ?_
  rintro e w3 ⟨rfl, hb⟩
  have X3 := Lib.hid (X2.out.next hb)
  have B3 := Lib.hid (B2.out.trans (hb.mono B2.out.size))
  clear hb X2 B2 x0 x1
  by_cases h0 : chkCI k.cs k.is = 0
  case neg =>
    have e1 : (chkCI k.cs k.is != 0) = true := by simpa using h0
    clear h0
    generalize chkCI k.cs k.is = E at *
    go_wp2_with fail
    go_ret
    exact ⟨rfl, B3.out⟩
  rw [h0]
  have HO := Lib.hid (chkCI_ok.1 h0)
  clear h0
  have x2 := X3.out.c 2 _ rfl
  have x3 := X3.out.c 3 _ rfl
  have x4 := X3.out.c 4 _ rfl
  go_wp2_with fail
  refine (rcheck_any k.at_ _).mono ?_
  rintro e w4 ⟨rfl, hb⟩
  have X4 := Lib.hid (X3.out.next hb)
  have B4 := Lib.hid (B3.out.trans (hb.mono B3.out.size))
  clear hb X3 B3 x2 x3 x4
  by_cases h0 : chk k.at_ = 0
  case neg =>
    have e1 : (chk k.at_ != 0) = true := by simpa using h0
    clear h0
    generalize chk k.at_ = E at *
    go_wp2_with fail
    go_ret
    exact ⟨rfl, B4.out⟩
  rw [h0]
  have HSA := Lib.hid (okS_of h0)
  clear h0
  have x5 := X4.out.c 5 _ rfl
  have x6 := X4.out.c 6 _ rfl
  have x7 := X4.out.c 7 _ rfl
  go_wp2_with fail
  refine (rcheck_any k.to_ _).mono ?_
  rintro e w5 ⟨rfl, hb⟩
  have X5 := Lib.hid (X4.out.next hb)
  have B5 := Lib.hid (B4.out.trans (hb.mono B4.out.size))
  clear hb X4 B4 x5 x6 x7
  by_cases h0 : chk k.to_ = 0
  case neg =>
    have e1 : (chk k.to_ != 0) = true := by simpa using h0
    clear h0
    generalize chk k.to_ = E at *
    go_wp2_with fail
    go_ret
    exact ⟨rfl, B5.out⟩
  rw [h0]
  have HST := Lib.hid (okS_of h0)
  clear h0
  have x2 := X5.out.c 2 _ rfl
  have x3 := X5.out.c 3 _ rfl
  have x4 := X5.out.c 4 _ rfl
  have x5 := X5.out.c 5 _ rfl
  have x6 := X5.out.c 6 _ rfl
  have x7 := X5.out.c 7 _ rfl
  go_wp2_with fail
  refine (rless_any k.to_ k.at_ _).mono ?_
  rintro e w6 ⟨rfl, hb⟩
  have X6 := Lib.hid (X5.out.next hb)
  have B6 := Lib.hid (B5.out.trans (hb.mono B5.out.size))
  clear hb X5 B5 x2 x3 x4 x5 x6 x7
  cases hlt : less k.to_ k.at_
  case true =>
    go_wp2_with fail
    go_ret
    exact ⟨rfl, B6.out⟩
  have HLT := Lib.hid hlt
  clear hlt
  obtain ⟨M, hM⟩ : ∃ M, M = scanM k.cs k.is k.at_ k.to_ k.by_ k.kn := ⟨_, rfl⟩
  have HM := Lib.hid hM
  have ML : Hid (M.rows.length ≤ 1000000 ∧ M.its.length ≤ 1000000) := Lib.hid (by
    have h1 := scanM_len k.cs k.is k.at_ k.to_ k.by_ k.kn
    rw [← hM, HI.out.hl, HI.out.hl2] at h1
    omega)
  have HE0 := Lib.hid (scanE_ok HO.out HSA.out HST.out HLT.out)
  have HUP := Lib.hid (scan_upto k.by_ k.kn HO.out HSA.out HST.out HLT.out)
  have HKP := Lib.hid (scan_keep k.by_ k.kn HO.out HSA.out HST.out HLT.out)
  have HRF := Lib.hid (scan_ref (is := k.is) k.by_ k.kn HO.out HSA.out HST.out HLT.out)
  rw [← hM] at HUP HKP HRF
  clear hM
  have x0 := X6.out.c 0 _ rfl
  have x1 := X6.out.c 1 _ rfl
  have x2 := X6.out.c 2 _ rfl
  have x3 := X6.out.c 3 _ rfl
  have x4 := X6.out.c 4 _ rfl
  have x5 := X6.out.c 5 _ rfl
  have x6 := X6.out.c 6 _ rfl
  have x7 := X6.out.c 7 _ rfl
  have x8 := X6.out.c 8 _ rfl
  have x9 := X6.out.c 9 _ rfl
  have x33 := X6.out.c 33 _ rfl
  go_wp2_with fail
  refine (scan_tm HI.out hm M k.A k.n k.c k.cs HI.out.hl (by omega) _ B6.out ((HI.out.hr.below B6.out).more B6.out.size) HE0.out HM.out.symm).mono ?_
  rintro e w7 ⟨A1, c1, I1, d1, rfl, o1, o2, hb⟩
  have r1 := own_rdX o1
  have r2 := own_rdX o2
  clear o1 o2
  have X7 := Lib.hid (X6.out.next hb)
  have B7 := Lib.hid (B6.out.trans (hb.mono B6.out.size))
  clear hb X6 B6 x0 x1 x2 x3 x4 x5 x6 x7 x8 x9 x33
  have RA_7 := Lib.hid r1
  clear r1
  have RI_7 := Lib.hid r2
  clear r2
  go_upto_region 6 with (fail)
  have hb : Below w7.heap.size w7 (w7.alloc (.cells #[.int .i64 M.kind, .slice A1 M.rows.length c1, .slice I1 M.its.length d1, .int .i64 M.at_.wall, .int .i32 M.at_.logic, .int .i32 M.at_.tag] 53)) := (Below.refl _ _).alloc (Nat.le_refl _) _
  have SA_8 : Hid (BxV (w7.alloc (.cells #[.int .i64 M.kind, .slice A1 M.rows.length c1, .slice I1 M.its.length d1, .int .i64 M.at_.wall, .int .i32 M.at_.logic, .int .i32 M.at_.tag] 53)) w7.heap.size [.int .i64 M.kind, .slice A1 M.rows.length c1, .slice I1 M.its.length d1, .int .i64 M.at_.wall, .int .i32 M.at_.logic, .int .i32 M.at_.tag]) := Lib.hid (BxV.new _ _ _)
  generalize hw : w7.alloc (.cells #[.int .i64 M.kind, .slice A1 M.rows.length c1, .slice I1 M.its.length d1, .int .i64 M.at_.wall, .int .i32 M.at_.logic, .int .i32 M.at_.tag] 53) = w8 at *
  have hpw : w7.heap.size < w8.heap.size := SA_8.out.lt
  have X8 := Lib.hid (X7.out.next hb)
  have B8 := Lib.hid (B7.out.trans (hb.mono B7.out.size))
  have RA_8 := Lib.hid ((RA_7.out.below hb).more hb.size)
  have RI_8 := Lib.hid ((RI_7.out.below hb).more hb.size)
  clear hb X7 B7 RA_7 RI_7
  generalize w7.heap.size = p3 at *
  clear hw hpw
  go_cut [5, 6] from 63 (fun s5 s6 wc => ∃ p A c I d, s5 = .pointer (some ⟨p, 0, none⟩) ∧ s6 = .int .i64 0 ∧ Hid (BxV wc p [.int .i64 M.kind, .slice A M.rows.length c, .slice I M.its.length d, .int .i64 M.at_.wall, .int .i32 M.at_.logic, .int .i32 M.at_.tag] ∧ Rd wc wc.heap.size A (kvv M.rows) ∧ Rd wc wc.heap.size I (itv M.its) ∧ Below w8.heap.size w8 wc))
  case first =>
    refine wp_heldall (S := fun X => Below w8.heap.size w8 X) 22 (by kernel_rfl) rfl (Below.drew (Below.refl _ _)) (fun hHeld => ?_)
    refine takeL (i := 0) (v := ?_) rfl (by kernel_rfl) (by kernel_rfl) (by kernel_rfl) (fun _ _ _ h => h) ⟨by rfl, ?_⟩ (by first | assumption | trivial) ?_
    rotate_left
    · intro W9 hSw
      (try dsimp only at hSw)
      (have XX := X8.out.next hSw; have x0 := XX.c 0 _ rfl; have x1 := XX.c 1 _ rfl; have x2 := XX.c 2 _ rfl; have x3 := XX.c 3 _ rfl; have x4 := XX.c 4 _ rfl; have x5 := XX.c 5 _ rfl; have x6 := XX.c 6 _ rfl; have x7 := XX.c 7 _ rfl; have x8 := XX.c 8 _ rfl; have x9 := XX.c 9 _ rfl; have x33 := XX.c 33 _ rfl)
      go_simp
      try with_reducible rfl
    (try simp only [Act.put, List.setIfInBounds_toArray, List.set_cons_zero, List.set_cons_succ])
    refine takeL (i := 1) (v := ?_) rfl (by kernel_rfl) (by kernel_rfl) (by kernel_rfl) (fun _ _ _ h => h) ⟨by rfl, ?_⟩ (by first | assumption | trivial) ?_
    rotate_left
    · intro W9 hSw
      (try dsimp only at hSw)
      (have XX := X8.out.next hSw; have x0 := XX.c 0 _ rfl; have x1 := XX.c 1 _ rfl; have x2 := XX.c 2 _ rfl; have x3 := XX.c 3 _ rfl; have x4 := XX.c 4 _ rfl; have x5 := XX.c 5 _ rfl; have x6 := XX.c 6 _ rfl; have x7 := XX.c 7 _ rfl; have x8 := XX.c 8 _ rfl; have x9 := XX.c 9 _ rfl; have x33 := XX.c 33 _ rfl)
      go_simp
      try with_reducible rfl
    (try simp only [Act.put, List.setIfInBounds_toArray, List.set_cons_zero, List.set_cons_succ])
    refine takeL (i := 2) (v := ?_) rfl (by kernel_rfl) (by kernel_rfl) (by kernel_rfl) (fun _ _ _ h => h) ⟨by rfl, ?_⟩ (by first | assumption | trivial) ?_
    rotate_left
    · intro W9 hSw
      (try dsimp only at hSw)
      (have XX := X8.out.next hSw; have x0 := XX.c 0 _ rfl; have x1 := XX.c 1 _ rfl; have x2 := XX.c 2 _ rfl; have x3 := XX.c 3 _ rfl; have x4 := XX.c 4 _ rfl; have x5 := XX.c 5 _ rfl; have x6 := XX.c 6 _ rfl; have x7 := XX.c 7 _ rfl; have x8 := XX.c 8 _ rfl; have x9 := XX.c 9 _ rfl; have x33 := XX.c 33 _ rfl)
      go_simp
      try with_reducible rfl
    (try simp only [Act.put, List.setIfInBounds_toArray, List.set_cons_zero, List.set_cons_succ])
    refine takeL (i := 3) (v := ?_) rfl (by kernel_rfl) (by kernel_rfl) (by kernel_rfl) (fun _ _ _ h => h) ⟨by rfl, ?_⟩ (by first | assumption | trivial) ?_
    rotate_left
    · intro W9 hSw
      (try dsimp only at hSw)
      (have XX := X8.out.next hSw; have x0 := XX.c 0 _ rfl; have x1 := XX.c 1 _ rfl; have x2 := XX.c 2 _ rfl; have x3 := XX.c 3 _ rfl; have x4 := XX.c 4 _ rfl; have x5 := XX.c 5 _ rfl; have x6 := XX.c 6 _ rfl; have x7 := XX.c 7 _ rfl; have x8 := XX.c 8 _ rfl; have x9 := XX.c 9 _ rfl; have x33 := XX.c 33 _ rfl)
      go_simp
      try with_reducible rfl
    (try simp only [Act.put, List.setIfInBounds_toArray, List.set_cons_zero, List.set_cons_succ])
    refine takeL (i := 5) (v := ?_) rfl (by kernel_rfl) (by kernel_rfl) (by kernel_rfl) (fun _ _ _ h => h) ⟨by rfl, ?_⟩ (by first | assumption | trivial) ?_
    rotate_left
    · intro W9 hSw
      (try dsimp only at hSw)
      (have XX := X8.out.next hSw; have x0 := XX.c 0 _ rfl; have x1 := XX.c 1 _ rfl; have x2 := XX.c 2 _ rfl; have x3 := XX.c 3 _ rfl; have x4 := XX.c 4 _ rfl; have x5 := XX.c 5 _ rfl; have x6 := XX.c 6 _ rfl; have x7 := XX.c 7 _ rfl; have x8 := XX.c 8 _ rfl; have x9 := XX.c 9 _ rfl; have x33 := XX.c 33 _ rfl)
      go_simp
      try with_reducible rfl
    (try simp only [Act.put, List.setIfInBounds_toArray, List.set_cons_zero, List.set_cons_succ])
    refine takeL (i := 6) (v := ?_) rfl (by kernel_rfl) (by kernel_rfl) (by kernel_rfl) (fun _ _ _ h => h) ⟨by rfl, ?_⟩ (by first | assumption | trivial) ?_
    rotate_left
    · intro W9 hSw
      (try dsimp only at hSw)
      (have XX := X8.out.next hSw; have x0 := XX.c 0 _ rfl; have x1 := XX.c 1 _ rfl; have x2 := XX.c 2 _ rfl; have x3 := XX.c 3 _ rfl; have x4 := XX.c 4 _ rfl; have x5 := XX.c 5 _ rfl; have x6 := XX.c 6 _ rfl; have x7 := XX.c 7 _ rfl; have x8 := XX.c 8 _ rfl; have x9 := XX.c 9 _ rfl; have x33 := XX.c 33 _ rfl)
      go_simp
      try with_reducible rfl
    (try simp only [Act.put, List.setIfInBounds_toArray, List.set_cons_zero, List.set_cons_succ])
    refine takeL (i := 7) (v := ?_) rfl (by kernel_rfl) (by kernel_rfl) (by kernel_rfl) (fun _ _ _ h => h) ⟨by rfl, ?_⟩ (by first | assumption | trivial) ?_
    rotate_left
    · intro W9 hSw
      (try dsimp only at hSw)
      (have XX := X8.out.next hSw; have x0 := XX.c 0 _ rfl; have x1 := XX.c 1 _ rfl; have x2 := XX.c 2 _ rfl; have x3 := XX.c 3 _ rfl; have x4 := XX.c 4 _ rfl; have x5 := XX.c 5 _ rfl; have x6 := XX.c 6 _ rfl; have x7 := XX.c 7 _ rfl; have x8 := XX.c 8 _ rfl; have x9 := XX.c 9 _ rfl; have x33 := XX.c 33 _ rfl)
      go_simp
      try with_reducible rfl
    (try simp only [Act.put, List.setIfInBounds_toArray, List.set_cons_zero, List.set_cons_succ])
    refine takeL (i := 8) (v := ?_) rfl (by kernel_rfl) (by kernel_rfl) (by kernel_rfl) (fun _ _ _ h => h) ⟨by rfl, ?_⟩ (by first | assumption | trivial) ?_
    rotate_left
    · intro W9 hSw
      (try dsimp only at hSw)
      (have XX := X8.out.next hSw; have x0 := XX.c 0 _ rfl; have x1 := XX.c 1 _ rfl; have x2 := XX.c 2 _ rfl; have x3 := XX.c 3 _ rfl; have x4 := XX.c 4 _ rfl; have x5 := XX.c 5 _ rfl; have x6 := XX.c 6 _ rfl; have x7 := XX.c 7 _ rfl; have x8 := XX.c 8 _ rfl; have x9 := XX.c 9 _ rfl; have x33 := XX.c 33 _ rfl)
      go_simp
      try with_reducible rfl
    (try simp only [Act.put, List.setIfInBounds_toArray, List.set_cons_zero, List.set_cons_succ])
    refine takeL (i := 9) (v := ?_) rfl (by kernel_rfl) (by kernel_rfl) (by kernel_rfl) (fun _ _ _ h => h) ⟨by rfl, ?_⟩ (by first | assumption | trivial) ?_
    rotate_left
    · intro W9 hSw
      (try dsimp only at hSw)
      (have XX := X8.out.next hSw; have x0 := XX.c 0 _ rfl; have x1 := XX.c 1 _ rfl; have x2 := XX.c 2 _ rfl; have x3 := XX.c 3 _ rfl; have x4 := XX.c 4 _ rfl; have x5 := XX.c 5 _ rfl; have x6 := XX.c 6 _ rfl; have x7 := XX.c 7 _ rfl; have x8 := XX.c 8 _ rfl; have x9 := XX.c 9 _ rfl; have x33 := XX.c 33 _ rfl)
      go_simp
      try with_reducible rfl
    (try simp only [Act.put, List.setIfInBounds_toArray, List.set_cons_zero, List.set_cons_succ])
    refine takeL (i := 10) (v := ?_) rfl (by kernel_rfl) (by kernel_rfl) (by kernel_rfl) (fun _ _ _ h => h) ⟨by rfl, ?_⟩ (by first | assumption | trivial) ?_
    rotate_left
    · intro W9 hSw
      (try dsimp only at hSw)
      (have XX := X8.out.next hSw; have x0 := XX.c 0 _ rfl; have x1 := XX.c 1 _ rfl; have x2 := XX.c 2 _ rfl; have x3 := XX.c 3 _ rfl; have x4 := XX.c 4 _ rfl; have x5 := XX.c 5 _ rfl; have x6 := XX.c 6 _ rfl; have x7 := XX.c 7 _ rfl; have x8 := XX.c 8 _ rfl; have x9 := XX.c 9 _ rfl; have x33 := XX.c 33 _ rfl)
      go_simp
      try with_reducible rfl
    (try simp only [Act.put, List.setIfInBounds_toArray, List.set_cons_zero, List.set_cons_succ])
    refine takeL (i := 11) (v := ?_) rfl (by kernel_rfl) (by kernel_rfl) (by kernel_rfl) (fun _ _ _ h => h) ⟨by rfl, ?_⟩ (by first | assumption | trivial) ?_
    rotate_left
    · intro W9 hSw
      (try dsimp only at hSw)
      (have XX := X8.out.next hSw; have x0 := XX.c 0 _ rfl; have x1 := XX.c 1 _ rfl; have x2 := XX.c 2 _ rfl; have x3 := XX.c 3 _ rfl; have x4 := XX.c 4 _ rfl; have x5 := XX.c 5 _ rfl; have x6 := XX.c 6 _ rfl; have x7 := XX.c 7 _ rfl; have x8 := XX.c 8 _ rfl; have x9 := XX.c 9 _ rfl; have x33 := XX.c 33 _ rfl)
      go_simp
      try with_reducible rfl
    (try simp only [Act.put, List.setIfInBounds_toArray, List.set_cons_zero, List.set_cons_succ])
    refine takeL (i := 12) (v := ?_) rfl (by kernel_rfl) (by kernel_rfl) (by kernel_rfl) (fun _ _ _ h => h) ⟨by rfl, ?_⟩ (by first | assumption | trivial) ?_
    rotate_left
    · intro W9 hSw
      (try dsimp only at hSw)
      (have XX := X8.out.next hSw; have x0 := XX.c 0 _ rfl; have x1 := XX.c 1 _ rfl; have x2 := XX.c 2 _ rfl; have x3 := XX.c 3 _ rfl; have x4 := XX.c 4 _ rfl; have x5 := XX.c 5 _ rfl; have x6 := XX.c 6 _ rfl; have x7 := XX.c 7 _ rfl; have x8 := XX.c 8 _ rfl; have x9 := XX.c 9 _ rfl; have x33 := XX.c 33 _ rfl)
      go_simp
      try with_reducible rfl
    (try simp only [Act.put, List.setIfInBounds_toArray, List.set_cons_zero, List.set_cons_succ])
    refine takeL (i := 13) (v := ?_) rfl (by kernel_rfl) (by kernel_rfl) (by kernel_rfl) (fun _ _ _ h => h) ⟨by rfl, ?_⟩ (by first | assumption | trivial) ?_
    rotate_left
    · intro W9 hSw
      (try dsimp only at hSw)
      (have XX := X8.out.next hSw; have x0 := XX.c 0 _ rfl; have x1 := XX.c 1 _ rfl; have x2 := XX.c 2 _ rfl; have x3 := XX.c 3 _ rfl; have x4 := XX.c 4 _ rfl; have x5 := XX.c 5 _ rfl; have x6 := XX.c 6 _ rfl; have x7 := XX.c 7 _ rfl; have x8 := XX.c 8 _ rfl; have x9 := XX.c 9 _ rfl; have x33 := XX.c 33 _ rfl)
      go_simp
      try with_reducible rfl
    (try simp only [Act.put, List.setIfInBounds_toArray, List.set_cons_zero, List.set_cons_succ])
    refine takeL (i := 14) (v := ?_) rfl (by kernel_rfl) (by kernel_rfl) (by kernel_rfl) (fun _ _ _ h => h) ⟨by rfl, ?_⟩ (by first | assumption | trivial) ?_
    rotate_left
    · intro W9 hSw
      (try dsimp only at hSw)
      (have XX := X8.out.next hSw; have x0 := XX.c 0 _ rfl; have x1 := XX.c 1 _ rfl; have x2 := XX.c 2 _ rfl; have x3 := XX.c 3 _ rfl; have x4 := XX.c 4 _ rfl; have x5 := XX.c 5 _ rfl; have x6 := XX.c 6 _ rfl; have x7 := XX.c 7 _ rfl; have x8 := XX.c 8 _ rfl; have x9 := XX.c 9 _ rfl; have x33 := XX.c 33 _ rfl)
      go_simp
      try with_reducible rfl
    (try simp only [Act.put, List.setIfInBounds_toArray, List.set_cons_zero, List.set_cons_succ])
    have kX := hHeld
    clear hHeld
    generalize w8.drew = X at *
    refine wpAnyH_ready (rs := [4, 19]) (by kernel_rfl) (by simp) ?_
    refine consL rfl (by rfl) (fun K hK => ?_) ?_
    · go_simp
      go_at_call 21
      refine (upto24_any k.A k.n k.c k.cs HI.out.hl (by omega) k.to_ w.heap.size X (HI.out.hr.below (B8.out.trans (kX.mono B8.out.size))) (B8.out.trans (kX.mono B8.out.size)).size).mono ?_
      rintro e X2 ⟨v, rfl, own, hb⟩
      obtain ⟨Au, cu, rfl, -, q0⟩ := own_sl own
      clear own
      have kX2 : Below w8.heap.size w8 X2 := kX.trans (hb.mono kX.size)
      refine hK.out _ _ kX2 (fun _ => ?_)
      clear hb hK K kX
      obtain ⟨X, rfl⟩ : ∃ x, x = X2 := ⟨_, rfl⟩
      have kX := kX2
      clear kX2
      (try simp only [Act.put, List.setIfInBounds_toArray, List.set_cons_zero, List.set_cons_succ])
      refine wpAnyH_ready (rs := [15, 19]) (by kernel_rfl) (by simp) ?_
      refine consL rfl (by rfl) (fun K hK => ?_) ?_
      · go_simp
        go_at_call 16
        refine (scan_tm HI.out hm M Au _ cu _ rfl (Nat.le_trans (List.length_filter_le _ _) (by rw [HI.out.hl]; omega)) X (B8.out.trans (kX.mono B8.out.size)) q0 HUP.out.1 HUP.out.2).mono ?_
        rintro e X2 ⟨A5, c5, I5, d5, rfl, q1, q2, hb⟩
        have kX2 : Below w8.heap.size w8 X2 := kX.trans (hb.mono kX.size)
        refine hK.out _ _ kX2 (fun _ => ?_)
        have q1' := own_base q1 kX.size
        have q2' := own_base q2 kX.size
        clear q1 q2 q0
        have q1 := q1'
        have q2 := q2'
        clear q1' q2'
        clear hb hK K kX
        obtain ⟨X, rfl⟩ : ∃ x, x = X2 := ⟨_, rfl⟩
        have kX := kX2
        clear kX2
        (try simp only [Act.put, List.setIfInBounds_toArray, List.set_cons_zero, List.set_cons_succ])
        refine takeL (i := 16) (v := ?_) rfl (by kernel_rfl) (by kernel_rfl) (by kernel_rfl) (fun _ _ _ h => h) ⟨by rfl, ?_⟩ (by first | assumption | trivial) ?_
        rotate_left
        · intro W9 hSw
          (try dsimp only at hSw)
          go_simp
          try with_reducible rfl
        (try simp only [Act.put, List.setIfInBounds_toArray, List.set_cons_zero, List.set_cons_succ])
        refine takeL (i := 17) (v := ?_) rfl (by kernel_rfl) (by kernel_rfl) (by kernel_rfl) (fun _ _ _ h => h) ⟨by rfl, ?_⟩ (by first | assumption | trivial) ?_
        rotate_left
        · intro W9 hSw
          (try dsimp only at hSw)
          go_simp
          try with_reducible rfl
        (try simp only [Act.put, List.setIfInBounds_toArray, List.set_cons_zero, List.set_cons_succ])
        refine takeL (i := 18) (v := ?_) rfl (by kernel_rfl) (by kernel_rfl) (by kernel_rfl) (fun _ _ _ h => h) ⟨by rfl, ?_⟩ (by first | assumption | trivial) ?_
        rotate_left
        · intro W9 hSw
          (try dsimp only at hSw)
          go_simp
          try with_reducible rfl
        (try simp only [Act.put, List.setIfInBounds_toArray, List.set_cons_zero, List.set_cons_succ])
        refine wpAnyH_ready (rs := [19]) (by kernel_rfl) (by simp) ?_
        refine consL rfl (by rfl) (fun K hK => ?_) ?_
        · go_simp
          have kX2 : Below w8.heap.size w8 (X.alloc (.cells #[.int .i64 0, .slice none 0 0, .slice none 0 0, .int .i64 0, .int .i32 0, .int .i32 0] 53)) := kX.alloc kX.size _
          refine hK.out _ _ kX2 (fun _ => ?_)
          have hb : Below X.heap.size X (X.alloc (.cells #[.int .i64 0, .slice none 0 0, .slice none 0 0, .int .i64 0, .int .i32 0, .int .i32 0] 53)) := (Below.refl _ _).alloc (Nat.le_refl _) _
          have bz : BxV (X.alloc (.cells #[.int .i64 0, .slice none 0 0, .slice none 0 0, .int .i64 0, .int .i32 0, .int .i32 0] 53)) X.heap.size sezL := BxV.new _ _ _
          have hp1 : ∀ g, (Value.slice A5 M.rows.length c5).ownBlock = some g → g ≠ X.heap.size := fun g hg => by have := (q1.lt g hg).2; omega
          have hp2 : ∀ g, (Value.slice I5 M.its.length d5).ownBlock = some g → g ≠ X.heap.size := fun g hg => by have := (q2.lt g hg).2; omega
          have q1' := own_keep q1 hb (Nat.le_refl _)
          have q2' := own_keep q2 hb (Nat.le_refl _)
          clear q1 q2
          have q1 := q1'
          have q2 := q2'
          clear q1' q2'
          have hpb : w8.heap.size ≤ X.heap.size := kX.size
          clear hb hK K kX
          generalize X.alloc (.cells #[.int .i64 0, .slice none 0 0, .slice none 0 0, .int .i64 0, .int .i32 0, .int .i32 0] 53) = X2 at *
          generalize X.heap.size = p at *
          obtain ⟨X, rfl⟩ : ∃ x, x = X2 := ⟨_, rfl⟩
          have kX := kX2
          clear kX2
          (try simp only [Act.put, List.setIfInBounds_toArray, List.set_cons_zero, List.set_cons_succ])
          refine wpAnyH_ready (rs := [20]) (by kernel_rfl) (by simp) ?_
          refine consL rfl (by rfl) (fun K hK => ?_) ?_
          · skip
            have z0 := bz.c 0 _ rfl
            have z1 := bz.c 1 _ rfl
            have z2 := bz.c 2 _ rfl
            have z3 := bz.c 3 _ rfl
            have z4 := bz.c 4 _ rfl
            have z5 := bz.c 5 _ rfl
            have zf := bz.fz
            have BZ := Lib.hid bz; have KX := Lib.hid kX; have Q1 := Lib.hid q1; have Q2 := Lib.hid q2; have P1 := Lib.hid hp1; have P2 := Lib.hid hp2; clear bz kX q1 q2 hp1 hp2
            go_simp
            refine hK.out _ (World.setCells X p 0 [.int .i64 M.kind, .slice A5 M.rows.length c5, .slice I5 M.its.length d5, .int .i64 M.at_.wall, .int .i32 M.at_.logic, .int .i32 M.at_.tag]) (bel_setCells hpb _ 0 _ KX.out) (fun _ => ?_)
            clear hK K z0 z1 z2 z3 z4 z5 zf
            refine takeL (i := 21) (v := ?_) rfl (by kernel_rfl) (by kernel_rfl) (by kernel_rfl) (fun _ _ _ h => h) ⟨by rfl, ?_⟩ (by first | assumption | trivial) ?_
            rotate_left
            · intro W9 hSw
              (try dsimp only at hSw)
              go_simp
              try with_reducible rfl
            (try simp only [Act.put, List.setIfInBounds_toArray, List.set_cons_zero, List.set_cons_succ])
            refine wpAnyH_done (by kernel_rfl) ?_ _
            go_wp2_with fail
            go_meet
            case rel => exact ⟨p, A5, c5, I5, d5, rfl, rfl, Lib.hid ⟨BZ.out.set _ rfl, own_rdX (ownsRow_of Q1.out (fun g hg => setCells_heap p g (P1.out g hg) _ _ _)), own_rdX (ownsRow_of Q2.out (fun g hg => setCells_heap p g (P2.out g hg) _ _ _)), bel_setCells hpb _ 0 _ KX.out⟩⟩
          · exact AllReadyH.nil
        · exact AllReadyH.nil
      refine consL rfl (by rfl) (fun K hK => ?_) ?_
      · go_simp
        have kX2 : Below w8.heap.size w8 (X.alloc (.cells #[.int .i64 0, .slice none 0 0, .slice none 0 0, .int .i64 0, .int .i32 0, .int .i32 0] 53)) := kX.alloc kX.size _
        refine hK.out _ _ kX2 (fun _ => ?_)
        have hb : Below X.heap.size X (X.alloc (.cells #[.int .i64 0, .slice none 0 0, .slice none 0 0, .int .i64 0, .int .i32 0, .int .i32 0] 53)) := (Below.refl _ _).alloc (Nat.le_refl _) _
        have bz : BxV (X.alloc (.cells #[.int .i64 0, .slice none 0 0, .slice none 0 0, .int .i64 0, .int .i32 0, .int .i32 0] 53)) X.heap.size sezL := BxV.new _ _ _
        have q0' := (q0.below hb).more hb.size
        clear q0
        have q0 := q0'
        clear q0'
        have hpb : w8.heap.size ≤ X.heap.size := kX.size
        clear hb hK K kX
        generalize X.alloc (.cells #[.int .i64 0, .slice none 0 0, .slice none 0 0, .int .i64 0, .int .i32 0, .int .i32 0] 53) = X2 at *
        generalize X.heap.size = p at *
        obtain ⟨X, rfl⟩ : ∃ x, x = X2 := ⟨_, rfl⟩
        have kX := kX2
        clear kX2
        (try simp only [Act.put, List.setIfInBounds_toArray, List.set_cons_zero, List.set_cons_succ])
        refine wpAnyH_ready (rs := [15]) (by kernel_rfl) (by simp) ?_
        refine consL rfl (by rfl) (fun K hK => ?_) ?_
        · go_simp
          go_at_call 16
          refine (scan_tm HI.out hm M Au _ cu _ rfl (Nat.le_trans (List.length_filter_le _ _) (by rw [HI.out.hl]; omega)) X (B8.out.trans (kX.mono B8.out.size)) q0 HUP.out.1 HUP.out.2).mono ?_
          rintro e X2 ⟨A5, c5, I5, d5, rfl, q1, q2, hb⟩
          have kX2 : Below w8.heap.size w8 X2 := kX.trans (hb.mono kX.size)
          refine hK.out _ _ kX2 (fun _ => ?_)
          have hpl := bz.lt
          have hp1 : ∀ g, (Value.slice A5 M.rows.length c5).ownBlock = some g → g ≠ p := fun g hg => by have := (q1.lt g hg).1; omega
          have hp2 : ∀ g, (Value.slice I5 M.its.length d5).ownBlock = some g → g ≠ p := fun g hg => by have := (q2.lt g hg).1; omega
          have q1' := own_base q1 kX.size
          have q2' := own_base q2 kX.size
          clear q1 q2 q0
          have q1 := q1'
          have q2 := q2'
          clear q1' q2'
          have bz' := bz.next hb
          clear bz
          have bz := bz'
          clear bz'
          clear hb hK K kX
          obtain ⟨X, rfl⟩ : ∃ x, x = X2 := ⟨_, rfl⟩
          have kX := kX2
          clear kX2
          (try simp only [Act.put, List.setIfInBounds_toArray, List.set_cons_zero, List.set_cons_succ])
          refine takeL (i := 16) (v := ?_) rfl (by kernel_rfl) (by kernel_rfl) (by kernel_rfl) (fun _ _ _ h => h) ⟨by rfl, ?_⟩ (by first | assumption | trivial) ?_
          rotate_left
          · intro W9 hSw
            (try dsimp only at hSw)
            go_simp
            try with_reducible rfl
          (try simp only [Act.put, List.setIfInBounds_toArray, List.set_cons_zero, List.set_cons_succ])
          refine takeL (i := 17) (v := ?_) rfl (by kernel_rfl) (by kernel_rfl) (by kernel_rfl) (fun _ _ _ h => h) ⟨by rfl, ?_⟩ (by first | assumption | trivial) ?_
          rotate_left
          · intro W9 hSw
            (try dsimp only at hSw)
            go_simp
            try with_reducible rfl
          (try simp only [Act.put, List.setIfInBounds_toArray, List.set_cons_zero, List.set_cons_succ])
          refine takeL (i := 18) (v := ?_) rfl (by kernel_rfl) (by kernel_rfl) (by kernel_rfl) (fun _ _ _ h => h) ⟨by rfl, ?_⟩ (by first | assumption | trivial) ?_
          rotate_left
          · intro W9 hSw
            (try dsimp only at hSw)
            go_simp
            try with_reducible rfl
          (try simp only [Act.put, List.setIfInBounds_toArray, List.set_cons_zero, List.set_cons_succ])
          refine wpAnyH_ready (rs := [20]) (by kernel_rfl) (by simp) ?_
          refine consL rfl (by rfl) (fun K hK => ?_) ?_
          · skip
            have z0 := bz.c 0 _ rfl
            have z1 := bz.c 1 _ rfl
            have z2 := bz.c 2 _ rfl
            have z3 := bz.c 3 _ rfl
            have z4 := bz.c 4 _ rfl
            have z5 := bz.c 5 _ rfl
            have zf := bz.fz
            have BZ := Lib.hid bz; have KX := Lib.hid kX; have Q1 := Lib.hid q1; have Q2 := Lib.hid q2; have P1 := Lib.hid hp1; have P2 := Lib.hid hp2; clear bz kX q1 q2 hp1 hp2
            go_simp
            refine hK.out _ (World.setCells X p 0 [.int .i64 M.kind, .slice A5 M.rows.length c5, .slice I5 M.its.length d5, .int .i64 M.at_.wall, .int .i32 M.at_.logic, .int .i32 M.at_.tag]) (bel_setCells hpb _ 0 _ KX.out) (fun _ => ?_)
            clear hK K z0 z1 z2 z3 z4 z5 zf
            refine takeL (i := 21) (v := ?_) rfl (by kernel_rfl) (by kernel_rfl) (by kernel_rfl) (fun _ _ _ h => h) ⟨by rfl, ?_⟩ (by first | assumption | trivial) ?_
            rotate_left
            · intro W9 hSw
              (try dsimp only at hSw)
              go_simp
              try with_reducible rfl
            (try simp only [Act.put, List.setIfInBounds_toArray, List.set_cons_zero, List.set_cons_succ])
            refine wpAnyH_done (by kernel_rfl) ?_ _
            go_wp2_with fail
            go_meet
            case rel => exact ⟨p, A5, c5, I5, d5, rfl, rfl, Lib.hid ⟨BZ.out.set _ rfl, own_rdX (ownsRow_of Q1.out (fun g hg => setCells_heap p g (P1.out g hg) _ _ _)), own_rdX (ownsRow_of Q2.out (fun g hg => setCells_heap p g (P2.out g hg) _ _ _)), bel_setCells hpb _ 0 _ KX.out⟩⟩
          · exact AllReadyH.nil
        · exact AllReadyH.nil
      · exact AllReadyH.nil
    refine consL rfl (by rfl) (fun K hK => ?_) ?_
    · go_simp
      have kX2 : Below w8.heap.size w8 (X.alloc (.cells #[.int .i64 0, .slice none 0 0, .slice none 0 0, .int .i64 0, .int .i32 0, .int .i32 0] 53)) := kX.alloc kX.size _
      refine hK.out _ _ kX2 (fun _ => ?_)
      have hb : Below X.heap.size X (X.alloc (.cells #[.int .i64 0, .slice none 0 0, .slice none 0 0, .int .i64 0, .int .i32 0, .int .i32 0] 53)) := (Below.refl _ _).alloc (Nat.le_refl _) _
      have bz : BxV (X.alloc (.cells #[.int .i64 0, .slice none 0 0, .slice none 0 0, .int .i64 0, .int .i32 0, .int .i32 0] 53)) X.heap.size sezL := BxV.new _ _ _
      have hpb : w8.heap.size ≤ X.heap.size := kX.size
      clear hb hK K kX
      generalize X.alloc (.cells #[.int .i64 0, .slice none 0 0, .slice none 0 0, .int .i64 0, .int .i32 0, .int .i32 0] 53) = X2 at *
      generalize X.heap.size = p at *
      obtain ⟨X, rfl⟩ : ∃ x, x = X2 := ⟨_, rfl⟩
      have kX := kX2
      clear kX2
      (try simp only [Act.put, List.setIfInBounds_toArray, List.set_cons_zero, List.set_cons_succ])
      refine wpAnyH_ready (rs := [4]) (by kernel_rfl) (by simp) ?_
      refine consL rfl (by rfl) (fun K hK => ?_) ?_
      · go_simp
        go_at_call 21
        refine (upto24_any k.A k.n k.c k.cs HI.out.hl (by omega) k.to_ w.heap.size X (HI.out.hr.below (B8.out.trans (kX.mono B8.out.size))) (B8.out.trans (kX.mono B8.out.size)).size).mono ?_
        rintro e X2 ⟨v, rfl, own, hb⟩
        obtain ⟨Au, cu, rfl, -, q0⟩ := own_sl own
        clear own
        have kX2 : Below w8.heap.size w8 X2 := kX.trans (hb.mono kX.size)
        refine hK.out _ _ kX2 (fun _ => ?_)
        have bz' := bz.next hb
        clear bz
        have bz := bz'
        clear bz'
        clear hb hK K kX
        obtain ⟨X, rfl⟩ : ∃ x, x = X2 := ⟨_, rfl⟩
        have kX := kX2
        clear kX2
        (try simp only [Act.put, List.setIfInBounds_toArray, List.set_cons_zero, List.set_cons_succ])
        refine wpAnyH_ready (rs := [15]) (by kernel_rfl) (by simp) ?_
        refine consL rfl (by rfl) (fun K hK => ?_) ?_
        · go_simp
          go_at_call 16
          refine (scan_tm HI.out hm M Au _ cu _ rfl (Nat.le_trans (List.length_filter_le _ _) (by rw [HI.out.hl]; omega)) X (B8.out.trans (kX.mono B8.out.size)) q0 HUP.out.1 HUP.out.2).mono ?_
          rintro e X2 ⟨A5, c5, I5, d5, rfl, q1, q2, hb⟩
          have kX2 : Below w8.heap.size w8 X2 := kX.trans (hb.mono kX.size)
          refine hK.out _ _ kX2 (fun _ => ?_)
          have hpl := bz.lt
          have hp1 : ∀ g, (Value.slice A5 M.rows.length c5).ownBlock = some g → g ≠ p := fun g hg => by have := (q1.lt g hg).1; omega
          have hp2 : ∀ g, (Value.slice I5 M.its.length d5).ownBlock = some g → g ≠ p := fun g hg => by have := (q2.lt g hg).1; omega
          have q1' := own_base q1 kX.size
          have q2' := own_base q2 kX.size
          clear q1 q2 q0
          have q1 := q1'
          have q2 := q2'
          clear q1' q2'
          have bz' := bz.next hb
          clear bz
          have bz := bz'
          clear bz'
          clear hb hK K kX
          obtain ⟨X, rfl⟩ : ∃ x, x = X2 := ⟨_, rfl⟩
          have kX := kX2
          clear kX2
          (try simp only [Act.put, List.setIfInBounds_toArray, List.set_cons_zero, List.set_cons_succ])
          refine takeL (i := 16) (v := ?_) rfl (by kernel_rfl) (by kernel_rfl) (by kernel_rfl) (fun _ _ _ h => h) ⟨by rfl, ?_⟩ (by first | assumption | trivial) ?_
          rotate_left
          · intro W9 hSw
            (try dsimp only at hSw)
            go_simp
            try with_reducible rfl
          (try simp only [Act.put, List.setIfInBounds_toArray, List.set_cons_zero, List.set_cons_succ])
          refine takeL (i := 17) (v := ?_) rfl (by kernel_rfl) (by kernel_rfl) (by kernel_rfl) (fun _ _ _ h => h) ⟨by rfl, ?_⟩ (by first | assumption | trivial) ?_
          rotate_left
          · intro W9 hSw
            (try dsimp only at hSw)
            go_simp
            try with_reducible rfl
          (try simp only [Act.put, List.setIfInBounds_toArray, List.set_cons_zero, List.set_cons_succ])
          refine takeL (i := 18) (v := ?_) rfl (by kernel_rfl) (by kernel_rfl) (by kernel_rfl) (fun _ _ _ h => h) ⟨by rfl, ?_⟩ (by first | assumption | trivial) ?_
          rotate_left
          · intro W9 hSw
            (try dsimp only at hSw)
            go_simp
            try with_reducible rfl
          (try simp only [Act.put, List.setIfInBounds_toArray, List.set_cons_zero, List.set_cons_succ])
          refine wpAnyH_ready (rs := [20]) (by kernel_rfl) (by simp) ?_
          refine consL rfl (by rfl) (fun K hK => ?_) ?_
          · skip
            have z0 := bz.c 0 _ rfl
            have z1 := bz.c 1 _ rfl
            have z2 := bz.c 2 _ rfl
            have z3 := bz.c 3 _ rfl
            have z4 := bz.c 4 _ rfl
            have z5 := bz.c 5 _ rfl
            have zf := bz.fz
            have BZ := Lib.hid bz; have KX := Lib.hid kX; have Q1 := Lib.hid q1; have Q2 := Lib.hid q2; have P1 := Lib.hid hp1; have P2 := Lib.hid hp2; clear bz kX q1 q2 hp1 hp2
            go_simp
            refine hK.out _ (World.setCells X p 0 [.int .i64 M.kind, .slice A5 M.rows.length c5, .slice I5 M.its.length d5, .int .i64 M.at_.wall, .int .i32 M.at_.logic, .int .i32 M.at_.tag]) (bel_setCells hpb _ 0 _ KX.out) (fun _ => ?_)
            clear hK K z0 z1 z2 z3 z4 z5 zf
            refine takeL (i := 21) (v := ?_) rfl (by kernel_rfl) (by kernel_rfl) (by kernel_rfl) (fun _ _ _ h => h) ⟨by rfl, ?_⟩ (by first | assumption | trivial) ?_
            rotate_left
            · intro W9 hSw
              (try dsimp only at hSw)
              go_simp
              try with_reducible rfl
            (try simp only [Act.put, List.setIfInBounds_toArray, List.set_cons_zero, List.set_cons_succ])
            refine wpAnyH_done (by kernel_rfl) ?_ _
            go_wp2_with fail
            go_meet
            case rel => exact ⟨p, A5, c5, I5, d5, rfl, rfl, Lib.hid ⟨BZ.out.set _ rfl, own_rdX (ownsRow_of Q1.out (fun g hg => setCells_heap p g (P1.out g hg) _ _ _)), own_rdX (ownsRow_of Q2.out (fun g hg => setCells_heap p g (P2.out g hg) _ _ _)), bel_setCells hpb _ 0 _ KX.out⟩⟩
          · exact AllReadyH.nil
        · exact AllReadyH.nil
      · exact AllReadyH.nil
    · exact AllReadyH.nil
  case rest =>
  obtain ⟨p5, A5, c5, I5, d5, rfl, rfl, HH⟩ := hcut
  obtain ⟨w9, rfl⟩ : ∃ x, x = wc := ⟨_, rfl⟩
  have hb := HH.out.2.2.2
  have X9 := Lib.hid (X8.out.next hb)
  have B9 := Lib.hid (B8.out.trans (hb.mono B8.out.size))
  have RA_9 := Lib.hid ((RA_8.out.below hb).more hb.size)
  have RI_9 := Lib.hid ((RI_8.out.below hb).more hb.size)
  have SA_9 := Lib.hid (SA_8.out.next hb)
  clear hb X8 B8 RA_8 RI_8 SA_8
  have SB_9 := Lib.hid HH.out.1
  have RB_9 := Lib.hid HH.out.2.1
  have RJ_9 := Lib.hid HH.out.2.2.1
  clear HH
  have x0 := X9.out.c 0 _ rfl
  have x2 := X9.out.c 2 _ rfl
  have x3 := X9.out.c 3 _ rfl
  have x4 := X9.out.c 4 _ rfl
  go_wp2_with fail
  refine (gone_tm HI.out hn HO.out HSA.out _ B9.out).mono ?_
  rintro e w10 ⟨G, cg, rfl, r1, hb⟩
  have X10 := Lib.hid (X9.out.next hb)
  have B10 := Lib.hid (B9.out.trans (hb.mono B9.out.size))
  have RA_10 := Lib.hid ((RA_9.out.below hb).more hb.size)
  have RI_10 := Lib.hid ((RI_9.out.below hb).more hb.size)
  have SA_10 := Lib.hid (SA_9.out.next hb)
  have SB_10 := Lib.hid (SB_9.out.next hb)
  have RB_10 := Lib.hid ((RB_9.out.below hb).more hb.size)
  have RJ_10 := Lib.hid ((RJ_9.out.below hb).more hb.size)
  clear hb X9 B9 RA_9 RI_9 SA_9 SB_9 RB_9 RJ_9 x0 x2 x3 x4
  have RG_10 := Lib.hid r1
  clear r1
  go_upto_region 8 with (fail)
  go_cut [9, 10] from 90 (fun s5 s6 wc => ∃ p A c I d, s5 = .pointer (some ⟨p, 0, none⟩) ∧ s6 = .int .i64 0 ∧ Hid (BxV wc p [.int .i64 M.kind, .slice A M.rows.length c, .slice I M.its.length d, .int .i64 M.at_.wall, .int .i32 M.at_.logic, .int .i32 M.at_.tag] ∧ Rd wc wc.heap.size A (kvv M.rows) ∧ Rd wc wc.heap.size I (itv M.its) ∧ Below w10.heap.size w10 wc))
  case first =>
    refine wp_heldall (S := fun X => Below w10.heap.size w10 X) 21 (by kernel_rfl) rfl (Below.drew (Below.refl _ _)) (fun hHeld => ?_)
    refine takeL (i := 0) (v := ?_) rfl (by kernel_rfl) (by kernel_rfl) (by kernel_rfl) (fun _ _ _ h => h) ⟨by rfl, ?_⟩ (by first | assumption | trivial) ?_
    rotate_left
    · intro W9 hSw
      (try dsimp only at hSw)
      (have XX := X10.out.next hSw; have x0 := XX.c 0 _ rfl; have x1 := XX.c 1 _ rfl; have x2 := XX.c 2 _ rfl; have x3 := XX.c 3 _ rfl; have x4 := XX.c 4 _ rfl; have x5 := XX.c 5 _ rfl; have x6 := XX.c 6 _ rfl; have x7 := XX.c 7 _ rfl; have x8 := XX.c 8 _ rfl; have x9 := XX.c 9 _ rfl; have x33 := XX.c 33 _ rfl)
      go_simp
      try with_reducible rfl
    (try simp only [Act.put, List.setIfInBounds_toArray, List.set_cons_zero, List.set_cons_succ])
    refine takeL (i := 1) (v := ?_) rfl (by kernel_rfl) (by kernel_rfl) (by kernel_rfl) (fun _ _ _ h => h) ⟨by rfl, ?_⟩ (by first | assumption | trivial) ?_
    rotate_left
    · intro W9 hSw
      (try dsimp only at hSw)
      (have XX := X10.out.next hSw; have x0 := XX.c 0 _ rfl; have x1 := XX.c 1 _ rfl; have x2 := XX.c 2 _ rfl; have x3 := XX.c 3 _ rfl; have x4 := XX.c 4 _ rfl; have x5 := XX.c 5 _ rfl; have x6 := XX.c 6 _ rfl; have x7 := XX.c 7 _ rfl; have x8 := XX.c 8 _ rfl; have x9 := XX.c 9 _ rfl; have x33 := XX.c 33 _ rfl)
      go_simp
      try with_reducible rfl
    (try simp only [Act.put, List.setIfInBounds_toArray, List.set_cons_zero, List.set_cons_succ])
    refine takeL (i := 2) (v := ?_) rfl (by kernel_rfl) (by kernel_rfl) (by kernel_rfl) (fun _ _ _ h => h) ⟨by rfl, ?_⟩ (by first | assumption | trivial) ?_
    rotate_left
    · intro W9 hSw
      (try dsimp only at hSw)
      (have XX := X10.out.next hSw; have x0 := XX.c 0 _ rfl; have x1 := XX.c 1 _ rfl; have x2 := XX.c 2 _ rfl; have x3 := XX.c 3 _ rfl; have x4 := XX.c 4 _ rfl; have x5 := XX.c 5 _ rfl; have x6 := XX.c 6 _ rfl; have x7 := XX.c 7 _ rfl; have x8 := XX.c 8 _ rfl; have x9 := XX.c 9 _ rfl; have x33 := XX.c 33 _ rfl)
      go_simp
      try with_reducible rfl
    (try simp only [Act.put, List.setIfInBounds_toArray, List.set_cons_zero, List.set_cons_succ])
    refine takeL (i := 4) (v := ?_) rfl (by kernel_rfl) (by kernel_rfl) (by kernel_rfl) (fun _ _ _ h => h) ⟨by rfl, ?_⟩ (by first | assumption | trivial) ?_
    rotate_left
    · intro W9 hSw
      (try dsimp only at hSw)
      (have XX := X10.out.next hSw; have x0 := XX.c 0 _ rfl; have x1 := XX.c 1 _ rfl; have x2 := XX.c 2 _ rfl; have x3 := XX.c 3 _ rfl; have x4 := XX.c 4 _ rfl; have x5 := XX.c 5 _ rfl; have x6 := XX.c 6 _ rfl; have x7 := XX.c 7 _ rfl; have x8 := XX.c 8 _ rfl; have x9 := XX.c 9 _ rfl; have x33 := XX.c 33 _ rfl)
      go_simp
      try with_reducible rfl
    (try simp only [Act.put, List.setIfInBounds_toArray, List.set_cons_zero, List.set_cons_succ])
    refine takeL (i := 5) (v := ?_) rfl (by kernel_rfl) (by kernel_rfl) (by kernel_rfl) (fun _ _ _ h => h) ⟨by rfl, ?_⟩ (by first | assumption | trivial) ?_
    rotate_left
    · intro W9 hSw
      (try dsimp only at hSw)
      (have XX := X10.out.next hSw; have x0 := XX.c 0 _ rfl; have x1 := XX.c 1 _ rfl; have x2 := XX.c 2 _ rfl; have x3 := XX.c 3 _ rfl; have x4 := XX.c 4 _ rfl; have x5 := XX.c 5 _ rfl; have x6 := XX.c 6 _ rfl; have x7 := XX.c 7 _ rfl; have x8 := XX.c 8 _ rfl; have x9 := XX.c 9 _ rfl; have x33 := XX.c 33 _ rfl)
      go_simp
      try with_reducible rfl
    (try simp only [Act.put, List.setIfInBounds_toArray, List.set_cons_zero, List.set_cons_succ])
    refine takeL (i := 6) (v := ?_) rfl (by kernel_rfl) (by kernel_rfl) (by kernel_rfl) (fun _ _ _ h => h) ⟨by rfl, ?_⟩ (by first | assumption | trivial) ?_
    rotate_left
    · intro W9 hSw
      (try dsimp only at hSw)
      (have XX := X10.out.next hSw; have x0 := XX.c 0 _ rfl; have x1 := XX.c 1 _ rfl; have x2 := XX.c 2 _ rfl; have x3 := XX.c 3 _ rfl; have x4 := XX.c 4 _ rfl; have x5 := XX.c 5 _ rfl; have x6 := XX.c 6 _ rfl; have x7 := XX.c 7 _ rfl; have x8 := XX.c 8 _ rfl; have x9 := XX.c 9 _ rfl; have x33 := XX.c 33 _ rfl)
      go_simp
      try with_reducible rfl
    (try simp only [Act.put, List.setIfInBounds_toArray, List.set_cons_zero, List.set_cons_succ])
    refine takeL (i := 7) (v := ?_) rfl (by kernel_rfl) (by kernel_rfl) (by kernel_rfl) (fun _ _ _ h => h) ⟨by rfl, ?_⟩ (by first | assumption | trivial) ?_
    rotate_left
    · intro W9 hSw
      (try dsimp only at hSw)
      (have XX := X10.out.next hSw; have x0 := XX.c 0 _ rfl; have x1 := XX.c 1 _ rfl; have x2 := XX.c 2 _ rfl; have x3 := XX.c 3 _ rfl; have x4 := XX.c 4 _ rfl; have x5 := XX.c 5 _ rfl; have x6 := XX.c 6 _ rfl; have x7 := XX.c 7 _ rfl; have x8 := XX.c 8 _ rfl; have x9 := XX.c 9 _ rfl; have x33 := XX.c 33 _ rfl)
      go_simp
      try with_reducible rfl
    (try simp only [Act.put, List.setIfInBounds_toArray, List.set_cons_zero, List.set_cons_succ])
    refine takeL (i := 8) (v := ?_) rfl (by kernel_rfl) (by kernel_rfl) (by kernel_rfl) (fun _ _ _ h => h) ⟨by rfl, ?_⟩ (by first | assumption | trivial) ?_
    rotate_left
    · intro W9 hSw
      (try dsimp only at hSw)
      (have XX := X10.out.next hSw; have x0 := XX.c 0 _ rfl; have x1 := XX.c 1 _ rfl; have x2 := XX.c 2 _ rfl; have x3 := XX.c 3 _ rfl; have x4 := XX.c 4 _ rfl; have x5 := XX.c 5 _ rfl; have x6 := XX.c 6 _ rfl; have x7 := XX.c 7 _ rfl; have x8 := XX.c 8 _ rfl; have x9 := XX.c 9 _ rfl; have x33 := XX.c 33 _ rfl)
      go_simp
      try with_reducible rfl
    (try simp only [Act.put, List.setIfInBounds_toArray, List.set_cons_zero, List.set_cons_succ])
    refine takeL (i := 9) (v := ?_) rfl (by kernel_rfl) (by kernel_rfl) (by kernel_rfl) (fun _ _ _ h => h) ⟨by rfl, ?_⟩ (by first | assumption | trivial) ?_
    rotate_left
    · intro W9 hSw
      (try dsimp only at hSw)
      (have XX := X10.out.next hSw; have x0 := XX.c 0 _ rfl; have x1 := XX.c 1 _ rfl; have x2 := XX.c 2 _ rfl; have x3 := XX.c 3 _ rfl; have x4 := XX.c 4 _ rfl; have x5 := XX.c 5 _ rfl; have x6 := XX.c 6 _ rfl; have x7 := XX.c 7 _ rfl; have x8 := XX.c 8 _ rfl; have x9 := XX.c 9 _ rfl; have x33 := XX.c 33 _ rfl)
      go_simp
      try with_reducible rfl
    (try simp only [Act.put, List.setIfInBounds_toArray, List.set_cons_zero, List.set_cons_succ])
    refine takeL (i := 10) (v := ?_) rfl (by kernel_rfl) (by kernel_rfl) (by kernel_rfl) (fun _ _ _ h => h) ⟨by rfl, ?_⟩ (by first | assumption | trivial) ?_
    rotate_left
    · intro W9 hSw
      (try dsimp only at hSw)
      (have XX := X10.out.next hSw; have x0 := XX.c 0 _ rfl; have x1 := XX.c 1 _ rfl; have x2 := XX.c 2 _ rfl; have x3 := XX.c 3 _ rfl; have x4 := XX.c 4 _ rfl; have x5 := XX.c 5 _ rfl; have x6 := XX.c 6 _ rfl; have x7 := XX.c 7 _ rfl; have x8 := XX.c 8 _ rfl; have x9 := XX.c 9 _ rfl; have x33 := XX.c 33 _ rfl)
      go_simp
      try with_reducible rfl
    (try simp only [Act.put, List.setIfInBounds_toArray, List.set_cons_zero, List.set_cons_succ])
    refine takeL (i := 11) (v := ?_) rfl (by kernel_rfl) (by kernel_rfl) (by kernel_rfl) (fun _ _ _ h => h) ⟨by rfl, ?_⟩ (by first | assumption | trivial) ?_
    rotate_left
    · intro W9 hSw
      (try dsimp only at hSw)
      (have XX := X10.out.next hSw; have x0 := XX.c 0 _ rfl; have x1 := XX.c 1 _ rfl; have x2 := XX.c 2 _ rfl; have x3 := XX.c 3 _ rfl; have x4 := XX.c 4 _ rfl; have x5 := XX.c 5 _ rfl; have x6 := XX.c 6 _ rfl; have x7 := XX.c 7 _ rfl; have x8 := XX.c 8 _ rfl; have x9 := XX.c 9 _ rfl; have x33 := XX.c 33 _ rfl)
      go_simp
      try with_reducible rfl
    (try simp only [Act.put, List.setIfInBounds_toArray, List.set_cons_zero, List.set_cons_succ])
    refine takeL (i := 12) (v := ?_) rfl (by kernel_rfl) (by kernel_rfl) (by kernel_rfl) (fun _ _ _ h => h) ⟨by rfl, ?_⟩ (by first | assumption | trivial) ?_
    rotate_left
    · intro W9 hSw
      (try dsimp only at hSw)
      (have XX := X10.out.next hSw; have x0 := XX.c 0 _ rfl; have x1 := XX.c 1 _ rfl; have x2 := XX.c 2 _ rfl; have x3 := XX.c 3 _ rfl; have x4 := XX.c 4 _ rfl; have x5 := XX.c 5 _ rfl; have x6 := XX.c 6 _ rfl; have x7 := XX.c 7 _ rfl; have x8 := XX.c 8 _ rfl; have x9 := XX.c 9 _ rfl; have x33 := XX.c 33 _ rfl)
      go_simp
      try with_reducible rfl
    (try simp only [Act.put, List.setIfInBounds_toArray, List.set_cons_zero, List.set_cons_succ])
    refine takeL (i := 13) (v := ?_) rfl (by kernel_rfl) (by kernel_rfl) (by kernel_rfl) (fun _ _ _ h => h) ⟨by rfl, ?_⟩ (by first | assumption | trivial) ?_
    rotate_left
    · intro W9 hSw
      (try dsimp only at hSw)
      (have XX := X10.out.next hSw; have x0 := XX.c 0 _ rfl; have x1 := XX.c 1 _ rfl; have x2 := XX.c 2 _ rfl; have x3 := XX.c 3 _ rfl; have x4 := XX.c 4 _ rfl; have x5 := XX.c 5 _ rfl; have x6 := XX.c 6 _ rfl; have x7 := XX.c 7 _ rfl; have x8 := XX.c 8 _ rfl; have x9 := XX.c 9 _ rfl; have x33 := XX.c 33 _ rfl)
      go_simp
      try with_reducible rfl
    (try simp only [Act.put, List.setIfInBounds_toArray, List.set_cons_zero, List.set_cons_succ])
    have kX := hHeld
    clear hHeld
    generalize w10.drew = X at *
    refine wpAnyH_ready (rs := [3, 18]) (by kernel_rfl) (by simp) ?_
    refine consL rfl (by rfl) (fun K hK => ?_) ?_
    · go_simp
      go_at_call 22
      refine (without24_any k.A k.n k.c k.cs HI.out.hl (by omega) G _ cg (goneL k.cs k.at_) rfl (Nat.le_trans (gone_len _ _ _) (by rw [HI.out.hl]; omega)) (fun c hc g hg => gone_ne (srt_of HO.out.2.2.1) hc ((goneA_sub _ _ _).subset hg)) X.heap.size X ((HI.out.hr.below (B10.out.trans (kX.mono B10.out.size))).more (B10.out.trans (kX.mono B10.out.size)).size) ((RG_10.out.below kX).more kX.size) (Nat.le_refl _)).mono ?_
      rintro e X2 ⟨v, rfl, own, hb⟩
      obtain ⟨Au, cu, rfl, -, q0⟩ := own_sl own
      clear own
      have kX2 : Below w10.heap.size w10 X2 := kX.trans (hb.mono kX.size)
      refine hK.out _ _ kX2 (fun _ => ?_)
      clear hb hK K kX
      obtain ⟨X, rfl⟩ : ∃ x, x = X2 := ⟨_, rfl⟩
      have kX := kX2
      clear kX2
      (try simp only [Act.put, List.setIfInBounds_toArray, List.set_cons_zero, List.set_cons_succ])
      refine wpAnyH_ready (rs := [14, 18]) (by kernel_rfl) (by simp) ?_
      refine consL rfl (by rfl) (fun K hK => ?_) ?_
      · go_simp
        go_at_call 16
        refine (scan_tm HI.out hm M Au _ cu _ rfl (Nat.le_trans (without_len _ _) (by rw [HI.out.hl]; omega)) X (B10.out.trans (kX.mono B10.out.size)) q0 HKP.out.1 HKP.out.2).mono ?_
        rintro e X2 ⟨A5, c5, I5, d5, rfl, q1, q2, hb⟩
        have kX2 : Below w10.heap.size w10 X2 := kX.trans (hb.mono kX.size)
        refine hK.out _ _ kX2 (fun _ => ?_)
        have q1' := own_base q1 kX.size
        have q2' := own_base q2 kX.size
        clear q1 q2 q0
        have q1 := q1'
        have q2 := q2'
        clear q1' q2'
        clear hb hK K kX
        obtain ⟨X, rfl⟩ : ∃ x, x = X2 := ⟨_, rfl⟩
        have kX := kX2
        clear kX2
        (try simp only [Act.put, List.setIfInBounds_toArray, List.set_cons_zero, List.set_cons_succ])
        refine takeL (i := 15) (v := ?_) rfl (by kernel_rfl) (by kernel_rfl) (by kernel_rfl) (fun _ _ _ h => h) ⟨by rfl, ?_⟩ (by first | assumption | trivial) ?_
        rotate_left
        · intro W9 hSw
          (try dsimp only at hSw)
          go_simp
          try with_reducible rfl
        (try simp only [Act.put, List.setIfInBounds_toArray, List.set_cons_zero, List.set_cons_succ])
        refine takeL (i := 16) (v := ?_) rfl (by kernel_rfl) (by kernel_rfl) (by kernel_rfl) (fun _ _ _ h => h) ⟨by rfl, ?_⟩ (by first | assumption | trivial) ?_
        rotate_left
        · intro W9 hSw
          (try dsimp only at hSw)
          go_simp
          try with_reducible rfl
        (try simp only [Act.put, List.setIfInBounds_toArray, List.set_cons_zero, List.set_cons_succ])
        refine takeL (i := 17) (v := ?_) rfl (by kernel_rfl) (by kernel_rfl) (by kernel_rfl) (fun _ _ _ h => h) ⟨by rfl, ?_⟩ (by first | assumption | trivial) ?_
        rotate_left
        · intro W9 hSw
          (try dsimp only at hSw)
          go_simp
          try with_reducible rfl
        (try simp only [Act.put, List.setIfInBounds_toArray, List.set_cons_zero, List.set_cons_succ])
        refine wpAnyH_ready (rs := [18]) (by kernel_rfl) (by simp) ?_
        refine consL rfl (by rfl) (fun K hK => ?_) ?_
        · go_simp
          have kX2 : Below w10.heap.size w10 (X.alloc (.cells #[.int .i64 0, .slice none 0 0, .slice none 0 0, .int .i64 0, .int .i32 0, .int .i32 0] 53)) := kX.alloc kX.size _
          refine hK.out _ _ kX2 (fun _ => ?_)
          have hb : Below X.heap.size X (X.alloc (.cells #[.int .i64 0, .slice none 0 0, .slice none 0 0, .int .i64 0, .int .i32 0, .int .i32 0] 53)) := (Below.refl _ _).alloc (Nat.le_refl _) _
          have bz : BxV (X.alloc (.cells #[.int .i64 0, .slice none 0 0, .slice none 0 0, .int .i64 0, .int .i32 0, .int .i32 0] 53)) X.heap.size sezL := BxV.new _ _ _
          have hp1 : ∀ g, (Value.slice A5 M.rows.length c5).ownBlock = some g → g ≠ X.heap.size := fun g hg => by have := (q1.lt g hg).2; omega
          have hp2 : ∀ g, (Value.slice I5 M.its.length d5).ownBlock = some g → g ≠ X.heap.size := fun g hg => by have := (q2.lt g hg).2; omega
          have q1' := own_keep q1 hb (Nat.le_refl _)
          have q2' := own_keep q2 hb (Nat.le_refl _)
          clear q1 q2
          have q1 := q1'
          have q2 := q2'
          clear q1' q2'
          have hpb : w10.heap.size ≤ X.heap.size := kX.size
          clear hb hK K kX
          generalize X.alloc (.cells #[.int .i64 0, .slice none 0 0, .slice none 0 0, .int .i64 0, .int .i32 0, .int .i32 0] 53) = X2 at *
          generalize X.heap.size = p at *
          obtain ⟨X, rfl⟩ : ∃ x, x = X2 := ⟨_, rfl⟩
          have kX := kX2
          clear kX2
          (try simp only [Act.put, List.setIfInBounds_toArray, List.set_cons_zero, List.set_cons_succ])
          refine wpAnyH_ready (rs := [19]) (by kernel_rfl) (by simp) ?_
          refine consL rfl (by rfl) (fun K hK => ?_) ?_
          · skip
            have z0 := bz.c 0 _ rfl
            have z1 := bz.c 1 _ rfl
            have z2 := bz.c 2 _ rfl
            have z3 := bz.c 3 _ rfl
            have z4 := bz.c 4 _ rfl
            have z5 := bz.c 5 _ rfl
            have zf := bz.fz
            have BZ := Lib.hid bz; have KX := Lib.hid kX; have Q1 := Lib.hid q1; have Q2 := Lib.hid q2; have P1 := Lib.hid hp1; have P2 := Lib.hid hp2; clear bz kX q1 q2 hp1 hp2
            go_simp
            refine hK.out _ (World.setCells X p 0 [.int .i64 M.kind, .slice A5 M.rows.length c5, .slice I5 M.its.length d5, .int .i64 M.at_.wall, .int .i32 M.at_.logic, .int .i32 M.at_.tag]) (bel_setCells hpb _ 0 _ KX.out) (fun _ => ?_)
            clear hK K z0 z1 z2 z3 z4 z5 zf
            refine takeL (i := 20) (v := ?_) rfl (by kernel_rfl) (by kernel_rfl) (by kernel_rfl) (fun _ _ _ h => h) ⟨by rfl, ?_⟩ (by first | assumption | trivial) ?_
            rotate_left
            · intro W9 hSw
              (try dsimp only at hSw)
              go_simp
              try with_reducible rfl
            (try simp only [Act.put, List.setIfInBounds_toArray, List.set_cons_zero, List.set_cons_succ])
            refine wpAnyH_done (by kernel_rfl) ?_ _
            go_wp2_with fail
            go_meet
            case rel => exact ⟨p, A5, c5, I5, d5, rfl, rfl, Lib.hid ⟨BZ.out.set _ rfl, own_rdX (ownsRow_of Q1.out (fun g hg => setCells_heap p g (P1.out g hg) _ _ _)), own_rdX (ownsRow_of Q2.out (fun g hg => setCells_heap p g (P2.out g hg) _ _ _)), bel_setCells hpb _ 0 _ KX.out⟩⟩
          · exact AllReadyH.nil
        · exact AllReadyH.nil
      refine consL rfl (by rfl) (fun K hK => ?_) ?_
      · go_simp
        have kX2 : Below w10.heap.size w10 (X.alloc (.cells #[.int .i64 0, .slice none 0 0, .slice none 0 0, .int .i64 0, .int .i32 0, .int .i32 0] 53)) := kX.alloc kX.size _
        refine hK.out _ _ kX2 (fun _ => ?_)
        have hb : Below X.heap.size X (X.alloc (.cells #[.int .i64 0, .slice none 0 0, .slice none 0 0, .int .i64 0, .int .i32 0, .int .i32 0] 53)) := (Below.refl _ _).alloc (Nat.le_refl _) _
        have bz : BxV (X.alloc (.cells #[.int .i64 0, .slice none 0 0, .slice none 0 0, .int .i64 0, .int .i32 0, .int .i32 0] 53)) X.heap.size sezL := BxV.new _ _ _
        have q0' := (q0.below hb).more hb.size
        clear q0
        have q0 := q0'
        clear q0'
        have hpb : w10.heap.size ≤ X.heap.size := kX.size
        clear hb hK K kX
        generalize X.alloc (.cells #[.int .i64 0, .slice none 0 0, .slice none 0 0, .int .i64 0, .int .i32 0, .int .i32 0] 53) = X2 at *
        generalize X.heap.size = p at *
        obtain ⟨X, rfl⟩ : ∃ x, x = X2 := ⟨_, rfl⟩
        have kX := kX2
        clear kX2
        (try simp only [Act.put, List.setIfInBounds_toArray, List.set_cons_zero, List.set_cons_succ])
        refine wpAnyH_ready (rs := [14]) (by kernel_rfl) (by simp) ?_
        refine consL rfl (by rfl) (fun K hK => ?_) ?_
        · go_simp
          go_at_call 16
          refine (scan_tm HI.out hm M Au _ cu _ rfl (Nat.le_trans (without_len _ _) (by rw [HI.out.hl]; omega)) X (B10.out.trans (kX.mono B10.out.size)) q0 HKP.out.1 HKP.out.2).mono ?_
          rintro e X2 ⟨A5, c5, I5, d5, rfl, q1, q2, hb⟩
          have kX2 : Below w10.heap.size w10 X2 := kX.trans (hb.mono kX.size)
          refine hK.out _ _ kX2 (fun _ => ?_)
          have hpl := bz.lt
          have hp1 : ∀ g, (Value.slice A5 M.rows.length c5).ownBlock = some g → g ≠ p := fun g hg => by have := (q1.lt g hg).1; omega
          have hp2 : ∀ g, (Value.slice I5 M.its.length d5).ownBlock = some g → g ≠ p := fun g hg => by have := (q2.lt g hg).1; omega
          have q1' := own_base q1 kX.size
          have q2' := own_base q2 kX.size
          clear q1 q2 q0
          have q1 := q1'
          have q2 := q2'
          clear q1' q2'
          have bz' := bz.next hb
          clear bz
          have bz := bz'
          clear bz'
          clear hb hK K kX
          obtain ⟨X, rfl⟩ : ∃ x, x = X2 := ⟨_, rfl⟩
          have kX := kX2
          clear kX2
          (try simp only [Act.put, List.setIfInBounds_toArray, List.set_cons_zero, List.set_cons_succ])
          refine takeL (i := 15) (v := ?_) rfl (by kernel_rfl) (by kernel_rfl) (by kernel_rfl) (fun _ _ _ h => h) ⟨by rfl, ?_⟩ (by first | assumption | trivial) ?_
          rotate_left
          · intro W9 hSw
            (try dsimp only at hSw)
            go_simp
            try with_reducible rfl
          (try simp only [Act.put, List.setIfInBounds_toArray, List.set_cons_zero, List.set_cons_succ])
          refine takeL (i := 16) (v := ?_) rfl (by kernel_rfl) (by kernel_rfl) (by kernel_rfl) (fun _ _ _ h => h) ⟨by rfl, ?_⟩ (by first | assumption | trivial) ?_
          rotate_left
          · intro W9 hSw
            (try dsimp only at hSw)
            go_simp
            try with_reducible rfl
          (try simp only [Act.put, List.setIfInBounds_toArray, List.set_cons_zero, List.set_cons_succ])
          refine takeL (i := 17) (v := ?_) rfl (by kernel_rfl) (by kernel_rfl) (by kernel_rfl) (fun _ _ _ h => h) ⟨by rfl, ?_⟩ (by first | assumption | trivial) ?_
          rotate_left
          · intro W9 hSw
            (try dsimp only at hSw)
            go_simp
            try with_reducible rfl
          (try simp only [Act.put, List.setIfInBounds_toArray, List.set_cons_zero, List.set_cons_succ])
          refine wpAnyH_ready (rs := [19]) (by kernel_rfl) (by simp) ?_
          refine consL rfl (by rfl) (fun K hK => ?_) ?_
          · skip
            have z0 := bz.c 0 _ rfl
            have z1 := bz.c 1 _ rfl
            have z2 := bz.c 2 _ rfl
            have z3 := bz.c 3 _ rfl
            have z4 := bz.c 4 _ rfl
            have z5 := bz.c 5 _ rfl
            have zf := bz.fz
            have BZ := Lib.hid bz; have KX := Lib.hid kX; have Q1 := Lib.hid q1; have Q2 := Lib.hid q2; have P1 := Lib.hid hp1; have P2 := Lib.hid hp2; clear bz kX q1 q2 hp1 hp2
            go_simp
            refine hK.out _ (World.setCells X p 0 [.int .i64 M.kind, .slice A5 M.rows.length c5, .slice I5 M.its.length d5, .int .i64 M.at_.wall, .int .i32 M.at_.logic, .int .i32 M.at_.tag]) (bel_setCells hpb _ 0 _ KX.out) (fun _ => ?_)
            clear hK K z0 z1 z2 z3 z4 z5 zf
            refine takeL (i := 20) (v := ?_) rfl (by kernel_rfl) (by kernel_rfl) (by kernel_rfl) (fun _ _ _ h => h) ⟨by rfl, ?_⟩ (by first | assumption | trivial) ?_
            rotate_left
            · intro W9 hSw
              (try dsimp only at hSw)
              go_simp
              try with_reducible rfl
            (try simp only [Act.put, List.setIfInBounds_toArray, List.set_cons_zero, List.set_cons_succ])
            refine wpAnyH_done (by kernel_rfl) ?_ _
            go_wp2_with fail
            go_meet
            case rel => exact ⟨p, A5, c5, I5, d5, rfl, rfl, Lib.hid ⟨BZ.out.set _ rfl, own_rdX (ownsRow_of Q1.out (fun g hg => setCells_heap p g (P1.out g hg) _ _ _)), own_rdX (ownsRow_of Q2.out (fun g hg => setCells_heap p g (P2.out g hg) _ _ _)), bel_setCells hpb _ 0 _ KX.out⟩⟩
          · exact AllReadyH.nil
        · exact AllReadyH.nil
      · exact AllReadyH.nil
    refine consL rfl (by rfl) (fun K hK => ?_) ?_
    · go_simp
      have kX2 : Below w10.heap.size w10 (X.alloc (.cells #[.int .i64 0, .slice none 0 0, .slice none 0 0, .int .i64 0, .int .i32 0, .int .i32 0] 53)) := kX.alloc kX.size _
      refine hK.out _ _ kX2 (fun _ => ?_)
      have hb : Below X.heap.size X (X.alloc (.cells #[.int .i64 0, .slice none 0 0, .slice none 0 0, .int .i64 0, .int .i32 0, .int .i32 0] 53)) := (Below.refl _ _).alloc (Nat.le_refl _) _
      have bz : BxV (X.alloc (.cells #[.int .i64 0, .slice none 0 0, .slice none 0 0, .int .i64 0, .int .i32 0, .int .i32 0] 53)) X.heap.size sezL := BxV.new _ _ _
      have hpb : w10.heap.size ≤ X.heap.size := kX.size
      clear hb hK K kX
      generalize X.alloc (.cells #[.int .i64 0, .slice none 0 0, .slice none 0 0, .int .i64 0, .int .i32 0, .int .i32 0] 53) = X2 at *
      generalize X.heap.size = p at *
      obtain ⟨X, rfl⟩ : ∃ x, x = X2 := ⟨_, rfl⟩
      have kX := kX2
      clear kX2
      (try simp only [Act.put, List.setIfInBounds_toArray, List.set_cons_zero, List.set_cons_succ])
      refine wpAnyH_ready (rs := [3]) (by kernel_rfl) (by simp) ?_
      refine consL rfl (by rfl) (fun K hK => ?_) ?_
      · go_simp
        go_at_call 22
        refine (without24_any k.A k.n k.c k.cs HI.out.hl (by omega) G _ cg (goneL k.cs k.at_) rfl (Nat.le_trans (gone_len _ _ _) (by rw [HI.out.hl]; omega)) (fun c hc g hg => gone_ne (srt_of HO.out.2.2.1) hc ((goneA_sub _ _ _).subset hg)) X.heap.size X ((HI.out.hr.below (B10.out.trans (kX.mono B10.out.size))).more (B10.out.trans (kX.mono B10.out.size)).size) ((RG_10.out.below kX).more kX.size) (Nat.le_refl _)).mono ?_
        rintro e X2 ⟨v, rfl, own, hb⟩
        obtain ⟨Au, cu, rfl, -, q0⟩ := own_sl own
        clear own
        have kX2 : Below w10.heap.size w10 X2 := kX.trans (hb.mono kX.size)
        refine hK.out _ _ kX2 (fun _ => ?_)
        have bz' := bz.next hb
        clear bz
        have bz := bz'
        clear bz'
        clear hb hK K kX
        obtain ⟨X, rfl⟩ : ∃ x, x = X2 := ⟨_, rfl⟩
        have kX := kX2
        clear kX2
        (try simp only [Act.put, List.setIfInBounds_toArray, List.set_cons_zero, List.set_cons_succ])
        refine wpAnyH_ready (rs := [14]) (by kernel_rfl) (by simp) ?_
        refine consL rfl (by rfl) (fun K hK => ?_) ?_
        · go_simp
          go_at_call 16
          refine (scan_tm HI.out hm M Au _ cu _ rfl (Nat.le_trans (without_len _ _) (by rw [HI.out.hl]; omega)) X (B10.out.trans (kX.mono B10.out.size)) q0 HKP.out.1 HKP.out.2).mono ?_
          rintro e X2 ⟨A5, c5, I5, d5, rfl, q1, q2, hb⟩
          have kX2 : Below w10.heap.size w10 X2 := kX.trans (hb.mono kX.size)
          refine hK.out _ _ kX2 (fun _ => ?_)
          have hpl := bz.lt
          have hp1 : ∀ g, (Value.slice A5 M.rows.length c5).ownBlock = some g → g ≠ p := fun g hg => by have := (q1.lt g hg).1; omega
          have hp2 : ∀ g, (Value.slice I5 M.its.length d5).ownBlock = some g → g ≠ p := fun g hg => by have := (q2.lt g hg).1; omega
          have q1' := own_base q1 kX.size
          have q2' := own_base q2 kX.size
          clear q1 q2 q0
          have q1 := q1'
          have q2 := q2'
          clear q1' q2'
          have bz' := bz.next hb
          clear bz
          have bz := bz'
          clear bz'
          clear hb hK K kX
          obtain ⟨X, rfl⟩ : ∃ x, x = X2 := ⟨_, rfl⟩
          have kX := kX2
          clear kX2
          (try simp only [Act.put, List.setIfInBounds_toArray, List.set_cons_zero, List.set_cons_succ])
          refine takeL (i := 15) (v := ?_) rfl (by kernel_rfl) (by kernel_rfl) (by kernel_rfl) (fun _ _ _ h => h) ⟨by rfl, ?_⟩ (by first | assumption | trivial) ?_
          rotate_left
          · intro W9 hSw
            (try dsimp only at hSw)
            go_simp
            try with_reducible rfl
          (try simp only [Act.put, List.setIfInBounds_toArray, List.set_cons_zero, List.set_cons_succ])
          refine takeL (i := 16) (v := ?_) rfl (by kernel_rfl) (by kernel_rfl) (by kernel_rfl) (fun _ _ _ h => h) ⟨by rfl, ?_⟩ (by first | assumption | trivial) ?_
          rotate_left
          · intro W9 hSw
            (try dsimp only at hSw)
            go_simp
            try with_reducible rfl
          (try simp only [Act.put, List.setIfInBounds_toArray, List.set_cons_zero, List.set_cons_succ])
          refine takeL (i := 17) (v := ?_) rfl (by kernel_rfl) (by kernel_rfl) (by kernel_rfl) (fun _ _ _ h => h) ⟨by rfl, ?_⟩ (by first | assumption | trivial) ?_
          rotate_left
          · intro W9 hSw
            (try dsimp only at hSw)
            go_simp
            try with_reducible rfl
          (try simp only [Act.put, List.setIfInBounds_toArray, List.set_cons_zero, List.set_cons_succ])
          refine wpAnyH_ready (rs := [19]) (by kernel_rfl) (by simp) ?_
          refine consL rfl (by rfl) (fun K hK => ?_) ?_
          · skip
            have z0 := bz.c 0 _ rfl
            have z1 := bz.c 1 _ rfl
            have z2 := bz.c 2 _ rfl
            have z3 := bz.c 3 _ rfl
            have z4 := bz.c 4 _ rfl
            have z5 := bz.c 5 _ rfl
            have zf := bz.fz
            have BZ := Lib.hid bz; have KX := Lib.hid kX; have Q1 := Lib.hid q1; have Q2 := Lib.hid q2; have P1 := Lib.hid hp1; have P2 := Lib.hid hp2; clear bz kX q1 q2 hp1 hp2
            go_simp
            refine hK.out _ (World.setCells X p 0 [.int .i64 M.kind, .slice A5 M.rows.length c5, .slice I5 M.its.length d5, .int .i64 M.at_.wall, .int .i32 M.at_.logic, .int .i32 M.at_.tag]) (bel_setCells hpb _ 0 _ KX.out) (fun _ => ?_)
            clear hK K z0 z1 z2 z3 z4 z5 zf
            refine takeL (i := 20) (v := ?_) rfl (by kernel_rfl) (by kernel_rfl) (by kernel_rfl) (fun _ _ _ h => h) ⟨by rfl, ?_⟩ (by first | assumption | trivial) ?_
            rotate_left
            · intro W9 hSw
              (try dsimp only at hSw)
              go_simp
              try with_reducible rfl
            (try simp only [Act.put, List.setIfInBounds_toArray, List.set_cons_zero, List.set_cons_succ])
            refine wpAnyH_done (by kernel_rfl) ?_ _
            go_wp2_with fail
            go_meet
            case rel => exact ⟨p, A5, c5, I5, d5, rfl, rfl, Lib.hid ⟨BZ.out.set _ rfl, own_rdX (ownsRow_of Q1.out (fun g hg => setCells_heap p g (P1.out g hg) _ _ _)), own_rdX (ownsRow_of Q2.out (fun g hg => setCells_heap p g (P2.out g hg) _ _ _)), bel_setCells hpb _ 0 _ KX.out⟩⟩
          · exact AllReadyH.nil
        · exact AllReadyH.nil
      · exact AllReadyH.nil
    · exact AllReadyH.nil
  case rest =>
  obtain ⟨p9, A9, c9, I9, d9, rfl, rfl, HH⟩ := hcut
  obtain ⟨w11, rfl⟩ : ∃ x, x = wc := ⟨_, rfl⟩
  have hb := HH.out.2.2.2
  have X11 := Lib.hid (X10.out.next hb)
  have B11 := Lib.hid (B10.out.trans (hb.mono B10.out.size))
  have RA_11 := Lib.hid ((RA_10.out.below hb).more hb.size)
  have RI_11 := Lib.hid ((RI_10.out.below hb).more hb.size)
  have SA_11 := Lib.hid (SA_10.out.next hb)
  have SB_11 := Lib.hid (SB_10.out.next hb)
  have RB_11 := Lib.hid ((RB_10.out.below hb).more hb.size)
  have RJ_11 := Lib.hid ((RJ_10.out.below hb).more hb.size)
  have RG_11 := Lib.hid ((RG_10.out.below hb).more hb.size)
  clear hb X10 B10 RA_10 RI_10 SA_10 SB_10 RB_10 RJ_10 RG_10
  have SD_11 := Lib.hid HH.out.1
  have RD_11 := Lib.hid HH.out.2.1
  have RL_11 := Lib.hid HH.out.2.2.1
  clear HH
  have x0 := SA_11.out.c 0 _ rfl
  have x1 := SA_11.out.c 1 _ rfl
  have x2 := SA_11.out.c 2 _ rfl
  have x3 := SA_11.out.c 3 _ rfl
  have x4 := SA_11.out.c 4 _ rfl
  have x5 := SA_11.out.c 5 _ rfl
  have y0 := SB_11.out.c 0 _ rfl
  have y1 := SB_11.out.c 1 _ rfl
  have y2 := SB_11.out.c 2 _ rfl
  have y3 := SB_11.out.c 3 _ rfl
  have y4 := SB_11.out.c 4 _ rfl
  have y5 := SB_11.out.c 5 _ rfl
  go_wp2_with fail
  refine (seen_yes M.kind M.at_ A1 M.rows.length c1 A5 c5 M.rows rfl ML.out.1 I1 M.its.length d1 I5 d5 M.its rfl ML.out.2 w11.heap.size w11 RA_11.out RB_11.out RI_11.out RJ_11.out (Nat.le_refl _)).mono ?_
  rintro e w12 ⟨rfl, hb⟩
  have X12 := Lib.hid (X11.out.next hb)
  have B12 := Lib.hid (B11.out.trans (hb.mono B11.out.size))
  have RA_12 := Lib.hid ((RA_11.out.below hb).more hb.size)
  have RI_12 := Lib.hid ((RI_11.out.below hb).more hb.size)
  have SA_12 := Lib.hid (SA_11.out.next hb)
  have SB_12 := Lib.hid (SB_11.out.next hb)
  have RB_12 := Lib.hid ((RB_11.out.below hb).more hb.size)
  have RJ_12 := Lib.hid ((RJ_11.out.below hb).more hb.size)
  have RG_12 := Lib.hid ((RG_11.out.below hb).more hb.size)
  have SD_12 := Lib.hid (SD_11.out.next hb)
  have RD_12 := Lib.hid ((RD_11.out.below hb).more hb.size)
  have RL_12 := Lib.hid ((RL_11.out.below hb).more hb.size)
  clear hb X11 B11 RA_11 RI_11 SA_11 SB_11 RB_11 RJ_11 RG_11 SD_11 RD_11 RL_11 x0 x1 x2 x3 x4 x5 y0 y1 y2 y3 y4 y5
  have x0 := SA_12.out.c 0 _ rfl
  have x1 := SA_12.out.c 1 _ rfl
  have x2 := SA_12.out.c 2 _ rfl
  have x3 := SA_12.out.c 3 _ rfl
  have x4 := SA_12.out.c 4 _ rfl
  have x5 := SA_12.out.c 5 _ rfl
  have y0 := SD_12.out.c 0 _ rfl
  have y1 := SD_12.out.c 1 _ rfl
  have y2 := SD_12.out.c 2 _ rfl
  have y3 := SD_12.out.c 3 _ rfl
  have y4 := SD_12.out.c 4 _ rfl
  have y5 := SD_12.out.c 5 _ rfl
  go_wp2_with fail
  refine (seen_yes M.kind M.at_ A1 M.rows.length c1 A9 c9 M.rows rfl ML.out.1 I1 M.its.length d1 I9 d9 M.its rfl ML.out.2 w12.heap.size w12 RA_12.out RD_12.out RI_12.out RL_12.out (Nat.le_refl _)).mono ?_
  rintro e w13 ⟨rfl, hb⟩
  have X13 := Lib.hid (X12.out.next hb)
  have B13 := Lib.hid (B12.out.trans (hb.mono B12.out.size))
  have RA_13 := Lib.hid ((RA_12.out.below hb).more hb.size)
  have RI_13 := Lib.hid ((RI_12.out.below hb).more hb.size)
  have SA_13 := Lib.hid (SA_12.out.next hb)
  have SB_13 := Lib.hid (SB_12.out.next hb)
  have RB_13 := Lib.hid ((RB_12.out.below hb).more hb.size)
  have RJ_13 := Lib.hid ((RJ_12.out.below hb).more hb.size)
  have RG_13 := Lib.hid ((RG_12.out.below hb).more hb.size)
  have SD_13 := Lib.hid (SD_12.out.next hb)
  have RD_13 := Lib.hid ((RD_12.out.below hb).more hb.size)
  have RL_13 := Lib.hid ((RL_12.out.below hb).more hb.size)
  clear hb X12 B12 RA_12 RI_12 SA_12 SB_12 RB_12 RJ_12 RG_12 SD_12 RD_12 RL_12 x0 x1 x2 x3 x4 x5 y0 y1 y2 y3 y4 y5
  have HGL := Lib.hid (gone_le k.at_ k.cs zE)
  have hgl : (goneL k.cs k.at_).length ≤ 1000000 := Nat.le_trans (gone_len _ _ _) (by rw [HI.out.hl]; omega)
  go_wp2_with fail
  go_loopw [11] (fun s11 wr => ∃ (i : Nat), s11 = .int .i64 (i : Int) ∧ i ≤ (goneL k.cs k.at_).length ∧ Hid (Below w13.heap.size w13 wr)) (fun s11 _ => (goneL k.cs k.at_).length - (intOf s11).toNat)
  case atStart => exact ⟨0, rfl, Nat.zero_le _, Lib.hid (Below.refl _ _)⟩
  case round =>
  obtain ⟨i, rfl, hi, hB⟩ := hrel
  obtain ⟨w14, rfl⟩ : ∃ x, x = wr := ⟨_, rfl⟩
  have hb := hB.out
  have X14 := Lib.hid (X13.out.next hb)
  have B14 := Lib.hid (B13.out.trans (hb.mono B13.out.size))
  have RA_14 := Lib.hid ((RA_13.out.below hb).more hb.size)
  have RI_14 := Lib.hid ((RI_13.out.below hb).more hb.size)
  have SA_14 := Lib.hid (SA_13.out.next hb)
  have SB_14 := Lib.hid (SB_13.out.next hb)
  have RB_14 := Lib.hid ((RB_13.out.below hb).more hb.size)
  have RJ_14 := Lib.hid ((RJ_13.out.below hb).more hb.size)
  have RG_14 := Lib.hid ((RG_13.out.below hb).more hb.size)
  have SD_14 := Lib.hid (SD_13.out.next hb)
  have RD_14 := Lib.hid ((RD_13.out.below hb).more hb.size)
  have RL_14 := Lib.hid ((RL_13.out.below hb).more hb.size)
  clear hb
  by_cases hlt : i < (goneL k.cs k.at_).length
  case pos =>
    obtain ⟨g, hg⟩ : ∃ g, (goneL k.cs k.at_)[i]? = some g := ⟨_, List.getElem?_eq_getElem hlt⟩
    obtain ⟨b, off, hA, hbl, hce⟩ := ce_at RG_14.out hg
    obtain ⟨d0, d1, d2, d3, -, -⟩ := hce
    have hle : less k.at_ g.at_ = false := by
      have h1 := HGL.out g (List.mem_of_getElem? hg)
      unfold le at h1
      simpa using h1
    have HLC : Hid (∀ W, Calls Try.prog 11 #[.agg #[.int .i64 k.at_.wall, .int .i32 k.at_.logic, .int .i32 k.at_.tag], .agg #[.int .i64 g.at_.wall, .int .i32 g.at_.logic, .int .i32 g.at_.tag]] W fun e w' => e = .returned (.bool false) ∧ Below W.heap.size W w') := Lib.hid (fun W => by have h := rless_any k.at_ g.at_ W; rw [hle] at h; exact h)
    have u2 := X14.out.c 2 _ rfl
    have u3 := X14.out.c 3 _ rfl
    have u4 := X14.out.c 4 _ rfl
    have zx := X14.out.lt
    have i1 : (i : Int) < (((goneL k.cs k.at_).length : Nat) : Int) := by omega
    have i0 : (0 : Int) ≤ (i : Int) := by omega
    subst hA
    generalize (goneL k.cs k.at_).length = gl at *
    clear hle hg
    go_wp2_with fail
    refine wp_qall (by kernel_rfl) (by kernel_rfl) ?_
    intro hcg
    repeat (first | go_big_quiet_step ((with_reducible (exact Calls.reg (HLC.out _)))) | quiet_step ((with_reducible (exact Calls.reg (HLC.out _)))))
    refine wpQuiet_nil ?_
    intro wq hbwq hcwq hfwq
    clear hcg
    have Bq := Lib.hid (hB.out.trans (hbwq.mono hB.out.size))
    clear hbwq hcwq hfwq hB
    go_wp2_with fail
    go_roundw
    case rel => exact ⟨i + 1, by go_num, by omega, Bq⟩
    case measure => simp [intOf]; omega
  have i1 : ¬ (i : Int) < (((goneL k.cs k.at_).length : Nat) : Int) := by omega
  clear hlt hB X13 B13 RA_13 RI_13 SA_13 SB_13 RB_13 RJ_13 RG_13 SD_13 RD_13 RL_13
  have x0 := X14.out.c 0 _ rfl
  have x1 := X14.out.c 1 _ rfl
  have x2 := X14.out.c 2 _ rfl
  have x3 := X14.out.c 3 _ rfl
  have x4 := X14.out.c 4 _ rfl
  have x5 := X14.out.c 5 _ rfl
  have x6 := X14.out.c 6 _ rfl
  have x7 := X14.out.c 7 _ rfl
  have x8 := X14.out.c 8 _ rfl
  have x9 := X14.out.c 9 _ rfl
  go_wp2_with fail
  refine (refresh24_any k.A k.n k.c k.cs HI.out.hl (by omega) k.A2 k.m k.c2 k.is HI.out.hl2 (by omega) k.at_ k.to_ k.by_ w.heap.size _ (HI.out.hr.below B14.out) (HI.out.hr2.below B14.out) B14.out.size).mono ?_
  rintro e w15 ⟨rfl, hb⟩
  have X15 := Lib.hid (X14.out.next hb)
  have B15 := Lib.hid (B14.out.trans (hb.mono B14.out.size))
  have RA_15 := Lib.hid ((RA_14.out.below hb).more hb.size)
  have RI_15 := Lib.hid ((RI_14.out.below hb).more hb.size)
  have SA_15 := Lib.hid (SA_14.out.next hb)
  have SB_15 := Lib.hid (SB_14.out.next hb)
  have RB_15 := Lib.hid ((RB_14.out.below hb).more hb.size)
  have RJ_15 := Lib.hid ((RJ_14.out.below hb).more hb.size)
  have RG_15 := Lib.hid ((RG_14.out.below hb).more hb.size)
  have SD_15 := Lib.hid (SD_14.out.next hb)
  have RD_15 := Lib.hid ((RD_14.out.below hb).more hb.size)
  have RL_15 := Lib.hid ((RL_14.out.below hb).more hb.size)
  clear hb X14 B14 RA_14 RI_14 SA_14 SB_14 RB_14 RJ_14 RG_14 SD_14 RD_14 RL_14 x0 x1 x2 x3 x4 x5 x6 x7 x8 x9
  rw [HE0.out]
  cases hrf : refM k.cs k.is k.at_ k.to_ k.by_
  case false =>
    go_wp2_with fail
    go_ret
    exact ⟨rfl, B15.out⟩
  have HR9 := Lib.hid (HRF.out hrf)
  have hM1 := HR9.out.1
  have hkb : (M.kind == 1) = true := by rw [hM1]; rfl
  have HP := HR9.out.2.1
  have HQ := HR9.out.2.2
  rw [← hM1] at HP HQ
  have HP9 := Lib.hid HP
  have HQ9 := Lib.hid HQ
  clear hM1 HP HQ hrf HRF HR9
  have x0 := X15.out.c 0 _ rfl
  have x2 := X15.out.c 2 _ rfl
  have x3 := X15.out.c 3 _ rfl
  have x4 := X15.out.c 4 _ rfl
  have x8 := X15.out.c 8 _ rfl
  have x9 := X15.out.c 9 _ rfl
  go_wp2_with fail
  refine (scan_tn HI.out hn M k.at_ _ B15.out HP9.out.1 HP9.out.2).mono ?_
  rintro e w16 ⟨A13, c13, I13, d13, rfl, o1, o2, hb⟩
  have r1 := own_rdX o1
  have r2 := own_rdX o2
  clear o1 o2
  have X16 := Lib.hid (X15.out.next hb)
  have B16 := Lib.hid (B15.out.trans (hb.mono B15.out.size))
  have RA_16 := Lib.hid ((RA_15.out.below hb).more hb.size)
  have RI_16 := Lib.hid ((RI_15.out.below hb).more hb.size)
  have SA_16 := Lib.hid (SA_15.out.next hb)
  have SB_16 := Lib.hid (SB_15.out.next hb)
  have RB_16 := Lib.hid ((RB_15.out.below hb).more hb.size)
  have RJ_16 := Lib.hid ((RJ_15.out.below hb).more hb.size)
  have RG_16 := Lib.hid ((RG_15.out.below hb).more hb.size)
  have SD_16 := Lib.hid (SD_15.out.next hb)
  have RD_16 := Lib.hid ((RD_15.out.below hb).more hb.size)
  have RL_16 := Lib.hid ((RL_15.out.below hb).more hb.size)
  clear hb X15 B15 RA_15 RI_15 SA_15 SB_15 RB_15 RJ_15 RG_15 SD_15 RD_15 RL_15 x0 x2 x3 x4 x8 x9
  have RP_16 := Lib.hid r1
  clear r1
  have RO_16 := Lib.hid r2
  clear r2
  go_upto_region 20 with (fail)
  have hb : Below w16.heap.size w16 (w16.alloc (.cells #[.int .i64 M.kind, .slice A13 M.rows.length c13, .slice I13 M.its.length d13, .int .i64 M.at_.wall, .int .i32 M.at_.logic, .int .i32 M.at_.tag] 53)) := (Below.refl _ _).alloc (Nat.le_refl _) _
  have SP_17 : Hid (BxV (w16.alloc (.cells #[.int .i64 M.kind, .slice A13 M.rows.length c13, .slice I13 M.its.length d13, .int .i64 M.at_.wall, .int .i32 M.at_.logic, .int .i32 M.at_.tag] 53)) w16.heap.size [.int .i64 M.kind, .slice A13 M.rows.length c13, .slice I13 M.its.length d13, .int .i64 M.at_.wall, .int .i32 M.at_.logic, .int .i32 M.at_.tag]) := Lib.hid (BxV.new _ _ _)
  generalize hw : w16.alloc (.cells #[.int .i64 M.kind, .slice A13 M.rows.length c13, .slice I13 M.its.length d13, .int .i64 M.at_.wall, .int .i32 M.at_.logic, .int .i32 M.at_.tag] 53) = w17 at *
  have hpw : w16.heap.size < w17.heap.size := SP_17.out.lt
  have X17 := Lib.hid (X16.out.next hb)
  have B17 := Lib.hid (B16.out.trans (hb.mono B16.out.size))
  have RA_17 := Lib.hid ((RA_16.out.below hb).more hb.size)
  have RI_17 := Lib.hid ((RI_16.out.below hb).more hb.size)
  have SA_17 := Lib.hid (SA_16.out.next hb)
  have SB_17 := Lib.hid (SB_16.out.next hb)
  have RB_17 := Lib.hid ((RB_16.out.below hb).more hb.size)
  have RJ_17 := Lib.hid ((RJ_16.out.below hb).more hb.size)
  have RG_17 := Lib.hid ((RG_16.out.below hb).more hb.size)
  have SD_17 := Lib.hid (SD_16.out.next hb)
  have RD_17 := Lib.hid ((RD_16.out.below hb).more hb.size)
  have RL_17 := Lib.hid ((RL_16.out.below hb).more hb.size)
  have RP_17 := Lib.hid ((RP_16.out.below hb).more hb.size)
  have RO_17 := Lib.hid ((RO_16.out.below hb).more hb.size)
  clear hb X16 B16 RA_16 RI_16 SA_16 SB_16 RB_16 RJ_16 RG_16 SD_16 RD_16 RL_16 RP_16 RO_16
  generalize w16.heap.size = p13 at *
  clear hw hpw
  have x0 := X17.out.c 0 _ rfl
  have x5 := X17.out.c 5 _ rfl
  have x6 := X17.out.c 6 _ rfl
  have x7 := X17.out.c 7 _ rfl
  have x8 := X17.out.c 8 _ rfl
  have x9 := X17.out.c 9 _ rfl
  go_wp2_with fail
  refine (scan_tn HI.out hn M k.to_ _ B17.out HQ9.out.1 HQ9.out.2).mono ?_
  rintro e w18 ⟨A14, c14, I14, d14, rfl, o1, o2, hb⟩
  have r1 := own_rdX o1
  have r2 := own_rdX o2
  clear o1 o2
  have X18 := Lib.hid (X17.out.next hb)
  have B18 := Lib.hid (B17.out.trans (hb.mono B17.out.size))
  have RA_18 := Lib.hid ((RA_17.out.below hb).more hb.size)
  have RI_18 := Lib.hid ((RI_17.out.below hb).more hb.size)
  have SA_18 := Lib.hid (SA_17.out.next hb)
  have SB_18 := Lib.hid (SB_17.out.next hb)
  have RB_18 := Lib.hid ((RB_17.out.below hb).more hb.size)
  have RJ_18 := Lib.hid ((RJ_17.out.below hb).more hb.size)
  have RG_18 := Lib.hid ((RG_17.out.below hb).more hb.size)
  have SD_18 := Lib.hid (SD_17.out.next hb)
  have RD_18 := Lib.hid ((RD_17.out.below hb).more hb.size)
  have RL_18 := Lib.hid ((RL_17.out.below hb).more hb.size)
  have RP_18 := Lib.hid ((RP_17.out.below hb).more hb.size)
  have RO_18 := Lib.hid ((RO_17.out.below hb).more hb.size)
  have SP_18 := Lib.hid (SP_17.out.next hb)
  clear hb X17 B17 RA_17 RI_17 SA_17 SB_17 RB_17 RJ_17 RG_17 SD_17 RD_17 RL_17 RP_17 RO_17 SP_17 x0 x5 x6 x7 x8 x9
  have RQ_18 := Lib.hid r1
  clear r1
  have RW_18 := Lib.hid r2
  clear r2
  go_upto_region 21 with (fail)
  have hb : Below w18.heap.size w18 (w18.alloc (.cells #[.int .i64 M.kind, .slice A14 M.rows.length c14, .slice I14 M.its.length d14, .int .i64 M.at_.wall, .int .i32 M.at_.logic, .int .i32 M.at_.tag] 53)) := (Below.refl _ _).alloc (Nat.le_refl _) _
  have SQ_19 : Hid (BxV (w18.alloc (.cells #[.int .i64 M.kind, .slice A14 M.rows.length c14, .slice I14 M.its.length d14, .int .i64 M.at_.wall, .int .i32 M.at_.logic, .int .i32 M.at_.tag] 53)) w18.heap.size [.int .i64 M.kind, .slice A14 M.rows.length c14, .slice I14 M.its.length d14, .int .i64 M.at_.wall, .int .i32 M.at_.logic, .int .i32 M.at_.tag]) := Lib.hid (BxV.new _ _ _)
  generalize hw : w18.alloc (.cells #[.int .i64 M.kind, .slice A14 M.rows.length c14, .slice I14 M.its.length d14, .int .i64 M.at_.wall, .int .i32 M.at_.logic, .int .i32 M.at_.tag] 53) = w19 at *
  have hpw : w18.heap.size < w19.heap.size := SQ_19.out.lt
  have X19 := Lib.hid (X18.out.next hb)
  have B19 := Lib.hid (B18.out.trans (hb.mono B18.out.size))
  have RA_19 := Lib.hid ((RA_18.out.below hb).more hb.size)
  have RI_19 := Lib.hid ((RI_18.out.below hb).more hb.size)
  have SA_19 := Lib.hid (SA_18.out.next hb)
  have SB_19 := Lib.hid (SB_18.out.next hb)
  have RB_19 := Lib.hid ((RB_18.out.below hb).more hb.size)
  have RJ_19 := Lib.hid ((RJ_18.out.below hb).more hb.size)
  have RG_19 := Lib.hid ((RG_18.out.below hb).more hb.size)
  have SD_19 := Lib.hid (SD_18.out.next hb)
  have RD_19 := Lib.hid ((RD_18.out.below hb).more hb.size)
  have RL_19 := Lib.hid ((RL_18.out.below hb).more hb.size)
  have RP_19 := Lib.hid ((RP_18.out.below hb).more hb.size)
  have RO_19 := Lib.hid ((RO_18.out.below hb).more hb.size)
  have SP_19 := Lib.hid (SP_18.out.next hb)
  have RQ_19 := Lib.hid ((RQ_18.out.below hb).more hb.size)
  have RW_19 := Lib.hid ((RW_18.out.below hb).more hb.size)
  clear hb X18 B18 RA_18 RI_18 SA_18 SB_18 RB_18 RJ_18 RG_18 SD_18 RD_18 RL_18 RP_18 RO_18 SP_18 RQ_18 RW_18
  generalize w18.heap.size = p14 at *
  clear hw hpw
  have v0 := SA_19.out.c 0 _ rfl
  have x0 := SP_19.out.c 0 _ rfl
  have x1 := SP_19.out.c 1 _ rfl
  have x2 := SP_19.out.c 2 _ rfl
  have x3 := SP_19.out.c 3 _ rfl
  have x4 := SP_19.out.c 4 _ rfl
  have x5 := SP_19.out.c 5 _ rfl
  have y0 := SQ_19.out.c 0 _ rfl
  have y1 := SQ_19.out.c 1 _ rfl
  have y2 := SQ_19.out.c 2 _ rfl
  have y3 := SQ_19.out.c 3 _ rfl
  have y4 := SQ_19.out.c 4 _ rfl
  have y5 := SQ_19.out.c 5 _ rfl
  go_wp2_with fail
  refine (seen_yes M.kind M.at_ A13 M.rows.length c13 A14 c14 M.rows rfl ML.out.1 I13 M.its.length d13 I14 d14 M.its rfl ML.out.2 w19.heap.size w19 RP_19.out RQ_19.out RO_19.out RW_19.out (Nat.le_refl _)).mono ?_
  rintro e w20 ⟨rfl, hb⟩
  have X20 := Lib.hid (X19.out.next hb)
  have B20 := Lib.hid (B19.out.trans (hb.mono B19.out.size))
  have RA_20 := Lib.hid ((RA_19.out.below hb).more hb.size)
  have RI_20 := Lib.hid ((RI_19.out.below hb).more hb.size)
  have SA_20 := Lib.hid (SA_19.out.next hb)
  have SB_20 := Lib.hid (SB_19.out.next hb)
  have RB_20 := Lib.hid ((RB_19.out.below hb).more hb.size)
  have RJ_20 := Lib.hid ((RJ_19.out.below hb).more hb.size)
  have RG_20 := Lib.hid ((RG_19.out.below hb).more hb.size)
  have SD_20 := Lib.hid (SD_19.out.next hb)
  have RD_20 := Lib.hid ((RD_19.out.below hb).more hb.size)
  have RL_20 := Lib.hid ((RL_19.out.below hb).more hb.size)
  have RP_20 := Lib.hid ((RP_19.out.below hb).more hb.size)
  have RO_20 := Lib.hid ((RO_19.out.below hb).more hb.size)
  have SP_20 := Lib.hid (SP_19.out.next hb)
  have RQ_20 := Lib.hid ((RQ_19.out.below hb).more hb.size)
  have RW_20 := Lib.hid ((RW_19.out.below hb).more hb.size)
  have SQ_20 := Lib.hid (SQ_19.out.next hb)
  clear hb X19 B19 RA_19 RI_19 SA_19 SB_19 RB_19 RJ_19 RG_19 SD_19 RD_19 RL_19 RP_19 RO_19 SP_19 RQ_19 RW_19 SQ_19 v0 x0 x1 x2 x3 x4 x5 y0 y1 y2 y3 y4 y5
  have x0 := SA_20.out.c 0 _ rfl
  have x1 := SA_20.out.c 1 _ rfl
  have x2 := SA_20.out.c 2 _ rfl
  have x3 := SA_20.out.c 3 _ rfl
  have x4 := SA_20.out.c 4 _ rfl
  have x5 := SA_20.out.c 5 _ rfl
  have y0 := SP_20.out.c 0 _ rfl
  have y1 := SP_20.out.c 1 _ rfl
  have y2 := SP_20.out.c 2 _ rfl
  have y3 := SP_20.out.c 3 _ rfl
  have y4 := SP_20.out.c 4 _ rfl
  have y5 := SP_20.out.c 5 _ rfl
  go_wp2_with fail
  refine (seen_yes M.kind M.at_ A1 M.rows.length c1 A13 c13 M.rows rfl ML.out.1 I1 M.its.length d1 I13 d13 M.its rfl ML.out.2 w20.heap.size w20 RA_20.out RP_20.out RI_20.out RO_20.out (Nat.le_refl _)).mono ?_
  rintro e w21 ⟨rfl, hb⟩
  have X21 := Lib.hid (X20.out.next hb)
  have B21 := Lib.hid (B20.out.trans (hb.mono B20.out.size))
  have RA_21 := Lib.hid ((RA_20.out.below hb).more hb.size)
  have RI_21 := Lib.hid ((RI_20.out.below hb).more hb.size)
  have SA_21 := Lib.hid (SA_20.out.next hb)
  have SB_21 := Lib.hid (SB_20.out.next hb)
  have RB_21 := Lib.hid ((RB_20.out.below hb).more hb.size)
  have RJ_21 := Lib.hid ((RJ_20.out.below hb).more hb.size)
  have RG_21 := Lib.hid ((RG_20.out.below hb).more hb.size)
  have SD_21 := Lib.hid (SD_20.out.next hb)
  have RD_21 := Lib.hid ((RD_20.out.below hb).more hb.size)
  have RL_21 := Lib.hid ((RL_20.out.below hb).more hb.size)
  have RP_21 := Lib.hid ((RP_20.out.below hb).more hb.size)
  have RO_21 := Lib.hid ((RO_20.out.below hb).more hb.size)
  have SP_21 := Lib.hid (SP_20.out.next hb)
  have RQ_21 := Lib.hid ((RQ_20.out.below hb).more hb.size)
  have RW_21 := Lib.hid ((RW_20.out.below hb).more hb.size)
  have SQ_21 := Lib.hid (SQ_20.out.next hb)
  clear hb X20 B20 RA_20 RI_20 SA_20 SB_20 RB_20 RJ_20 RG_20 SD_20 RD_20 RL_20 RP_20 RO_20 SP_20 RQ_20 RW_20 SQ_20 x0 x1 x2 x3 x4 x5 y0 y1 y2 y3 y4 y5
  go_wp2_with fail
  go_ret
  exact ⟨rfl, B21.out⟩
end Go.Proofs.Ytgikaglmeeeplaa
