/- Walks: the document's answer: the latest cell between two stamps; the intents that a reader has to heed. -/
import Derived.Test.YtgikaglmeeeplaaJb
namespace Go.Proofs.Ytgikaglmeeeplaa
open Go.RowKit Go.St
set_option linter.unusedVariables false
set_option linter.unusedSimpArgs false
set_option maxRecDepth 100000

/-- The boxes of latest. -/
structure LtB (W : World) (Z : Nat) (s t cur : Stp) : Prop where
  a : BxV W Z (spc s)
  b : BxV W (Z + 1) (spc t)
  c : BxV W (Z + 1 + 1) (spc zeroS)
  d : BxV W (Z + 1 + 1 + 1) (spc cur)
theorem LtB.next {W W' : World} {Z : Nat} {s t cur : Stp} (h : LtB W Z s t cur) (hb : Below W.heap.size W W') : LtB W' Z s t cur := ⟨h.a.next hb, h.b.next hb, h.c.next hb, h.d.next hb⟩
set_option maxHeartbeats 6400000 in
theorem latest24_any (A : Option Addr) (n c : Nat) (cs : List Cel) (hl : cs.length = n) (hn : n ≤ 1000000) (s t : Stp) (B : Nat) (w : World) (hr : Rd w B A (cev cs)) (hB : B ≤ w.heap.size) :
    Calls Try.prog 43 #[.slice A n c, .agg #[.int .i64 s.wall, .int .i32 s.logic, .int .i32 s.tag], .agg #[.int .i64 t.wall, .int .i32 t.logic, .int .i32 t.tag]] w fun e w' => e = .returned (.tuple #[.agg #[.int .i64 (late cs s t).wall, .int .i32 (late cs s t).logic, .int .i32 (late cs s t).tag], .bool (someL cs s t n)]) ∧ Below w.heap.size w w' := by
  have HL := Lib.hid hl
  have HR := Lib.hid hr
  clear hl hr
  obtain ⟨E, hE⟩ : ∃ E, E = late cs s t := ⟨_, rfl⟩
  obtain ⟨F, hF⟩ : ∃ F, F = someL cs s t n := ⟨_, rfl⟩
  rw [← hE, ← hF]
  have HE := Lib.hid hE
  have HF := Lib.hid hF
  clear hE hF
  have HU1 := Lib.hid (fun x => rupto_any x s)
  have HU2 := Lib.hid (fun x => rupto_any x t)
  go_enter Try.func43, Try.ntmps43
  go_wp2_with fail
  have X1 : Hid (LtB ((((w.alloc (.cells #[.int .i64 s.wall, .int .i32 s.logic, .int .i32 s.tag] 25)).alloc (.cells #[.int .i64 t.wall, .int .i32 t.logic, .int .i32 t.tag] 25)).alloc (.cells #[.int .i64 0, .int .i32 0, .int .i32 0] 25)).alloc (.cells #[.int .i64 0, .int .i32 0, .int .i32 0] 25)) w.heap.size s t zeroS) := Lib.hid ⟨(((BxV.new w _ _).alloc _).alloc _).alloc _, by
    have h := ((BxV.new (w.alloc (.cells #[.int .i64 s.wall, .int .i32 s.logic, .int .i32 s.tag] 25)) #[.int .i64 t.wall, .int .i32 t.logic, .int .i32 t.tag] 25).alloc (.cells #[.int .i64 0, .int .i32 0, .int .i32 0] 25)).alloc (.cells #[.int .i64 0, .int .i32 0, .int .i32 0] 25)
    simp only [World.size_alloc] at h; exact h, by
    have h := (BxV.new ((w.alloc (.cells #[.int .i64 s.wall, .int .i32 s.logic, .int .i32 s.tag] 25)).alloc (.cells #[.int .i64 t.wall, .int .i32 t.logic, .int .i32 t.tag] 25)) #[.int .i64 0, .int .i32 0, .int .i32 0] 25).alloc (.cells #[.int .i64 0, .int .i32 0, .int .i32 0] 25)
    simp only [World.size_alloc] at h; exact h, by
    have h := BxV.new (((w.alloc (.cells #[.int .i64 s.wall, .int .i32 s.logic, .int .i32 s.tag] 25)).alloc (.cells #[.int .i64 t.wall, .int .i32 t.logic, .int .i32 t.tag] 25)).alloc (.cells #[.int .i64 0, .int .i32 0, .int .i32 0] 25)) #[.int .i64 0, .int .i32 0, .int .i32 0] 25
    simp only [World.size_alloc] at h; exact h⟩
  have B1 : Hid (Below w.heap.size w ((((w.alloc (.cells #[.int .i64 s.wall, .int .i32 s.logic, .int .i32 s.tag] 25)).alloc (.cells #[.int .i64 t.wall, .int .i32 t.logic, .int .i32 t.tag] 25)).alloc (.cells #[.int .i64 0, .int .i32 0, .int .i32 0] 25)).alloc (.cells #[.int .i64 0, .int .i32 0, .int .i32 0] 25))) := Lib.hid (((((Below.refl _ _).alloc (Nat.le_refl _) _).alloc (by simp) _).alloc (by simp <;> omega) _).alloc (by simp <;> omega) _)
  generalize ((((w.alloc (.cells #[.int .i64 s.wall, .int .i32 s.logic, .int .i32 s.tag] 25)).alloc (.cells #[.int .i64 t.wall, .int .i32 t.logic, .int .i32 t.tag] 25)).alloc (.cells #[.int .i64 0, .int .i32 0, .int .i32 0] 25)).alloc (.cells #[.int .i64 0, .int .i32 0, .int .i32 0] 25)) = w1 at *
  go_loopw [9, 10] (fun s9 s10 wr => ∃ (cur : Stp) (i : Nat), s9 = .bool (someL cs s t i) ∧ s10 = .int .i64 (i : Int) ∧ i ≤ n ∧ Hid (cur = lateF ((cs.take i).filter (btw s t))) ∧ Hid (LtB wr w.heap.size s t cur) ∧ Hid (Below w.heap.size w wr)) (fun s9 s10 _ => n - (intOf s10).toNat)
  case atStart => exact ⟨zeroS, 0, rfl, rfl, Nat.zero_le _, Lib.hid rfl, X1, B1⟩
  case round =>
    obtain ⟨cur, i, rfl, rfl, hi, HC, HX2, hB2⟩ := hrel
    clear X1 B1
    obtain ⟨w2, rfl⟩ : ∃ x, x = wr := ⟨_, rfl⟩
    by_cases hlt : i < n
    · obtain ⟨x, hx⟩ : ∃ x, cs[i]? = some x := ⟨_, List.getElem?_eq_getElem (by rw [HL.out]; exact hlt)⟩
      obtain ⟨b, off, rfl, hb, hce⟩ := ce_at HR.out hx
      obtain ⟨d0, d1, d2, d3, d4, d5⟩ := hce.below (Nat.lt_of_lt_of_le hb hB) hB2.out
      have HX := Lib.hid hx
      have Y : Hid (BxV (w2.alloc (.cells #[.int .i64 x.at_.wall, .int .i32 x.at_.logic, .int .i32 x.at_.tag] 25)) w2.heap.size (spc x.at_)) := Lib.hid (BxV.new w2 #[.int .i64 x.at_.wall, .int .i32 x.at_.logic, .int .i32 x.at_.tag] 25)
      have hA := (Below.refl w2.heap.size w2).alloc (Nat.le_refl _) (.cells #[.int .i64 x.at_.wall, .int .i32 x.at_.logic, .int .i32 x.at_.tag] 25)
      have HXA := Lib.hid (HX2.out.next hA)
      have BA := Lib.hid (hB2.out.trans (hA.mono hB2.out.size))
      have a0 := HX2.out.a.c 0 _ rfl
      have a1 := HX2.out.a.c 1 _ rfl
      have a2 := HX2.out.a.c 2 _ rfl
      have za := HX2.out.a.lt
      have i1 : (i : Int) < (n : Int) := by omega
      have zb : b < w2.heap.size := by have := hB2.out.size; omega
      clear hce hx hA
      go_wp2_with fail
      refine (HU1.out x.at_ _).mono ?_
      rintro e w4 ⟨rfl, hb4⟩
      have X4 := Lib.hid (HXA.out.next hb4)
      have Y4 := Lib.hid (Y.out.next hb4)
      have B4 := Lib.hid (BA.out.trans (hb4.mono BA.out.size))
      clear a0 a1 a2 za zb d0 d1 d2 d3 d4 d5 hb4 HX2 hB2 HXA BA Y
      cases k1 : le x.at_ s
      · have y0 := Y4.out.c 0 _ rfl
        have y1 := Y4.out.c 1 _ rfl
        have y2 := Y4.out.c 2 _ rfl
        have b0 := X4.out.b.c 0 _ rfl
        have b1 := X4.out.b.c 1 _ rfl
        have b2 := X4.out.b.c 2 _ rfl
        go_wp2_with fail
        refine (HU2.out x.at_ _).mono ?_
        rintro e w5 ⟨rfl, hb5⟩
        have X5 := Lib.hid (X4.out.next hb5)
        have Y5 := Lib.hid (Y4.out.next hb5)
        have B5 := Lib.hid (B4.out.trans (hb5.mono B4.out.size))
        clear y0 y1 y2 b0 b1 b2 hb5 X4 Y4 B4
        have hk1 : less s x.at_ = true := by unfold le at k1; simpa using k1
        cases k2 : le x.at_ t
        · have hbt : btw s t x = false := by unfold btw; rw [k2]; simp
          clear k1 k2 hk1 Y5
          have HY : Hid (someL cs s t (i + 1) = someL cs s t i) := Lib.hid (by unfold someL; rw [late_snoc HX.out, hbt]; simp)
          have HC9 : Hid (cur = lateF ((cs.take (i + 1)).filter (btw s t))) := Lib.hid (by rw [late_snoc HX.out, hbt, HC.out]; simp)
          clear HC
          go_wp2_with fail
          go_roundw
          case rel => exact ⟨cur, i + 1, by rw [HY.out], by go_num, by omega, HC9, X5, B5⟩
          case measure => simp [intOf]; omega
        · have hbt : btw s t x = true := by unfold btw; rw [k2, hk1]; rfl
          have HY : Hid (someL cs s t (i + 1) = true) := Lib.hid (by unfold someL; rw [late_snoc HX.out, hbt]; exact decide_eq_true (by simp))
          have HC9 : Hid (maxS cur x.at_ = lateF ((cs.take (i + 1)).filter (btw s t))) := Lib.hid (by rw [late_snoc HX.out, hbt]; show _ = lateF (_ ++ [x]); rw [lateF_snoc, ← HC.out])
          have y0 := Y5.out.c 0 _ rfl
          have y1 := Y5.out.c 1 _ rfl
          have y2 := Y5.out.c 2 _ rfl
          have c0 := X5.out.d.c 0 _ rfl
          have c1 := X5.out.d.c 1 _ rfl
          have c2 := X5.out.d.c 2 _ rfl
          clear k1 k2 hk1 hbt HC
          go_wp2_with fail
          refine (rmax_any cur x.at_ _).mono ?_
          rintro e w6 ⟨rfl, hb6⟩
          have X6 := X5.out.next hb6
          have B6 := B5.out.trans (hb6.mono B5.out.size)
          generalize maxS cur x.at_ = cur2 at *
          have X9 : Hid (LtB (World.setCells w6 (w.heap.size + 1 + 1 + 1) 0 (spc cur2)) w.heap.size s t cur2) := Lib.hid ⟨X6.a.other (by omega) _ _, X6.b.other (by omega) _ _, X6.c.other (by omega) _ _, X6.d.set _ rfl⟩
          have B9 : Hid (Below w.heap.size w (World.setCells w6 (w.heap.size + 1 + 1 + 1) 0 (spc cur2))) := Lib.hid (bel_setCells (by omega) _ 0 _ B6)
          have v0 := X6.d.c 0 _ rfl
          have v1 := X6.d.c 1 _ rfl
          have v2 := X6.d.c 2 _ rfl
          have vf := X6.d.fz
          clear y0 y1 y2 c0 c1 c2 hb6 X5 Y5 B5 X6 B6
          go_wp2_with fail
          go_roundw
          case rel => exact ⟨cur2, i + 1, by rw [HY.out], by go_num, by omega, HC9, X9, B9⟩
          case measure => simp [intOf]; omega
      · have hbt : btw s t x = false := by unfold btw; unfold le at k1; rw [Bool.not_eq_true'] at k1; rw [k1]; rfl
        clear k1 Y4
        have HY : Hid (someL cs s t (i + 1) = someL cs s t i) := Lib.hid (by unfold someL; rw [late_snoc HX.out, hbt]; simp)
        have HC9 : Hid (cur = lateF ((cs.take (i + 1)).filter (btw s t))) := Lib.hid (by rw [late_snoc HX.out, hbt, HC.out]; simp)
        clear HC
        go_wp2_with fail
        go_roundw
        case rel => exact ⟨cur, i + 1, by rw [HY.out], by go_num, by omega, HC9, X4, B4⟩
        case measure => simp [intOf]; omega
    · have i1 : ¬ (i : Int) < (n : Int) := by omega
      have hin : n = i := by omega
      have hall : cs.take i = cs := List.take_of_length_le (by rw [HL.out]; omega)
      have SEQ : Hid (E = cur) := Lib.hid (by rw [HE.out, HC.out, hall]; rfl)
      have FEQ : Hid (F = someL cs s t i) := Lib.hid (by rw [HF.out, hin])
      have c0 := HX2.out.d.c 0 _ rfl
      have c1 := HX2.out.d.c 1 _ rfl
      have c2 := HX2.out.d.c 2 _ rfl
      have v0 := HX2.out.c.c 0 _ rfl
      have v1 := HX2.out.c.c 1 _ rfl
      have v2 := HX2.out.c.c 2 _ rfl
      have vf := HX2.out.c.fz
      clear HC hin hall hlt HE HF
      generalize someL cs s t i = f at *
      go_wp2_with fail
      change bodyPost _ _ _ _ _ (World.setCells w2 (w.heap.size + 1 + 1) 0 [.int .i64 cur.wall, .int .i32 cur.logic, .int .i32 cur.tag])
      have RB := (HX2.out.c.set [.int .i64 cur.wall, .int .i32 cur.logic, .int .i32 cur.tag] rfl)
      have BZ := bel_setCells (b := w.heap.size + 1 + 1) (by omega) [.int .i64 cur.wall, .int .i32 cur.logic, .int .i32 cur.tag] 0 _ hB2.out
      have r0 := RB.c 0 _ rfl
      have r1 := RB.c 1 _ rfl
      have r2 := RB.c 2 _ rfl
      generalize World.setCells w2 (w.heap.size + 1 + 1) 0 [.int .i64 cur.wall, .int .i32 cur.logic, .int .i32 cur.tag] = wz at *
      refine bodyPost_ret (v := .tuple #[.agg #[.int .i64 cur.wall, .int .i32 cur.logic, .int .i32 cur.tag], .bool f]) (by simp [results, Try.results43, go_sem, r0, r1, r2]) rfl ⟨?_, BZ⟩
      rw [SEQ.out, FEQ.out]

/-- Is a transaction one of the first so many? -/
def pendB (kn : List (Int × Int)) (t : Int × Int) (k : Nat) : Bool := (kn.take k).any (fun q => decide (q = t))
theorem pendB_succ {kn : List (Int × Int)} {t q : Int × Int} {k : Nat} (h : kn[k]? = some q) : pendB kn t (k + 1) = (pendB kn t k || decide (q = t)) := by
  unfold pendB
  rw [List.take_add_one, h, List.any_append]
  simp
theorem pendB_all (kn : List (Int × Int)) (t : Int × Int) : pendB kn t kn.length = decide (t ∈ kn) := by
  unfold pendB
  rw [List.take_length]
  by_cases h : t ∈ kn
  · rw [decide_eq_true h, List.any_eq_true]
    exact ⟨t, h, by simp⟩
  · rw [decide_eq_false h, List.any_eq_false]
    intro q hq e
    have : q = t := by simpa using e
    exact h (this ▸ hq)
def hdF (s : Stp) (kn : List (Int × Int)) (i : Itt) : Bool := !decide ((i.nd, i.nu) ∈ kn) || le i.at_ s
theorem heed_two {is : List Itt} {s t : Stp} {b : Int × Int} {kn : List (Int × Int)} (h : less t s = false) : (is.filter (frn t b)).filter (hdF s kn) = heed is s t b kn := by
  unfold heed
  rw [List.filter_filter]
  congr 1
  funext i
  unfold heedF frn hdF
  cases h1 : decide ((i.nd, i.nu) = b)
  · cases h2 : le i.at_ s
    · cases h3 : le i.at_ t <;> cases h4 : decide ((i.nd, i.nu) ∈ kn) <;> simp
    · have h3 : le i.at_ t = true := by
        unfold le at *
        rw [Bool.not_eq_true'] at *
        cases q : less t i.at_
        · rfl
        · have : less t s = true := by
            cases q2 : less i.at_ s
            · rw [less_tri h2 q2] ; exact q
            · exact less_trans q q2
          rw [h] at this
          cases this
      rw [h3]
      simp
  · simp
set_option maxHeartbeats 6400000 in
theorem heeded24_any (A : Option Addr) (n c : Nat) (is : List Itt) (hl : is.length = n) (hn : n ≤ 1000000) (s t : Stp) (by_ : Int × Int) (A3 : Option Addr) (q c3 : Nat) (kn : List (Int × Int)) (hl3 : kn.length = q) (hq : q ≤ 140737488351232) (hle : less t s = false) (B : Nat) (w : World) (hr : Rd w B A (itv is)) (hr3 : Rd w B A3 (txv kn)) (hB : B ≤ w.heap.size) :
    Calls Try.prog 42 #[.slice A n c, .agg #[.int .i64 s.wall, .int .i32 s.logic, .int .i32 s.tag], .agg #[.int .i64 t.wall, .int .i32 t.logic, .int .i32 t.tag], .agg #[.int .i32 by_.1, .int .i32 by_.2], .slice A3 q c3] w fun e w' => ∃ A' c', e = .returned (.slice A' (heed is s t by_ kn).length c') ∧ w'.ownsRow w.heap.size 29 12 (.slice A' (heed is s t by_ kn).length c') (heed is s t by_ kn).length (itv (heed is s t by_ kn)) ∧ Below w.heap.size w w' := by
  rw [← heed_two hle]
  have HL := Lib.hid hl
  have HR := Lib.hid hr
  have HL3 := Lib.hid hl3
  have HR3 := Lib.hid hr3
  clear hl hr hl3 hr3 hle
  obtain ⟨E, hE⟩ : ∃ E, E = (is.filter (frn t by_)).filter (hdF s kn) := ⟨_, rfl⟩
  rw [← hE]
  have HE := Lib.hid hE
  clear hE
  go_enter Try.func42, Try.ntmps42
  go_wp2_with fail
  have X1 : Hid (BxV (((w.alloc (.cells #[.int .i64 s.wall, .int .i32 s.logic, .int .i32 s.tag] 25)).alloc (.cells #[.int .i64 t.wall, .int .i32 t.logic, .int .i32 t.tag] 25)).alloc (.cells #[.int .i32 by_.1, .int .i32 by_.2] 27)) w.heap.size (spc s)) := Lib.hid (((BxV.new w _ _).alloc _).alloc _)
  have B1 : Hid (Below w.heap.size w (((w.alloc (.cells #[.int .i64 s.wall, .int .i32 s.logic, .int .i32 s.tag] 25)).alloc (.cells #[.int .i64 t.wall, .int .i32 t.logic, .int .i32 t.tag] 25)).alloc (.cells #[.int .i32 by_.1, .int .i32 by_.2] 27))) := Lib.hid ((((Below.refl _ _).alloc (Nat.le_refl _) _).alloc (by simp) _).alloc (by simp <;> omega) _)
  have hz1 : w.heap.size < (((w.alloc (.cells #[.int .i64 s.wall, .int .i32 s.logic, .int .i32 s.tag] 25)).alloc (.cells #[.int .i64 t.wall, .int .i32 t.logic, .int .i32 t.tag] 25)).alloc (.cells #[.int .i32 by_.1, .int .i32 by_.2] 27)).heap.size := by simp <;> omega
  generalize (((w.alloc (.cells #[.int .i64 s.wall, .int .i32 s.logic, .int .i32 s.tag] 25)).alloc (.cells #[.int .i64 t.wall, .int .i32 t.logic, .int .i32 t.tag] 25)).alloc (.cells #[.int .i32 by_.1, .int .i32 by_.2] 27)) = w1 at *
  have R1 := Lib.hid (HR.out.below (B1.out.mono hB))
  refine (foreign24_any A n c is HL.out hn t by_ B w1 R1.out (by omega)).mono ?_
  rintro e w5 ⟨Al, cl, rfl, own, hb⟩
  obtain ⟨Al', cl', e', -, hrl⟩ := own_sl own
  injection e' with e1 _ _
  subst e1
  have X5 := Lib.hid (X1.out.next hb)
  have B5 := Lib.hid (B1.out.trans (hb.mono B1.out.size))
  have RL := Lib.hid hrl
  have hln : (is.filter (frn t by_)).length ≤ 1000000 := Nat.le_trans (List.length_filter_le _ _) (by rw [HL.out]; exact hn)
  have hB5 : B ≤ w5.heap.size := by have := B5.out.size; omega
  have R35 := Lib.hid (HR3.out.below (B5.out.mono hB))
  clear own hb X1 B1 hrl R1 HR HR3
  generalize hLL : is.filter (frn t by_) = L at *
  go_wp2_with fail
  go_loopw [11, 13] (fun s11 s13 wr => ∃ (A5 : Option Addr) (c5 : Nat) (out : List Itt) (i : Nat), s11 = .slice A5 out.length c5 ∧ s13 = .int .i64 (i : Int) ∧ i ≤ L.length ∧ Hid (out = (L.take i).filter (hdF s kn)) ∧ Hid (wr.ownsRow w5.heap.size 29 12 (.slice A5 out.length c5) out.length (itv out)) ∧ Hid (Below w5.heap.size w5 wr)) (fun s11 s13 _ => L.length - (intOf s13).toNat)
  case atStart => exact ⟨none, 0, [], 0, rfl, rfl, Nat.zero_le _, Lib.hid rfl, Lib.hid (World.ownsRow_nil _ _ _ _), Lib.hid (Below.refl _ _)⟩
  case round =>
    obtain ⟨A5, c5, out, i, rfl, rfl, hi, HQ, HO, hB2⟩ := hrel
    obtain ⟨w2, rfl⟩ : ∃ x, x = wr := ⟨_, rfl⟩
    have hol : out.length ≤ i := by
      rw [HQ.out]
      exact Nat.le_trans (List.length_filter_le _ _) (List.length_take_le _ _)
    by_cases hlt : i < L.length
    · obtain ⟨x, hx⟩ : ∃ x, L[i]? = some x := ⟨_, List.getElem?_eq_getElem hlt⟩
      obtain ⟨b, off, rfl, hb, hce⟩ := it_at RL.out hx
      have HCE := Lib.hid hce
      have HX := Lib.hid hx
      have i1 : (i : Int) < ((L.length : Nat) : Int) := by omega
      have i0 : (0 : Int) ≤ (i : Int) := by omega
      clear hce hx
      go_wp2_with fail
      go_loopw [14, 15] (fun s14 s15 wr => ∃ (k : Nat), s14 = .bool (pendB kn (x.nd, x.nu) k) ∧ s15 = .int .i64 (k : Int) ∧ k ≤ q ∧ Hid (Below w2.heap.size w2 wr)) (fun s14 s15 _ => q - (intOf s15).toNat)
      case atStart => exact ⟨0, rfl, rfl, Nat.zero_le _, Lib.hid (Below.refl _ _)⟩
      case round =>
        obtain ⟨k, rfl, rfl, hk, hB3⟩ := hrel
        obtain ⟨w3, rfl⟩ : ∃ x, x = wr := ⟨_, rfl⟩
        have B53 := Lib.hid (hB2.out.trans (hB3.out.mono hB2.out.size))
        have zb : b < w3.heap.size := by have := B53.out.size; omega
        by_cases hkq : k < q
        · obtain ⟨⟨y1, y2⟩, hy⟩ : ∃ y, kn[k]? = some y := ⟨_, List.getElem?_eq_getElem (by rw [HL3.out]; exact hkq)⟩
          obtain ⟨b3, off3, rfl, hb3, g0, g1⟩ := tx_at R35.out hy
          have f0 := (B53.out.cell (p := ⟨b3, off3 + k * 2, none⟩) (Nat.lt_of_lt_of_le hb3 hB5)).trans g0
          have f1 := (B53.out.cell (p := ⟨b3, off3 + k * 2 + 1, none⟩) (Nat.lt_of_lt_of_le hb3 hB5)).trans g1
          have zb3 : b3 < w3.heap.size := by have := B53.out.size; omega
          obtain ⟨-, d1, d2, -, -, -, -, -, -, -, -, -⟩ := HCE.out.below hb B53.out
          have HPN0 := Lib.hid (pendB_succ (t := (x.nd, x.nu)) hy)
          have k1 : (k : Int) < (q : Int) := by omega
          have k0 : (0 : Int) ≤ (k : Int) := by omega
          simp only at f0 f1
          clear g0 g1 hy B53
          cases hp : pendB kn (x.nd, x.nu) k
          · by_cases q1 : y1 = x.nd
            · have c1 : (y1 == x.nd) = true := by simpa using q1
              by_cases q2 : y2 = x.nu
              · have c2 : (y2 == x.nu) = true := by simpa using q2
                have HPN : Hid (pendB kn (x.nd, x.nu) (k + 1) = true) := Lib.hid (by rw [HPN0.out, hp, decide_eq_true (show (y1, y2) = (x.nd, x.nu) by rw [q1, q2])]; rfl)
                clear q1 q2 hp HPN0
                go_wp2_with fail
                refine wp_qall (by kernel_rfl) (by kernel_rfl) ?_
                intro hcg
                repeat (first | go_big_quiet_step (fail) | quiet_step (fail))
                refine wpQuiet_nil ?_
                intro wq hbwq hcwq hfwq
                clear hcg
                have Bq := Lib.hid (hB3.out.trans (hbwq.mono hB3.out.size))
                clear hbwq hcwq hfwq hB3
                go_wp2_with fail
                go_roundw
                case rel => exact ⟨k + 1, by rw [HPN.out], by go_num, by omega, Bq⟩
                case measure => simp [intOf]; omega
              · have c2 : (y2 == x.nu) = false := by simpa using q2
                have HPN : Hid (pendB kn (x.nd, x.nu) (k + 1) = false) := Lib.hid (by rw [HPN0.out, hp, decide_eq_false (fun e => q2 (congrArg Prod.snd e))]; rfl)
                clear q1 q2 hp HPN0
                go_wp2_with fail
                refine wp_qall (by kernel_rfl) (by kernel_rfl) ?_
                intro hcg
                repeat (first | go_big_quiet_step (fail) | quiet_step (fail))
                refine wpQuiet_nil ?_
                intro wq hbwq hcwq hfwq
                clear hcg
                have Bq := Lib.hid (hB3.out.trans (hbwq.mono hB3.out.size))
                clear hbwq hcwq hfwq hB3
                go_wp2_with fail
                go_roundw
                case rel => exact ⟨k + 1, by rw [HPN.out], by go_num, by omega, Bq⟩
                case measure => simp [intOf]; omega
            · have c1 : (y1 == x.nd) = false := by simpa using q1
              have HPN : Hid (pendB kn (x.nd, x.nu) (k + 1) = false) := Lib.hid (by rw [HPN0.out, hp, decide_eq_false (fun e => q1 (congrArg Prod.fst e))]; rfl)
              clear q1 hp HPN0
              go_wp2_with fail
              refine wp_qall (by kernel_rfl) (by kernel_rfl) ?_
              intro hcg
              repeat (first | go_big_quiet_step (fail) | quiet_step (fail))
              refine wpQuiet_nil ?_
              intro wq hbwq hcwq hfwq
              clear hcg
              have Bq := Lib.hid (hB3.out.trans (hbwq.mono hB3.out.size))
              clear hbwq hcwq hfwq hB3
              go_wp2_with fail
              go_roundw
              case rel => exact ⟨k + 1, by rw [HPN.out], by go_num, by omega, Bq⟩
              case measure => simp [intOf]; omega
          · have HPN : Hid (pendB kn (x.nd, x.nu) (k + 1) = true) := Lib.hid (by rw [HPN0.out, hp]; rfl)
            clear hp HPN0
            go_wp2_with fail
            refine wp_qall (by kernel_rfl) (by kernel_rfl) ?_
            intro hcg
            repeat (first | go_big_quiet_step (fail) | quiet_step (fail))
            refine wpQuiet_nil ?_
            intro wq hbwq hcwq hfwq
            clear hcg
            have Bq := Lib.hid (hB3.out.trans (hbwq.mono hB3.out.size))
            clear hbwq hcwq hfwq hB3
            go_wp2_with fail
            go_roundw
            case rel => exact ⟨k + 1, by rw [HPN.out], by go_num, by omega, Bq⟩
            case measure => simp [intOf]; omega
        · have k1 : ¬ (k : Int) < (q : Int) := by omega
          have HPA : pendB kn (x.nd, x.nu) k = decide ((x.nd, x.nu) ∈ kn) := by
            have e : k = kn.length := by rw [HL3.out]; omega
            rw [e]
            exact pendB_all kn _
          obtain ⟨d0, d1, d2, d3, d4, d5, d6, d7, d8, d9, d10, d11⟩ := HCE.out.below hb B53.out
          have X3 := X5.out.next B53.out
          have a0 := X3.c 0 _ rfl
          have a1 := X3.c 1 _ rfl
          have a2 := X3.c 2 _ rfl
          have za := X3.lt
          have HUP := Lib.hid (rupto_any x.at_ s)
          rw [HPA]
          have O3 := Lib.hid (own_keep HO.out hB3.out (Nat.le_refl _))
          clear HPA X3 hkq
          cases hp : decide ((x.nd, x.nu) ∈ kn)
          · have hf : hdF s kn x = true := by unfold hdF; rw [hp]; rfl
            clear hp
            go_wp2_with fail
            refine wp_qall (by kernel_rfl) (by kernel_rfl) ?_
            intro hcg
            repeat (first | go_big_quiet_step (fail) | quiet_step (fail))
            refine wpQuiet_nil ?_
            intro wq hbwq hcwq hfwq
            clear hcg
            have B9 := Lib.hid (B53.out.trans (hbwq.mono B53.out.size))
            have O9 := Lib.hid (own_keep O3.out hbwq (Nat.le_refl _))
            have e0 := (hcwq _ _ zb).trans d0
            have e1 := (hcwq _ _ zb).trans d1
            have e2 := (hcwq _ _ zb).trans d2
            have e3 := (hcwq _ _ zb).trans d3
            have e4 := (hcwq _ _ zb).trans d4
            have e5 := (hcwq _ _ zb).trans d5
            have e6 := (hcwq _ _ zb).trans d6
            have e7 := (hcwq _ _ zb).trans d7
            have e8 := (hcwq _ _ zb).trans d8
            have e9 := (hcwq _ _ zb).trans d9
            have e10 := (hcwq _ _ zb).trans d10
            have e11 := (hcwq _ _ zb).trans d11
            clear d0 d1 d2 d3 d4 d5 d6 d7 d8 d9 d10 d11 a0 a1 a2 hbwq hcwq hfwq hB3 hB2 HO O3 B53 zb za HUP
            have HQ9 : Hid (out ++ [x] = (L.take (i + 1)).filter (hdF s kn)) := Lib.hid (by rw [heed_snoc HX.out, if_pos hf, HQ.out])
            have hs9 := B9.out.size
            clear HQ
            go_wp2_with (at_builtin; refine wpList_app styIt (.tmp 56) (.tmp 61) rfl rfl w5.heap.size (O9.out.alloc _) rfl 1 1 (rd_frC _ _ _ _) rfl rfl (by simp [Value.oneCell']) (by unfold maxLen; omega) (by omega) (by rw [World.size_alloc]; omega) ?_; intro v5 w8 own5 gr5 nil5 at5; obtain ⟨A6, c6, rfl, -, -⟩ := own_sl own5)
            have B10 := Lib.hid ((B9.out.alloc hs9 _).grown gr5 (by rw [World.size_alloc]; omega) (fun g e => (O9.out.lt g e).1))
            have O10 : Hid (w8.ownsRow w5.heap.size 29 12 (.slice A6 (out.length + 1) c6) (out ++ [x]).length (itv (out ++ [x]))) := Lib.hid (own_eq own5 (by simp) (by rw [itv_app]; rfl))
            go_roundw
            case rel => exact ⟨A6, c6, out ++ [x], i + 1, by rw [List.length_append]; rfl, by go_num, by omega, HQ9, Lib.hid (by have h := O10.out; rw [List.length_append] at h ⊢; exact h), B10⟩
            case measure => simp [intOf]; omega
          · have hf : hdF s kn x = le x.at_ s := by unfold hdF; rw [hp]; rfl
            clear hp
            go_wp2_with fail
            refine wp_qall (by kernel_rfl) (by kernel_rfl) ?_
            intro hcg
            repeat (first | go_big_quiet_step ((with_reducible (exact Calls.reg (HUP.out _)))) | quiet_step ((with_reducible (exact Calls.reg (HUP.out _)))))
            refine wpQuiet_nil ?_
            intro wq hbwq hcwq hfwq
            clear hcg
            have B9 := Lib.hid (B53.out.trans (hbwq.mono B53.out.size))
            have O9 := Lib.hid (own_keep O3.out hbwq (Nat.le_refl _))
            have e0 := (hcwq _ _ zb).trans d0
            have e1 := (hcwq _ _ zb).trans d1
            have e2 := (hcwq _ _ zb).trans d2
            have e3 := (hcwq _ _ zb).trans d3
            have e4 := (hcwq _ _ zb).trans d4
            have e5 := (hcwq _ _ zb).trans d5
            have e6 := (hcwq _ _ zb).trans d6
            have e7 := (hcwq _ _ zb).trans d7
            have e8 := (hcwq _ _ zb).trans d8
            have e9 := (hcwq _ _ zb).trans d9
            have e10 := (hcwq _ _ zb).trans d10
            have e11 := (hcwq _ _ zb).trans d11
            clear d0 d1 d2 d3 d4 d5 d6 d7 d8 d9 d10 d11 a0 a1 a2 hbwq hcwq hfwq hB3 hB2 HO O3 B53 zb za HUP
            cases k9 : le x.at_ s
            · have hf2 : hdF s kn x = false := by rw [hf, k9]
              have HQ9 : Hid (out = (L.take (i + 1)).filter (hdF s kn)) := Lib.hid (by rw [heed_snoc HX.out, if_neg (by rw [hf2]; decide), HQ.out, List.append_nil])
              clear HQ k9 hf hf2
              go_wp2_with fail
              go_roundw
              case rel => exact ⟨A5, c5, out, i + 1, rfl, by go_num, by omega, HQ9, O9, B9⟩
              case measure => simp [intOf]; omega
            · have hf2 : hdF s kn x = true := by rw [hf, k9]
              clear k9 hf
              have HQ9 : Hid (out ++ [x] = (L.take (i + 1)).filter (hdF s kn)) := Lib.hid (by rw [heed_snoc HX.out, if_pos hf2, HQ.out])
              have hs9 := B9.out.size
              clear HQ
              go_wp2_with (at_builtin; refine wpList_app styIt (.tmp 56) (.tmp 61) rfl rfl w5.heap.size (O9.out.alloc _) rfl 1 1 (rd_frC _ _ _ _) rfl rfl (by simp [Value.oneCell']) (by unfold maxLen; omega) (by omega) (by rw [World.size_alloc]; omega) ?_; intro v5 w8 own5 gr5 nil5 at5; obtain ⟨A6, c6, rfl, -, -⟩ := own_sl own5)
              have B10 := Lib.hid ((B9.out.alloc hs9 _).grown gr5 (by rw [World.size_alloc]; omega) (fun g e => (O9.out.lt g e).1))
              have O10 : Hid (w8.ownsRow w5.heap.size 29 12 (.slice A6 (out.length + 1) c6) (out ++ [x]).length (itv (out ++ [x]))) := Lib.hid (own_eq own5 (by simp) (by rw [itv_app]; rfl))
              go_roundw
              case rel => exact ⟨A6, c6, out ++ [x], i + 1, by rw [List.length_append]; rfl, by go_num, by omega, HQ9, Lib.hid (by have h := O10.out; rw [List.length_append] at h ⊢; exact h), B10⟩
              case measure => simp [intOf]; omega
    · have i1 : ¬ (i : Int) < ((L.length : Nat) : Int) := by omega
      have SEQ : Hid (E = out) := Lib.hid (by rw [HE.out, HQ.out, List.take_of_length_le (by omega)])
      clear HQ hlt
      go_wp2_with fail
      go_ret
      exact ⟨A5, c5, by rw [SEQ.out] <;> rfl, by rw [SEQ.out]; exact own_base HO.out B5.out.size, B5.out.trans (hB2.out.mono B5.out.size)⟩
end Go.Proofs.Ytgikaglmeeeplaa
