/- Walks: the document's answer: did nothing come between; the cells that no read sees; an intent above a stamp. -/
import Derived.Test.YtgikaglmeeeplaaJd
import Derived.Test.YtgikaglmeeeplaaIr
namespace Go.Proofs.Ytgikaglmeeeplaa
open Go.RowKit Go.St
set_option linter.unusedVariables false
set_option linter.unusedSimpArgs false
set_option maxRecDepth 100000

theorem refB_some {cs : List Cel} {is : List Itt} {s t : Stp} {b : Int × Int} {n : Nat} (hn : cs.length = n) (h : someL cs s t n = true) : refB cs is s t b = false := by
  unfold someL at h
  rw [List.take_of_length_le (by omega), decide_eq_true_eq] at h
  obtain ⟨c, hc⟩ := List.exists_mem_of_length_pos h
  have hm := List.mem_filter.1 hc
  unfold refB
  rw [show cs.any (btw s t) = true from List.any_eq_true.2 ⟨c, hm.1, hm.2⟩]
  rfl
theorem refB_none {cs : List Cel} {is : List Itt} {s t : Stp} {b : Int × Int} {n : Nat} (hn : cs.length = n) (h : someL cs s t n = false) : refB cs is s t b = decide ((is.filter (frn t b)).length = 0) := by
  unfold someL at h
  rw [List.take_of_length_le (by omega), decide_eq_false_iff_not] at h
  have h0 : cs.any (btw s t) = false := by
    rw [List.any_eq_false]
    intro c hc q
    exact h (List.length_pos_of_mem (List.mem_filter.2 ⟨hc, q⟩))
  unfold refB
  rw [h0]
  show (!is.any (frn t b)) = _
  by_cases q : (is.filter (frn t b)).length = 0
  · rw [decide_eq_true q, show is.any (frn t b) = false from by
      rw [List.any_eq_false]
      intro c hc p
      have := List.length_pos_of_mem (List.mem_filter.2 ⟨hc, p⟩)
      omega]
    rfl
  · rw [decide_eq_false q]
    obtain ⟨c, hc⟩ := List.exists_mem_of_length_pos (show 0 < (is.filter (frn t b)).length by omega)
    have hm := List.mem_filter.1 hc
    rw [show is.any (frn t b) = true from List.any_eq_true.2 ⟨c, hm.1, hm.2⟩]
    rfl

set_option maxHeartbeats 6400000 in
theorem rrefresh24_any (A : Option Addr) (n c : Nat) (cs : List Cel) (hl : cs.length = n) (hn : n ≤ 1000000) (A2 : Option Addr) (m c2 : Nat) (is : List Itt) (hl2 : is.length = m) (hm : m ≤ 1000000) (s t : Stp) (by_ : Int × Int) (B : Nat) (w : World) (hr : Rd w B A (cev cs)) (hr2 : Rd w B A2 (itv is)) (hB : B ≤ w.heap.size) :
    Calls Try.prog 27 #[.slice A n c, .slice A2 m c2, .agg #[.int .i64 s.wall, .int .i32 s.logic, .int .i32 s.tag], .agg #[.int .i64 t.wall, .int .i32 t.logic, .int .i32 t.tag], .agg #[.int .i32 by_.1, .int .i32 by_.2]] w fun e w' => e = .returned (.tuple #[.bool (refM cs is s t by_), .int .i64 (scanE cs is s t)]) ∧ Below w.heap.size w w' := by
  have HL := Lib.hid hl
  have HR := Lib.hid hr
  have HL2 := Lib.hid hl2
  have HR2 := Lib.hid hr2
  clear hl hr hl2 hr2
  obtain ⟨E, hE⟩ : ∃ E, E = scanE cs is s t := ⟨_, rfl⟩
  obtain ⟨S, hS⟩ : ∃ S, S = refM cs is s t by_ := ⟨_, rfl⟩
  rw [← hE, ← hS]
  have HE := Lib.hid hE
  have HS := Lib.hid hS
  clear hE hS
  go_enter Try.func27, Try.ntmps27
  go_wp2_with fail
  have X5 : Hid (RfB (((w.alloc (.cells #[.int .i64 s.wall, .int .i32 s.logic, .int .i32 s.tag] 25)).alloc (.cells #[.int .i64 t.wall, .int .i32 t.logic, .int .i32 t.tag] 25)).alloc (.cells #[.int .i32 by_.1, .int .i32 by_.2] 27)) w.heap.size s t by_) := Lib.hid ⟨((BxV.new w _ _).alloc _).alloc _, by
    have h := (BxV.new (w.alloc (.cells #[.int .i64 s.wall, .int .i32 s.logic, .int .i32 s.tag] 25)) #[.int .i64 t.wall, .int .i32 t.logic, .int .i32 t.tag] 25).alloc (.cells #[.int .i32 by_.1, .int .i32 by_.2] 27)
    simp only [World.size_alloc] at h; exact h, by
    have h := BxV.new ((w.alloc (.cells #[.int .i64 s.wall, .int .i32 s.logic, .int .i32 s.tag] 25)).alloc (.cells #[.int .i64 t.wall, .int .i32 t.logic, .int .i32 t.tag] 25)) #[.int .i32 by_.1, .int .i32 by_.2] 27
    simp only [World.size_alloc] at h; exact h⟩
  have B5 : Hid (Below w.heap.size w (((w.alloc (.cells #[.int .i64 s.wall, .int .i32 s.logic, .int .i32 s.tag] 25)).alloc (.cells #[.int .i64 t.wall, .int .i32 t.logic, .int .i32 t.tag] 25)).alloc (.cells #[.int .i32 by_.1, .int .i32 by_.2] 27))) := Lib.hid ((((Below.refl _ _).alloc (Nat.le_refl _) _).alloc (by simp) _).alloc (by simp <;> omega) _)
  generalize (((w.alloc (.cells #[.int .i64 s.wall, .int .i32 s.logic, .int .i32 s.tag] 25)).alloc (.cells #[.int .i64 t.wall, .int .i32 t.logic, .int .i32 t.tag] 25)).alloc (.cells #[.int .i32 by_.1, .int .i32 by_.2] 27)) = w5 at *
  refine (rcheck24_any A n c cs HL.out (by omega) A2 m c2 is HL2.out (by omega) B w5 (HR.out.below (B5.out.mono hB)) (HR2.out.below (B5.out.mono hB)) (by have := B5.out.size; omega)).mono ?_
  rintro e w6 ⟨rfl, hb⟩
  have X6 := Lib.hid (X5.out.next hb)
  have B6 := Lib.hid (B5.out.trans (hb.mono B5.out.size))
  clear hb X5 B5
  by_cases h0 : chkCI cs is = 0
  case neg =>
    have hd : chkdE cs is [s, t] = chkCI cs is := by unfold chkdE; rw [if_neg h0]
    have hE1 : E = chkCI cs is := by rw [HE.out]; unfold scanE; rw [hd, if_neg h0]
    have SEQ : Hid (S = false) := Lib.hid (by rw [HS.out]; unfold refM; rw [if_neg (by rw [← HE.out, hE1]; exact h0)])
    rw [← hE1] at h0 ⊢
    have e1 : (E != 0) = true := by simpa using h0
    clear hE1 h0 hd HE HS
    go_wp2_with fail
    go_ret2
    exact ⟨by rw [SEQ.out] <;> rfl, B6.out⟩
  have H0 := Lib.hid h0
  rw [h0]
  clear h0
  have a0 := X6.out.a.c 0 _ rfl
  have a1 := X6.out.a.c 1 _ rfl
  have a2 := X6.out.a.c 2 _ rfl
  go_wp2_with fail
  refine (rcheck_any s _).mono ?_
  rintro e w7 ⟨rfl, hb⟩
  have X7 := Lib.hid (X6.out.next hb)
  have B7 := Lib.hid (B6.out.trans (hb.mono B6.out.size))
  clear hb X6 B6 a0 a1 a2
  cases hs : okS s
  case false =>
    rw [chk_no hs]
    have EEQ : Hid (E = 2) := Lib.hid (by rw [HE.out]; exact scanE_two (chkdE_two H0.out (s := s) (by simp) hs))
    have SEQ : Hid (S = false) := Lib.hid (by rw [HS.out]; unfold refM; rw [if_neg (by rw [← HE.out, EEQ.out]; decide)])
    clear hs HE HS
    go_wp2_with fail
    go_ret2
    exact ⟨by rw [SEQ.out, EEQ.out] <;> rfl, B7.out⟩
  rw [chk_ok hs]
  have HSA := Lib.hid hs
  clear hs
  have b0 := X7.out.b.c 0 _ rfl
  have b1 := X7.out.b.c 1 _ rfl
  have b2 := X7.out.b.c 2 _ rfl
  go_wp2_with fail
  refine (rcheck_any t _).mono ?_
  rintro e w8 ⟨rfl, hb⟩
  have X8 := Lib.hid (X7.out.next hb)
  have B8 := Lib.hid (B7.out.trans (hb.mono B7.out.size))
  clear hb X7 B7 b0 b1 b2
  cases hs : okS t
  case false =>
    rw [chk_no hs]
    have EEQ : Hid (E = 2) := Lib.hid (by rw [HE.out]; exact scanE_two (chkdE_two H0.out (s := t) (by simp) hs))
    have SEQ : Hid (S = false) := Lib.hid (by rw [HS.out]; unfold refM; rw [if_neg (by rw [← HE.out, EEQ.out]; decide)])
    clear hs HE HS
    go_wp2_with fail
    go_ret2
    exact ⟨by rw [SEQ.out, EEQ.out] <;> rfl, B8.out⟩
  rw [chk_ok hs]
  have HST := Lib.hid hs
  clear hs
  have a0 := X8.out.a.c 0 _ rfl
  have a1 := X8.out.a.c 1 _ rfl
  have a2 := X8.out.a.c 2 _ rfl
  have b0 := X8.out.b.c 0 _ rfl
  have b1 := X8.out.b.c 1 _ rfl
  have b2 := X8.out.b.c 2 _ rfl
  go_wp2_with fail
  refine (rless_any t s _).mono ?_
  rintro e w10 ⟨rfl, hb⟩
  have X10 := Lib.hid (X8.out.next hb)
  have B10 := Lib.hid (B8.out.trans (hb.mono B8.out.size))
  clear hb X8 B8 a0 a1 a2 b0 b1 b2
  have HD0 := Lib.hid (chkdE_zero H0.out HSA.out HST.out)
  cases hlt : less t s
  case true =>
    have EEQ : Hid (E = 2) := Lib.hid (by rw [HE.out]; unfold scanE; rw [if_pos HD0.out, hlt]; rfl)
    have SEQ : Hid (S = false) := Lib.hid (by rw [HS.out]; unfold refM; rw [if_neg (by rw [← HE.out, EEQ.out]; decide)])
    clear hlt HE HS
    go_wp2_with fail
    go_ret2
    exact ⟨by rw [SEQ.out, EEQ.out] <;> rfl, B10.out⟩
  have EEQ : Hid (E = 0) := Lib.hid (by rw [HE.out]; unfold scanE; rw [if_pos HD0.out, hlt]; rfl)
  have HS1 : Hid (S = refB cs is s t by_) := Lib.hid (by rw [HS.out]; unfold refM; rw [if_pos (by rw [← HE.out]; exact EEQ.out)])
  clear hlt HE HS
  have a0 := X10.out.a.c 0 _ rfl
  have a1 := X10.out.a.c 1 _ rfl
  have a2 := X10.out.a.c 2 _ rfl
  have b0 := X10.out.b.c 0 _ rfl
  have b1 := X10.out.b.c 1 _ rfl
  have b2 := X10.out.b.c 2 _ rfl
  go_wp2_with fail
  refine (latest24_any A n c cs HL.out hn s t B w10 (HR.out.below (B10.out.mono hB)) (by have := B10.out.size; omega)).mono ?_
  rintro e w11 ⟨rfl, hb⟩
  have X11 := Lib.hid (X10.out.next hb)
  have B11 := Lib.hid (B10.out.trans (hb.mono B10.out.size))
  clear hb X10 B10 a0 a1 a2 b0 b1 b2
  generalize late cs s t = cur at *
  cases hso : someL cs s t n
  case true =>
    have SEQ : Hid (S = false) := Lib.hid (by rw [HS1.out, refB_some HL.out hso])
    have B12 := Lib.hid (B11.out.alloc B11.out.size (.cells #[.int .i64 cur.wall, .int .i32 cur.logic, .int .i32 cur.tag] 25))
    clear hso
    go_wp2_with fail
    go_ret2
    exact ⟨by rw [SEQ.out, EEQ.out] <;> rfl, B12.out⟩
  have SEQ : Hid (S = decide ((is.filter (frn t by_)).length = 0)) := Lib.hid (by rw [HS1.out, refB_none HL.out hso])
  have X12 := Lib.hid (X11.out.next ((Below.refl w11.heap.size w11).alloc (Nat.le_refl _) (.cells #[.int .i64 cur.wall, .int .i32 cur.logic, .int .i32 cur.tag] 25)))
  have B12 := Lib.hid (B11.out.alloc B11.out.size (.cells #[.int .i64 cur.wall, .int .i32 cur.logic, .int .i32 cur.tag] 25))
  clear hso X11 B11
  go_upto_region 7 with (fail)
  generalize w11.alloc (.cells #[.int .i64 cur.wall, .int .i32 cur.logic, .int .i32 cur.tag] 25) = w12 at *
  have b0 := X12.out.b.c 0 _ rfl
  have b1 := X12.out.b.c 1 _ rfl
  have b2 := X12.out.b.c 2 _ rfl
  have x0 := X12.out.c.c 0 _ rfl
  have x1 := X12.out.c.c 1 _ rfl
  go_wp2_with fail
  refine (foreign24_any A2 m c2 is HL2.out hm t by_ B w12 (HR2.out.below (B12.out.mono hB)) (by have := B12.out.size; omega)).mono ?_
  rintro e w13 ⟨Af, cf, rfl, own, hb⟩
  have B13 := Lib.hid (B12.out.trans (hb.mono B12.out.size))
  clear hb own X12 B12 b0 b1 b2 x0 x1
  generalize (is.filter (frn t by_)).length = fl at *
  by_cases hf : fl = 0
  · subst hf
    go_wp2_with fail
    go_ret2
    exact ⟨by rw [SEQ.out, EEQ.out] <;> rfl, B13.out⟩
  · have h1 : ((fl : Int) == 0) = false := by simpa using hf
    have SEQ2 : Hid (S = false) := Lib.hid (by rw [SEQ.out]; exact decide_eq_false hf)
    clear hf
    go_wp2_with fail
    go_ret2
    exact ⟨by rw [SEQ2.out, EEQ.out] <;> rfl, B13.out⟩

set_option maxHeartbeats 6400000 in
theorem rgone24_any (A : Option Addr) (n c : Nat) (cs : List Cel) (hl : cs.length = n) (hn : n ≤ 1000000) (t : Stp) (B : Nat) (w : World) (hr : Rd w B A (cev cs)) (hB : B ≤ w.heap.size) :
    Calls Try.prog 31 #[.slice A n c, .agg #[.int .i64 t.wall, .int .i32 t.logic, .int .i32 t.tag]] w fun e w' => ∃ v, e = .returned (.tuple #[v, .int .i64 (chkdE cs [] [t])]) ∧ w'.ownsRow w.heap.size 45 6 v (goneG cs t).length (cev (goneG cs t)) ∧ Below w.heap.size w w' := by
  have HL := Lib.hid hl
  have HR := Lib.hid hr
  clear hl hr
  obtain ⟨F, hF⟩ : ∃ F, F = chkdE cs [] [t] := ⟨_, rfl⟩
  obtain ⟨E, hE⟩ : ∃ E, E = goneG cs t := ⟨_, rfl⟩
  rw [← hF, ← hE]
  have HF := Lib.hid hF
  have HE := Lib.hid hE
  clear hF hE
  have HUP := Lib.hid (fun a => rupto_any a t)
  go_enter Try.func31, Try.ntmps31
  go_wp2_with fail
  have X5 : Hid (BxV (w.alloc (.cells #[.int .i64 t.wall, .int .i32 t.logic, .int .i32 t.tag] 25)) w.heap.size (spc t)) := Lib.hid (BxV.new w _ _)
  have B5 : Hid (Below w.heap.size w (w.alloc (.cells #[.int .i64 t.wall, .int .i32 t.logic, .int .i32 t.tag] 25))) := Lib.hid ((Below.refl _ _).alloc (Nat.le_refl _) _)
  generalize w.alloc (.cells #[.int .i64 t.wall, .int .i32 t.logic, .int .i32 t.tag] 25) = w5 at *
  refine (rcheck24_any A n c cs HL.out (by omega) none 0 0 [] rfl (by decide) B w5 (HR.out.below (B5.out.mono hB)) Rd.nil (by have := B5.out.size; omega)).mono ?_
  rintro e w6 ⟨rfl, hb⟩
  have X6 := Lib.hid (X5.out.next hb)
  have B6 := Lib.hid (B5.out.trans (hb.mono B5.out.size))
  clear hb X5 B5
  by_cases h0 : chkCI cs [] = 0
  case neg =>
    have hF1 : F = chkCI cs [] := by rw [HF.out]; unfold chkdE; rw [if_neg h0]
    have SEQ : Hid (E = []) := Lib.hid (by rw [HE.out]; unfold goneG; rw [if_neg (by rw [← HF.out, hF1]; exact h0)])
    rw [← hF1] at h0 ⊢
    have e1 : (F != 0) = true := by simpa using h0
    clear hF1 h0 HE HF
    go_wp2_with fail
    go_ret2
    exact ⟨_, rfl, by rw [SEQ.out]; exact World.ownsRow_nil _ _ _ _, B6.out⟩
  have H0 := Lib.hid h0
  rw [h0]
  clear h0
  have a0 := X6.out.c 0 _ rfl
  have a1 := X6.out.c 1 _ rfl
  have a2 := X6.out.c 2 _ rfl
  go_wp2_with fail
  refine (rcheck_any t _).mono ?_
  rintro e w7 ⟨rfl, hb⟩
  have X7 := Lib.hid (X6.out.next hb)
  have B7 := Lib.hid (B6.out.trans (hb.mono B6.out.size))
  clear hb X6 B6 a0 a1 a2
  cases hs : okS t
  case false =>
    rw [chk_no hs]
    have FEQ : Hid (F = 2) := Lib.hid (by rw [HF.out]; exact chkdE_two H0.out (s := t) (by simp) hs)
    have SEQ : Hid (E = []) := Lib.hid (by rw [HE.out]; unfold goneG; rw [if_neg (by rw [← HF.out, FEQ.out]; decide)])
    clear hs HE HF
    go_wp2_with fail
    go_ret2
    exact ⟨.slice none 0 0, by rw [FEQ.out] <;> rfl, by rw [SEQ.out]; exact World.ownsRow_nil _ _ _ _, B7.out⟩
  rw [chk_ok hs]
  have FEQ : Hid (F = 0) := Lib.hid (by rw [HF.out]; unfold chkdE; rw [if_pos H0.out, if_pos (by simp [hs])])
  have HE1 : Hid (E = [] ++ goneA t zE (cs.drop 0)) := Lib.hid (by rw [HE.out]; unfold goneG; rw [if_pos (by rw [← HF.out]; exact FEQ.out)]; rfl)
  have hzB : B ≤ w7.heap.size := by have := B7.out.size; omega
  have R7 := Lib.hid (HR.out.below (B7.out.mono hB))
  clear hs HE HF HR
  go_wp2_with fail
  go_loopw [7, 8, 9] (fun s7 s8 s9 wr => ∃ (A5 : Option Addr) (c5 : Nat) (out : List Cel) (i : Nat) (K : ByteArray), s7 = .slice A5 out.length c5 ∧ s8 = .string K ∧ s9 = .int .i64 (i : Int) ∧ i ≤ n ∧ Hid (out.length ≤ i) ∧ Hid (wr.ownsRow w7.heap.size 45 6 (.slice A5 out.length c5) out.length (cev out)) ∧ Hid (E = out ++ goneA t K (cs.drop i)) ∧ Hid (Below w7.heap.size w7 wr)) (fun s7 s8 s9 _ => n - (intOf s9).toNat)
  case atStart => exact ⟨none, 0, [], 0, zE, rfl, rfl, rfl, Nat.zero_le _, Lib.hid (Nat.le_refl _), Lib.hid (World.ownsRow_nil _ _ _ _), HE1, Lib.hid (Below.refl _ _)⟩
  case round =>
    obtain ⟨A5, c5, out, i, K, rfl, rfl, rfl, hi, HOL, HO, HQ, hB2⟩ := hrel
    obtain ⟨w2, rfl⟩ : ∃ x, x = wr := ⟨_, rfl⟩
    by_cases hlt : i < n
    · obtain ⟨x, hx⟩ : ∃ x, cs[i]? = some x := ⟨_, List.getElem?_eq_getElem (by rw [HL.out]; exact hlt)⟩
      obtain ⟨b, off, rfl, hb, hce⟩ := ce_at R7.out hx
      obtain ⟨d0, d1, d2, d3, d4, d5⟩ := hce.below (Nat.lt_of_lt_of_le hb hzB) hB2.out
      have HX := Lib.hid hx
      have X2 := Lib.hid (X7.out.next hB2.out)
      have CY : Hid (CeI (w2.alloc (.cells #[.string x.key, .int .i64 x.at_.wall, .int .i32 x.at_.logic, .int .i32 x.at_.tag, .string x.val, .bool x.del] 45)) w2.heap.size 0 x) := Lib.hid (by
        have h := (BxV.new w2 #[.string x.key, .int .i64 x.at_.wall, .int .i32 x.at_.logic, .int .i32 x.at_.tag, .string x.val, .bool x.del] 45).c
        exact ⟨h 0 _ rfl, h 1 _ rfl, h 2 _ rfl, h 3 _ rfl, h 4 _ rfl, h 5 _ rfl⟩)
      have CYL : Hid (w2.heap.size < (w2.alloc (.cells #[.string x.key, .int .i64 x.at_.wall, .int .i32 x.at_.logic, .int .i32 x.at_.tag, .string x.val, .bool x.del] 45)).heap.size) := Lib.hid (by simp)
      have a0 := X2.out.c 0 _ rfl
      have a1 := X2.out.c 1 _ rfl
      have a2 := X2.out.c 2 _ rfl
      have zz0 := X2.out.lt
      have zzb : b < w2.heap.size := by have := hB2.out.size; omega
      have i1 : (i : Int) < (n : Int) := by omega
      have hol : out.length ≤ i := HOL.out
      clear hce hx
      go_wp2_with fail
      refine (HUP.out x.at_ _).mono ?_
      rintro e w4 ⟨rfl, hb4⟩
      have hb24 := (((Below.refl w2.heap.size w2).alloc (Nat.le_refl _) (.cells #[.string x.key, .int .i64 x.at_.wall, .int .i32 x.at_.logic, .int .i32 x.at_.tag, .string x.val, .bool x.del] 45)).trans (hb4.mono (by simp)))
      have Y4 := CeI.below CY.out CYL.out hb4
      have B4 := Lib.hid (hB2.out.trans (hb24.mono hB2.out.size))
      have O4 := Lib.hid (own_keep (HO.out.alloc (.cells #[.string x.key, .int .i64 x.at_.wall, .int .i32 x.at_.logic, .int .i32 x.at_.tag, .string x.val, .bool x.del] 45)) hb4 (Nat.le_refl _))
      have hs4 := B4.out.size
      have HOB : Hid (∀ g, (Value.slice A5 out.length c5).ownBlock = some g → g < w2.heap.size) := Lib.hid (fun g hg => (HO.out.lt g hg).2)
      have hz24 : w2.heap.size < w4.heap.size := by have := hb4.size; rw [World.size_alloc] at this; omega
      clear zz0 zzb a0 a1 a2 d0 d1 d2 d3 d4 d5 hb4 hb24 hB2 HO X2
      cases k1 : le x.at_ t
      · have HQ9 : Hid (E = out ++ goneA t K (cs.drop (i + 1))) := Lib.hid (by rw [HQ.out, drop_at HX.out, goneA_no (by rw [k1]; decide)])
        clear HQ k1 Y4
        go_wp2_with fail
        go_roundw
        case rel => exact ⟨A5, c5, out, i + 1, K, rfl, rfl, by go_num, by omega, Lib.hid (by omega), O4, HQ9, B4⟩
        case measure => simp [intOf]; omega
      · obtain ⟨y0, y1, y2, y3, y4, y5⟩ := Y4
        by_cases q0 : x.key = K
        · have g0 : (x.key.toList == K.toList) = true := by rw [str_eq, decide_eq_true q0]
          have HK := Lib.hid q0
          have hc : Hid (x.key = K ∨ x.del = true) := Lib.hid (.inl q0)
          clear q0
          have HQ9 : Hid (E = (out ++ [x]) ++ goneA t x.key (cs.drop (i + 1))) := Lib.hid (by rw [HQ.out, drop_at HX.out, goneA_yes k1, if_pos hc.out]; simp)
          clear HQ k1
          go_wp2_with (at_builtin; refine wpList_app styC (.tmp 42) (.tmp 44) rfl rfl w7.heap.size (O4.out.alloc _) rfl 1 1 (rd_frC _ _ _ _) rfl rfl (by simp [Value.oneCell']) (by unfold maxLen; omega) (by omega) (by rw [World.size_alloc]; omega) ?_; intro v5 w5 own5 gr5 nil5 at5; obtain ⟨A6, c6, rfl, -, -⟩ := own_sl own5; have yk : w5.cell? ⟨w2.heap.size, 0, none⟩ = some (.string x.key) := (World.cell?_of_block (gr5.block w2.heap.size (by rw [World.size_alloc]; omega) (fun e => by have := HOB.out _ e.symm; omega))).trans ((World.cell?_alloc_lt _ _ _ hz24).trans y0))
          have B10 := Lib.hid ((B4.out.alloc hs4 _).grown gr5 (by rw [World.size_alloc]; omega) (fun g e => (O4.out.lt g e).1))
          have O10 : Hid (w5.ownsRow w7.heap.size 45 6 (.slice A6 (out.length + 1) c6) (out ++ [x]).length (cev (out ++ [x]))) := Lib.hid (own_eq own5 (by simp) (by rw [cev_app]; first | rfl | (simp [cev, Cel.c, HK.out])))
          go_roundw
          case rel => exact ⟨A6, c6, out ++ [x], i + 1, x.key, by rw [List.length_append]; rfl, rfl, by go_num, by omega, Lib.hid (by rw [List.length_append]; simp only [List.length_cons, List.length_nil]; omega), Lib.hid (by have h := O10.out; rw [List.length_append] at h ⊢; exact h), HQ9, B10⟩
          case measure => simp [intOf]; omega
        · have g0 : (x.key.toList == K.toList) = false := by rw [str_eq, decide_eq_false q0]
          cases hd : x.del
          · have hc : Hid (¬ (x.key = K ∨ x.del = true)) := Lib.hid (fun e => by
              rcases e with e | e
              · exact q0 e
              · rw [hd] at e
                cases e)
            rw [hd] at y5
            clear q0 hd
            have HQ9 : Hid (E = out ++ goneA t x.key (cs.drop (i + 1))) := Lib.hid (by rw [HQ.out, drop_at HX.out, goneA_yes k1, if_neg hc.out]; rfl)
            clear HQ k1
            go_wp2_with fail
            go_roundw
            case rel => exact ⟨A5, c5, out, i + 1, x.key, rfl, rfl, by go_num, by omega, Lib.hid (by omega), O4, HQ9, B4⟩
            case measure => simp [intOf]; omega
          · have hc : Hid (x.key = K ∨ x.del = true) := Lib.hid (.inr hd)
            have HD := Lib.hid hd
            rw [hd] at y5
            clear q0 hd
            have HQ9 : Hid (E = (out ++ [x]) ++ goneA t x.key (cs.drop (i + 1))) := Lib.hid (by rw [HQ.out, drop_at HX.out, goneA_yes k1, if_pos hc.out]; simp)
            clear HQ k1
            go_wp2_with (at_builtin; refine wpList_app styC (.tmp 42) (.tmp 44) rfl rfl w7.heap.size (O4.out.alloc _) rfl 1 1 (rd_frC _ _ _ _) rfl rfl (by simp [Value.oneCell']) (by unfold maxLen; omega) (by omega) (by rw [World.size_alloc]; omega) ?_; intro v5 w5 own5 gr5 nil5 at5; obtain ⟨A6, c6, rfl, -, -⟩ := own_sl own5; have yk : w5.cell? ⟨w2.heap.size, 0, none⟩ = some (.string x.key) := (World.cell?_of_block (gr5.block w2.heap.size (by rw [World.size_alloc]; omega) (fun e => by have := HOB.out _ e.symm; omega))).trans ((World.cell?_alloc_lt _ _ _ hz24).trans y0))
            have B10 := Lib.hid ((B4.out.alloc hs4 _).grown gr5 (by rw [World.size_alloc]; omega) (fun g e => (O4.out.lt g e).1))
            have O10 : Hid (w5.ownsRow w7.heap.size 45 6 (.slice A6 (out.length + 1) c6) (out ++ [x]).length (cev (out ++ [x]))) := Lib.hid (own_eq own5 (by simp) (by rw [cev_app]; first | rfl | (simp [cev, Cel.c, HD.out])))
            go_roundw
            case rel => exact ⟨A6, c6, out ++ [x], i + 1, x.key, by rw [List.length_append]; rfl, rfl, by go_num, by omega, Lib.hid (by rw [List.length_append]; simp only [List.length_cons, List.length_nil]; omega), Lib.hid (by have h := O10.out; rw [List.length_append] at h ⊢; exact h), HQ9, B10⟩
            case measure => simp [intOf]; omega
    · have i1 : ¬ (i : Int) < (n : Int) := by omega
      have SEQ : Hid (E = out) := Lib.hid (by rw [HQ.out, List.drop_eq_nil_of_le (by rw [HL.out]; omega)]; simp [goneA])
      clear HQ hlt
      go_wp2_with fail
      go_ret2
      exact ⟨.slice A5 out.length c5, by rw [FEQ.out] <;> rfl, by rw [SEQ.out]; exact own_base HO.out B7.out.size, B7.out.trans (hB2.out.mono B7.out.size)⟩
end Go.Proofs.Ytgikaglmeeeplaa
