/- Walk: the document's answer on what a read at a stamp sees. -/
import Derived.Test.YtgikaglmeeeplaaJc
import Derived.Deep.Cut
namespace Go.Proofs.Ytgikaglmeeeplaa
open Go.RowKit Go.St
set_option linter.unusedVariables false
set_option linter.unusedSimpArgs false
set_option maxRecDepth 100000

theorem chk_or (s : Stp) : chk s = 0 ∨ chk s = 2 := by unfold chk; split <;> simp
theorem chkdE_two {cs : List Cel} {is : List Itt} {l : List Stp} (h : chkCI cs is = 0) {s : Stp} (hs : s ∈ l) (k : okS s = false) : chkdE cs is l = 2 := by
  unfold chkdE
  rw [if_pos h, if_neg]
  rw [List.all_eq_true]
  intro x
  rw [x s hs] at k
  cases k
theorem chkdE_zero {cs : List Cel} {is : List Itt} {s t : Stp} (h : chkCI cs is = 0) (hs : okS s = true) (ht : okS t = true) : chkdE cs is [s, t] = 0 := by
  unfold chkdE
  rw [if_pos h, if_pos]
  simp [hs, ht]
theorem scanE_two {cs : List Cel} {is : List Itt} {s t : Stp} (h : chkdE cs is [s, t] = 2) : scanE cs is s t = 2 := by unfold scanE; rw [if_neg (by rw [h]; decide), h]

set_option maxHeartbeats 6400000 in
theorem rscan24_any (A : Option Addr) (n c : Nat) (cs : List Cel) (hl : cs.length = n) (hn : n ≤ 1000000) (A2 : Option Addr) (m c2 : Nat) (is : List Itt) (hl2 : is.length = m) (hm : m ≤ 1000000) (s t : Stp) (by_ : Int × Int) (A3 : Option Addr) (q c3 : Nat) (kn : List (Int × Int)) (hl3 : kn.length = q) (hq : q ≤ 140737488351232) (B : Nat) (w : World) (hr : Rd w B A (cev cs)) (hr2 : Rd w B A2 (itv is)) (hr3 : Rd w B A3 (txv kn)) (hB : B ≤ w.heap.size) :
    Calls Try.prog 24 #[.slice A n c, .slice A2 m c2, .agg #[.int .i64 s.wall, .int .i32 s.logic, .int .i32 s.tag], .agg #[.int .i64 t.wall, .int .i32 t.logic, .int .i32 t.tag], .agg #[.int .i32 by_.1, .int .i32 by_.2], .slice A3 q c3] w fun e w' => SnP w.heap.size w' e (scanM cs is s t by_ kn) (scanE cs is s t) ∧ Below w.heap.size w w' := by
  have HL := Lib.hid hl
  have HR := Lib.hid hr
  have HL2 := Lib.hid hl2
  have HR2 := Lib.hid hr2
  have HL3 := Lib.hid hl3
  have HR3 := Lib.hid hr3
  clear hl hr hl2 hr2 hl3 hr3
  obtain ⟨E, hE⟩ : ∃ E, E = scanE cs is s t := ⟨_, rfl⟩
  obtain ⟨S, hS⟩ : ∃ S, S = scanM cs is s t by_ kn := ⟨_, rfl⟩
  rw [← hE, ← hS]
  have HE := Lib.hid hE
  have HS := Lib.hid hS
  clear hE hS
  go_enter Try.func24, Try.ntmps24
  go_wp2_with fail
  have X5 : Hid (ScB ((((w.alloc (.cells #[.int .i64 s.wall, .int .i32 s.logic, .int .i32 s.tag] 25)).alloc (.cells #[.int .i64 t.wall, .int .i32 t.logic, .int .i32 t.tag] 25)).alloc (.cells #[.int .i32 by_.1, .int .i32 by_.2] 27)).alloc (.cells #[.int .i64 0, .slice none 0 0, .slice none 0 0, .int .i64 0, .int .i32 0, .int .i32 0] 53)) w.heap.size s t by_) := Lib.hid ⟨(((BxV.new w _ _).alloc _).alloc _).alloc _, by
    have h := ((BxV.new (w.alloc (.cells #[.int .i64 s.wall, .int .i32 s.logic, .int .i32 s.tag] 25)) #[.int .i64 t.wall, .int .i32 t.logic, .int .i32 t.tag] 25).alloc (.cells #[.int .i32 by_.1, .int .i32 by_.2] 27)).alloc (.cells #[.int .i64 0, .slice none 0 0, .slice none 0 0, .int .i64 0, .int .i32 0, .int .i32 0] 53)
    simp only [World.size_alloc] at h; exact h, by
    have h := (BxV.new ((w.alloc (.cells #[.int .i64 s.wall, .int .i32 s.logic, .int .i32 s.tag] 25)).alloc (.cells #[.int .i64 t.wall, .int .i32 t.logic, .int .i32 t.tag] 25)) #[.int .i32 by_.1, .int .i32 by_.2] 27).alloc (.cells #[.int .i64 0, .slice none 0 0, .slice none 0 0, .int .i64 0, .int .i32 0, .int .i32 0] 53)
    simp only [World.size_alloc] at h; exact h, by
    have h := BxV.new (((w.alloc (.cells #[.int .i64 s.wall, .int .i32 s.logic, .int .i32 s.tag] 25)).alloc (.cells #[.int .i64 t.wall, .int .i32 t.logic, .int .i32 t.tag] 25)).alloc (.cells #[.int .i32 by_.1, .int .i32 by_.2] 27)) #[.int .i64 0, .slice none 0 0, .slice none 0 0, .int .i64 0, .int .i32 0, .int .i32 0] 53
    simp only [World.size_alloc] at h; exact h⟩
  have B5 : Hid (Below w.heap.size w ((((w.alloc (.cells #[.int .i64 s.wall, .int .i32 s.logic, .int .i32 s.tag] 25)).alloc (.cells #[.int .i64 t.wall, .int .i32 t.logic, .int .i32 t.tag] 25)).alloc (.cells #[.int .i32 by_.1, .int .i32 by_.2] 27)).alloc (.cells #[.int .i64 0, .slice none 0 0, .slice none 0 0, .int .i64 0, .int .i32 0, .int .i32 0] 53))) := Lib.hid (((((Below.refl _ _).alloc (Nat.le_refl _) _).alloc (by simp) _).alloc (by simp <;> omega) _).alloc (by simp <;> omega) _)
  have hz5 : w.heap.size + 4 ≤ ((((w.alloc (.cells #[.int .i64 s.wall, .int .i32 s.logic, .int .i32 s.tag] 25)).alloc (.cells #[.int .i64 t.wall, .int .i32 t.logic, .int .i32 t.tag] 25)).alloc (.cells #[.int .i32 by_.1, .int .i32 by_.2] 27)).alloc (.cells #[.int .i64 0, .slice none 0 0, .slice none 0 0, .int .i64 0, .int .i32 0, .int .i32 0] 53)).heap.size := by simp
  generalize ((((w.alloc (.cells #[.int .i64 s.wall, .int .i32 s.logic, .int .i32 s.tag] 25)).alloc (.cells #[.int .i64 t.wall, .int .i32 t.logic, .int .i32 t.tag] 25)).alloc (.cells #[.int .i32 by_.1, .int .i32 by_.2] 27)).alloc (.cells #[.int .i64 0, .slice none 0 0, .slice none 0 0, .int .i64 0, .int .i32 0, .int .i32 0] 53)) = w5 at *
  refine (rcheck24_any A n c cs HL.out (by omega) A2 m c2 is HL2.out (by omega) B w5 (HR.out.below (B5.out.mono hB)) (HR2.out.below (B5.out.mono hB)) (by omega)).mono ?_
  rintro e w6 ⟨rfl, hb⟩
  have X6 := Lib.hid (X5.out.next hb)
  have B6 := Lib.hid (B5.out.trans (hb.mono B5.out.size))
  have hz6 : w.heap.size + 4 ≤ w6.heap.size := by have := hb.size; omega
  clear hb X5 B5 hz5
  by_cases h0 : chkCI cs is = 0
  case neg =>
    have hd : chkdE cs is [s, t] = chkCI cs is := by unfold chkdE; rw [if_neg h0]
    have hE1 : E = chkCI cs is := by rw [HE.out]; unfold scanE; rw [hd, if_neg h0]
    have SEQ := Lib.hid (HS.out.trans (scan_bad (b := by_) (kn := kn) (by rw [← HE.out, hE1]; exact h0)))
    rw [← hE1] at h0 ⊢
    have e1 : (E != 0) = true := by simpa using h0
    clear hE1 h0 hd
    have EEQ : Hid (E = E) := Lib.hid rfl
    have XR := Lib.hid X6.out.d
    have q0 := XR.out.c 0 _ rfl
    have q1 := XR.out.c 1 _ rfl
    have q2 := XR.out.c 2 _ rfl
    have q3 := XR.out.c 3 _ rfl
    have q4 := XR.out.c 4 _ rfl
    have q5 := XR.out.c 5 _ rfl
    have qf := XR.out.fz
    clear HE HS EEQ
    go_wp2_with fail
    obtain ⟨w9, rfl⟩ : ∃ x, x = w6 := ⟨_, rfl⟩
    have B9 := B6
    have EEQ : Hid (E = E) := Lib.hid rfl
    have OR9 := Lib.hid (World.ownsRow_nil w9 (w.heap.size + 4) 67 2)
    have OI9 := Lib.hid (World.ownsRow_nil w9 (w.heap.size + 4) 29 12)
    change bodyPost _ _ _ _ _ (World.setCells w9 (w.heap.size + 1 + 1 + 1) 0 [.int .i64 0, .slice none 0 0, .slice none 0 0, .int .i64 0, .int .i32 0, .int .i32 0])
    have RB := (XR.out.set [.int .i64 0, .slice none 0 0, .slice none 0 0, .int .i64 0, .int .i32 0, .int .i32 0] rfl)
    have BZ := bel_setCells (b := w.heap.size + 1 + 1 + 1) (by omega) [.int .i64 0, .slice none 0 0, .slice none 0 0, .int .i64 0, .int .i32 0, .int .i32 0] 0 _ B9.out
    have OR := own_base (own_setCells OR9.out (p := w.heap.size + 1 + 1 + 1) (by omega) 0 [.int .i64 0, .slice none 0 0, .slice none 0 0, .int .i64 0, .int .i32 0, .int .i32 0]) (show w.heap.size ≤ _ by omega)
    have OI := own_base (own_setCells OI9.out (p := w.heap.size + 1 + 1 + 1) (by omega) 0 [.int .i64 0, .slice none 0 0, .slice none 0 0, .int .i64 0, .int .i32 0, .int .i32 0]) (show w.heap.size ≤ _ by omega)
    have r0 := RB.c 0 _ rfl
    have r1 := RB.c 1 _ rfl
    have r2 := RB.c 2 _ rfl
    have r3 := RB.c 3 _ rfl
    have r4 := RB.c 4 _ rfl
    have r5 := RB.c 5 _ rfl
    generalize World.setCells w9 (w.heap.size + 1 + 1 + 1) 0 [.int .i64 0, .slice none 0 0, .slice none 0 0, .int .i64 0, .int .i32 0, .int .i32 0] = wz at *
    refine bodyPost_ret (v := .tuple #[.agg #[.int .i64 0, .slice none 0 0, .slice none 0 0, .int .i64 0, .int .i32 0, .int .i32 0], .int .i64 E]) (by simp [results, Try.results24, go_sem, r0, r1, r2, r3, r4, r5]) rfl ⟨?_, BZ⟩
    rw [SEQ.out, EEQ.out]
    exact ⟨_, _, rfl, OR, OI⟩
  have H0 := Lib.hid h0
  rw [h0]
  clear h0
  have a0 := X6.out.a.c 0 _ rfl
  have a1 := X6.out.a.c 1 _ rfl
  have a2 := X6.out.a.c 2 _ rfl
  go_wp2_with fail
  refine (rcheck_any s _).mono ?_
  rintro e w7 ⟨rfl, hb⟩
  have X7 := Lib.hid (X6.out.next hb)
  have B7 := Lib.hid (B6.out.trans (hb.mono B6.out.size))
  have hz7 : w.heap.size + 4 ≤ w7.heap.size := by have := hb.size; omega
  clear hb X6 B6 a0 a1 a2 hz6
  cases hs : okS s
  case false =>
    rw [chk_no hs]
    have EEQ : Hid (E = 2) := Lib.hid (by rw [HE.out]; exact scanE_two (chkdE_two H0.out (s := s) (by simp) hs))
    have SEQ := Lib.hid (HS.out.trans (scan_bad (b := by_) (kn := kn) (by rw [← HE.out, EEQ.out]; decide)))
    clear hs
    have XR := Lib.hid X7.out.d
    have q0 := XR.out.c 0 _ rfl
    have q1 := XR.out.c 1 _ rfl
    have q2 := XR.out.c 2 _ rfl
    have q3 := XR.out.c 3 _ rfl
    have q4 := XR.out.c 4 _ rfl
    have q5 := XR.out.c 5 _ rfl
    have qf := XR.out.fz
    clear HE HS
    go_wp2_with fail
    obtain ⟨w9, rfl⟩ : ∃ x, x = w7 := ⟨_, rfl⟩
    have B9 := B7
    have OR9 := Lib.hid (World.ownsRow_nil w9 (w.heap.size + 4) 67 2)
    have OI9 := Lib.hid (World.ownsRow_nil w9 (w.heap.size + 4) 29 12)
    change bodyPost _ _ _ _ _ (World.setCells w9 (w.heap.size + 1 + 1 + 1) 0 [.int .i64 0, .slice none 0 0, .slice none 0 0, .int .i64 0, .int .i32 0, .int .i32 0])
    have RB := (XR.out.set [.int .i64 0, .slice none 0 0, .slice none 0 0, .int .i64 0, .int .i32 0, .int .i32 0] rfl)
    have BZ := bel_setCells (b := w.heap.size + 1 + 1 + 1) (by omega) [.int .i64 0, .slice none 0 0, .slice none 0 0, .int .i64 0, .int .i32 0, .int .i32 0] 0 _ B9.out
    have OR := own_base (own_setCells OR9.out (p := w.heap.size + 1 + 1 + 1) (by omega) 0 [.int .i64 0, .slice none 0 0, .slice none 0 0, .int .i64 0, .int .i32 0, .int .i32 0]) (show w.heap.size ≤ _ by omega)
    have OI := own_base (own_setCells OI9.out (p := w.heap.size + 1 + 1 + 1) (by omega) 0 [.int .i64 0, .slice none 0 0, .slice none 0 0, .int .i64 0, .int .i32 0, .int .i32 0]) (show w.heap.size ≤ _ by omega)
    have r0 := RB.c 0 _ rfl
    have r1 := RB.c 1 _ rfl
    have r2 := RB.c 2 _ rfl
    have r3 := RB.c 3 _ rfl
    have r4 := RB.c 4 _ rfl
    have r5 := RB.c 5 _ rfl
    generalize World.setCells w9 (w.heap.size + 1 + 1 + 1) 0 [.int .i64 0, .slice none 0 0, .slice none 0 0, .int .i64 0, .int .i32 0, .int .i32 0] = wz at *
    refine bodyPost_ret (v := .tuple #[.agg #[.int .i64 0, .slice none 0 0, .slice none 0 0, .int .i64 0, .int .i32 0, .int .i32 0], .int .i64 2]) (by simp [results, Try.results24, go_sem, r0, r1, r2, r3, r4, r5]) rfl ⟨?_, BZ⟩
    rw [SEQ.out, EEQ.out]
    exact ⟨_, _, rfl, OR, OI⟩
  rw [chk_ok hs]
  have HSA := Lib.hid hs
  clear hs
  have b0 := X7.out.b.c 0 _ rfl
  have b1 := X7.out.b.c 1 _ rfl
  have b2 := X7.out.b.c 2 _ rfl
  go_wp2_with fail
  refine (rcheck_any t _).mono ?_
  rintro e w8 ⟨rfl, hb⟩
  have X8 := Lib.hid (X7.out.next hb)
  have B8 := Lib.hid (B7.out.trans (hb.mono B7.out.size))
  have hz8 : w.heap.size + 4 ≤ w8.heap.size := by have := hb.size; omega
  clear hb X7 B7 b0 b1 b2 hz7
  cases hs : okS t
  case false =>
    rw [chk_no hs]
    have EEQ : Hid (E = 2) := Lib.hid (by rw [HE.out]; exact scanE_two (chkdE_two H0.out (s := t) (by simp) hs))
    have SEQ := Lib.hid (HS.out.trans (scan_bad (b := by_) (kn := kn) (by rw [← HE.out, EEQ.out]; decide)))
    clear hs
    have XR := Lib.hid X8.out.d
    have q0 := XR.out.c 0 _ rfl
    have q1 := XR.out.c 1 _ rfl
    have q2 := XR.out.c 2 _ rfl
    have q3 := XR.out.c 3 _ rfl
    have q4 := XR.out.c 4 _ rfl
    have q5 := XR.out.c 5 _ rfl
    have qf := XR.out.fz
    clear HE HS
    go_wp2_with fail
    obtain ⟨w9, rfl⟩ : ∃ x, x = w8 := ⟨_, rfl⟩
    have B9 := B8
    have OR9 := Lib.hid (World.ownsRow_nil w9 (w.heap.size + 4) 67 2)
    have OI9 := Lib.hid (World.ownsRow_nil w9 (w.heap.size + 4) 29 12)
    change bodyPost _ _ _ _ _ (World.setCells w9 (w.heap.size + 1 + 1 + 1) 0 [.int .i64 0, .slice none 0 0, .slice none 0 0, .int .i64 0, .int .i32 0, .int .i32 0])
    have RB := (XR.out.set [.int .i64 0, .slice none 0 0, .slice none 0 0, .int .i64 0, .int .i32 0, .int .i32 0] rfl)
    have BZ := bel_setCells (b := w.heap.size + 1 + 1 + 1) (by omega) [.int .i64 0, .slice none 0 0, .slice none 0 0, .int .i64 0, .int .i32 0, .int .i32 0] 0 _ B9.out
    have OR := own_base (own_setCells OR9.out (p := w.heap.size + 1 + 1 + 1) (by omega) 0 [.int .i64 0, .slice none 0 0, .slice none 0 0, .int .i64 0, .int .i32 0, .int .i32 0]) (show w.heap.size ≤ _ by omega)
    have OI := own_base (own_setCells OI9.out (p := w.heap.size + 1 + 1 + 1) (by omega) 0 [.int .i64 0, .slice none 0 0, .slice none 0 0, .int .i64 0, .int .i32 0, .int .i32 0]) (show w.heap.size ≤ _ by omega)
    have r0 := RB.c 0 _ rfl
    have r1 := RB.c 1 _ rfl
    have r2 := RB.c 2 _ rfl
    have r3 := RB.c 3 _ rfl
    have r4 := RB.c 4 _ rfl
    have r5 := RB.c 5 _ rfl
    generalize World.setCells w9 (w.heap.size + 1 + 1 + 1) 0 [.int .i64 0, .slice none 0 0, .slice none 0 0, .int .i64 0, .int .i32 0, .int .i32 0] = wz at *
    refine bodyPost_ret (v := .tuple #[.agg #[.int .i64 0, .slice none 0 0, .slice none 0 0, .int .i64 0, .int .i32 0, .int .i32 0], .int .i64 2]) (by simp [results, Try.results24, go_sem, r0, r1, r2, r3, r4, r5]) rfl ⟨?_, BZ⟩
    rw [SEQ.out, EEQ.out]
    exact ⟨_, _, rfl, OR, OI⟩
  rw [chk_ok hs]
  have HST := Lib.hid hs
  clear hs
  have a0 := X8.out.a.c 0 _ rfl
  have a1 := X8.out.a.c 1 _ rfl
  have a2 := X8.out.a.c 2 _ rfl
  have b0 := X8.out.b.c 0 _ rfl
  have b1 := X8.out.b.c 1 _ rfl
  have b2 := X8.out.b.c 2 _ rfl
  go_wp2_with fail
  refine (rless_any t s _).mono ?_
  rintro e w10 ⟨rfl, hb⟩
  have X10 := Lib.hid (X8.out.next hb)
  have B10 := Lib.hid (B8.out.trans (hb.mono B8.out.size))
  have hz10 : w.heap.size + 4 ≤ w10.heap.size := by have := hb.size; omega
  clear hb X8 B8 a0 a1 a2 b0 b1 b2 hz8
  have HD0 := Lib.hid (chkdE_zero H0.out HSA.out HST.out)
  cases hlt : less t s
  case true =>
    have EEQ : Hid (E = 2) := Lib.hid (by rw [HE.out]; unfold scanE; rw [if_pos HD0.out, hlt]; rfl)
    have SEQ := Lib.hid (HS.out.trans (scan_bad (b := by_) (kn := kn) (by rw [← HE.out, EEQ.out]; decide)))
    clear hlt
    have XR := Lib.hid X10.out.d
    have q0 := XR.out.c 0 _ rfl
    have q1 := XR.out.c 1 _ rfl
    have q2 := XR.out.c 2 _ rfl
    have q3 := XR.out.c 3 _ rfl
    have q4 := XR.out.c 4 _ rfl
    have q5 := XR.out.c 5 _ rfl
    have qf := XR.out.fz
    clear HE HS
    go_wp2_with fail
    obtain ⟨w9, rfl⟩ : ∃ x, x = w10 := ⟨_, rfl⟩
    have B9 := B10
    have OR9 := Lib.hid (World.ownsRow_nil w9 (w.heap.size + 4) 67 2)
    have OI9 := Lib.hid (World.ownsRow_nil w9 (w.heap.size + 4) 29 12)
    change bodyPost _ _ _ _ _ (World.setCells w9 (w.heap.size + 1 + 1 + 1) 0 [.int .i64 0, .slice none 0 0, .slice none 0 0, .int .i64 0, .int .i32 0, .int .i32 0])
    have RB := (XR.out.set [.int .i64 0, .slice none 0 0, .slice none 0 0, .int .i64 0, .int .i32 0, .int .i32 0] rfl)
    have BZ := bel_setCells (b := w.heap.size + 1 + 1 + 1) (by omega) [.int .i64 0, .slice none 0 0, .slice none 0 0, .int .i64 0, .int .i32 0, .int .i32 0] 0 _ B9.out
    have OR := own_base (own_setCells OR9.out (p := w.heap.size + 1 + 1 + 1) (by omega) 0 [.int .i64 0, .slice none 0 0, .slice none 0 0, .int .i64 0, .int .i32 0, .int .i32 0]) (show w.heap.size ≤ _ by omega)
    have OI := own_base (own_setCells OI9.out (p := w.heap.size + 1 + 1 + 1) (by omega) 0 [.int .i64 0, .slice none 0 0, .slice none 0 0, .int .i64 0, .int .i32 0, .int .i32 0]) (show w.heap.size ≤ _ by omega)
    have r0 := RB.c 0 _ rfl
    have r1 := RB.c 1 _ rfl
    have r2 := RB.c 2 _ rfl
    have r3 := RB.c 3 _ rfl
    have r4 := RB.c 4 _ rfl
    have r5 := RB.c 5 _ rfl
    generalize World.setCells w9 (w.heap.size + 1 + 1 + 1) 0 [.int .i64 0, .slice none 0 0, .slice none 0 0, .int .i64 0, .int .i32 0, .int .i32 0] = wz at *
    refine bodyPost_ret (v := .tuple #[.agg #[.int .i64 0, .slice none 0 0, .slice none 0 0, .int .i64 0, .int .i32 0, .int .i32 0], .int .i64 2]) (by simp [results, Try.results24, go_sem, r0, r1, r2, r3, r4, r5]) rfl ⟨?_, BZ⟩
    rw [SEQ.out, EEQ.out]
    exact ⟨_, _, rfl, OR, OI⟩
  have EEQ : Hid (E = 0) := Lib.hid (by rw [HE.out]; unfold scanE; rw [if_pos HD0.out, hlt]; rfl)
  have E0 : Hid (scanE cs is s t = 0) := Lib.hid (by rw [← HE.out]; exact EEQ.out)
  have HLT := Lib.hid hlt
  clear hlt HE
  have a0 := X10.out.a.c 0 _ rfl
  have a1 := X10.out.a.c 1 _ rfl
  have a2 := X10.out.a.c 2 _ rfl
  have b0 := X10.out.b.c 0 _ rfl
  have b1 := X10.out.b.c 1 _ rfl
  have b2 := X10.out.b.c 2 _ rfl
  have x0 := X10.out.c.c 0 _ rfl
  have x1 := X10.out.c.c 1 _ rfl
  go_wp2_with fail
  refine (heeded24_any A2 m c2 is HL2.out hm s t by_ A3 q c3 kn HL3.out hq HLT.out B w10 (HR2.out.below (B10.out.mono hB)) (HR3.out.below (B10.out.mono hB)) (by omega)).mono ?_
  rintro e w11 ⟨Av, cv, rfl, ownh, hb⟩
  have X11 := Lib.hid (X10.out.next hb)
  have B11 := Lib.hid (B10.out.trans (hb.mono B10.out.size))
  have hz11 : w.heap.size + 4 ≤ w11.heap.size := by have := hb.size; omega
  have OH := Lib.hid ownh
  clear hb ownh X10 B10 a0 a1 a2 b0 b1 b2 x0 x1
  by_cases h0 : (heed is s t by_ kn).length = 0
  case neg =>
    have SEQ := Lib.hid (HS.out.trans (scan_met (b := by_) (kn := kn) E0.out h0))
    generalize heed is s t by_ kn = out at *
    have h1 : (0 : Int) < (out.length : Int) := by omega
    have XR := Lib.hid X11.out.d
    have q0 := XR.out.c 0 _ rfl
    have q1 := XR.out.c 1 _ rfl
    have q2 := XR.out.c 2 _ rfl
    have q3 := XR.out.c 3 _ rfl
    have q4 := XR.out.c 4 _ rfl
    have q5 := XR.out.c 5 _ rfl
    have qf := XR.out.fz
    clear HS h0
    go_wp2_with fail
    obtain ⟨w9, rfl⟩ : ∃ x, x = w11 := ⟨_, rfl⟩
    have B9 := B11
    have OR9 := Lib.hid (World.ownsRow_nil w9 (w.heap.size + 4) 67 2)
    have OI9 := OH
    change bodyPost _ _ _ _ _ (World.setCells w9 (w.heap.size + 1 + 1 + 1) 0 [.int .i64 2, .slice none 0 0, .slice Av out.length cv, .int .i64 0, .int .i32 0, .int .i32 0])
    have RB := (XR.out.set [.int .i64 2, .slice none 0 0, .slice Av out.length cv, .int .i64 0, .int .i32 0, .int .i32 0] rfl)
    have BZ := bel_setCells (b := w.heap.size + 1 + 1 + 1) (by omega) [.int .i64 2, .slice none 0 0, .slice Av out.length cv, .int .i64 0, .int .i32 0, .int .i32 0] 0 _ B9.out
    have OR := own_base (own_setCells OR9.out (p := w.heap.size + 1 + 1 + 1) (by omega) 0 [.int .i64 2, .slice none 0 0, .slice Av out.length cv, .int .i64 0, .int .i32 0, .int .i32 0]) (show w.heap.size ≤ _ by omega)
    have OI := own_base (own_setCells OI9.out (p := w.heap.size + 1 + 1 + 1) (by omega) 0 [.int .i64 2, .slice none 0 0, .slice Av out.length cv, .int .i64 0, .int .i32 0, .int .i32 0]) (show w.heap.size ≤ _ by omega)
    have r0 := RB.c 0 _ rfl
    have r1 := RB.c 1 _ rfl
    have r2 := RB.c 2 _ rfl
    have r3 := RB.c 3 _ rfl
    have r4 := RB.c 4 _ rfl
    have r5 := RB.c 5 _ rfl
    generalize World.setCells w9 (w.heap.size + 1 + 1 + 1) 0 [.int .i64 2, .slice none 0 0, .slice Av out.length cv, .int .i64 0, .int .i32 0, .int .i32 0] = wz at *
    refine bodyPost_ret (v := .tuple #[.agg #[.int .i64 2, .slice none 0 0, .slice Av out.length cv, .int .i64 0, .int .i32 0, .int .i32 0], .int .i64 0]) (by simp [results, Try.results24, go_sem, r0, r1, r2, r3, r4, r5]) rfl ⟨?_, BZ⟩
    rw [SEQ.out, EEQ.out]
    exact ⟨_, _, rfl, OR, OI⟩
  have HNO := Lib.hid h0
  rw [h0]
  clear h0 OH
  have a0 := X11.out.a.c 0 _ rfl
  have a1 := X11.out.a.c 1 _ rfl
  have a2 := X11.out.a.c 2 _ rfl
  have b0 := X11.out.b.c 0 _ rfl
  have b1 := X11.out.b.c 1 _ rfl
  have b2 := X11.out.b.c 2 _ rfl
  go_wp2_with fail
  refine (latest24_any A n c cs HL.out hn s t B w11 (HR.out.below (B11.out.mono hB)) (by omega)).mono ?_
  rintro e w12 ⟨rfl, hb⟩
  have X12 := Lib.hid (X11.out.next hb)
  have B12 := Lib.hid (B11.out.trans (hb.mono B11.out.size))
  have hz12 : w.heap.size + 4 ≤ w12.heap.size := by have := hb.size; omega
  clear hb X11 B11 a0 a1 a2 b0 b1 b2
  have hall : cs.take n = cs := List.take_of_length_le (by rw [HL.out]; exact Nat.le_refl _)
  generalize hcur : late cs s t = cur at *
  have HCU := Lib.hid hcur
  have X13 := Lib.hid (X12.out.next ((Below.refl w12.heap.size w12).alloc (Nat.le_refl _) (.cells #[.int .i64 cur.wall, .int .i32 cur.logic, .int .i32 cur.tag] 25)))
  have U13 : Hid (BxV (w12.alloc (.cells #[.int .i64 cur.wall, .int .i32 cur.logic, .int .i32 cur.tag] 25)) w12.heap.size (spc cur)) := Lib.hid (BxV.new _ _ _)
  have B13 := Lib.hid (B12.out.alloc B12.out.size (.cells #[.int .i64 cur.wall, .int .i32 cur.logic, .int .i32 cur.tag] 25))
  have hz13 : w.heap.size + 4 ≤ (w12.alloc (.cells #[.int .i64 cur.wall, .int .i32 cur.logic, .int .i32 cur.tag] 25)).heap.size := by simp; omega
  clear hcur X12 B12
  by_cases hn0 : (cs.filter (btw s t)).length = 0
  · have hd : someL cs s t n = false := by unfold someL; rw [hall]; exact decide_eq_false (by omega)
    rw [hd]
    have SEQ := Lib.hid (HS.out.trans (scan_rows (b := by_) (kn := kn) E0.out HNO.out hn0))
    go_upto_region 10 with (fail)
    generalize w12.alloc (.cells #[.int .i64 cur.wall, .int .i32 cur.logic, .int .i32 cur.tag] 25) = w13 at *
    have a0 := X13.out.a.c 0 _ rfl
    have a1 := X13.out.a.c 1 _ rfl
    have a2 := X13.out.a.c 2 _ rfl
    clear hd hn0 HS hall
    go_wp2_with fail
    refine (rrows24_any A n c cs HL.out hn s B w13 (HR.out.below (B13.out.mono hB)) (by omega)).mono ?_
    rintro e w9 ⟨v9, rfl, own9, hb9⟩
    obtain ⟨A9, c9, rfl, -, -⟩ := own_sl own9
    have B9 := Lib.hid (B13.out.trans (hb9.mono B13.out.size))
    have XR := Lib.hid (X13.out.d.next hb9)
    have OR9 := Lib.hid own9
    have OI9 := Lib.hid (World.ownsRow_nil w9 (w.heap.size + 4) 29 12)
    have hz9 : w.heap.size + 4 ≤ w9.heap.size := by have := hb9.size; omega
    clear own9 hb9 a0 a1 a2 X13 B13
    have q0 := XR.out.c 0 _ rfl
    have q1 := XR.out.c 1 _ rfl
    have q2 := XR.out.c 2 _ rfl
    have q3 := XR.out.c 3 _ rfl
    have q4 := XR.out.c 4 _ rfl
    have q5 := XR.out.c 5 _ rfl
    have qf := XR.out.fz
    generalize rowsL cs s = rs at *
    go_wp2_with fail
    change bodyPost _ _ _ _ _ (World.setCells w9 (w.heap.size + 1 + 1 + 1) 0 [.int .i64 1, .slice A9 rs.length c9, .slice none 0 0, .int .i64 0, .int .i32 0, .int .i32 0])
    have RB := (XR.out.set [.int .i64 1, .slice A9 rs.length c9, .slice none 0 0, .int .i64 0, .int .i32 0, .int .i32 0] rfl)
    have BZ := bel_setCells (b := w.heap.size + 1 + 1 + 1) (by omega) [.int .i64 1, .slice A9 rs.length c9, .slice none 0 0, .int .i64 0, .int .i32 0, .int .i32 0] 0 _ B9.out
    have OR := own_base (own_setCells OR9.out (p := w.heap.size + 1 + 1 + 1) (by omega) 0 [.int .i64 1, .slice A9 rs.length c9, .slice none 0 0, .int .i64 0, .int .i32 0, .int .i32 0]) (show w.heap.size ≤ _ by omega)
    have OI := own_base (own_setCells OI9.out (p := w.heap.size + 1 + 1 + 1) (by omega) 0 [.int .i64 1, .slice A9 rs.length c9, .slice none 0 0, .int .i64 0, .int .i32 0, .int .i32 0]) (show w.heap.size ≤ _ by omega)
    have r0 := RB.c 0 _ rfl
    have r1 := RB.c 1 _ rfl
    have r2 := RB.c 2 _ rfl
    have r3 := RB.c 3 _ rfl
    have r4 := RB.c 4 _ rfl
    have r5 := RB.c 5 _ rfl
    generalize World.setCells w9 (w.heap.size + 1 + 1 + 1) 0 [.int .i64 1, .slice A9 rs.length c9, .slice none 0 0, .int .i64 0, .int .i32 0, .int .i32 0] = wz at *
    refine bodyPost_ret (v := .tuple #[.agg #[.int .i64 1, .slice A9 rs.length c9, .slice none 0 0, .int .i64 0, .int .i32 0, .int .i32 0], .int .i64 0]) (by simp [results, Try.results24, go_sem, r0, r1, r2, r3, r4, r5]) rfl ⟨?_, BZ⟩
    rw [SEQ.out, EEQ.out]
    exact ⟨_, _, rfl, OR, OI⟩
  · have hd : someL cs s t n = true := by unfold someL; rw [hall]; exact decide_eq_true (by omega)
    rw [hd]
    have SEQ : Hid (S = ⟨3, [], [], cur⟩) := Lib.hid (by rw [HS.out, scan_uns (b := by_) (kn := kn) E0.out HNO.out hn0, HCU.out])
    go_upto_region 10 with (fail)
    generalize w12.alloc (.cells #[.int .i64 cur.wall, .int .i32 cur.logic, .int .i32 cur.tag] 25) = w9 at *
    have XR := Lib.hid X13.out.d
    have q0 := XR.out.c 0 _ rfl
    have q1 := XR.out.c 1 _ rfl
    have q2 := XR.out.c 2 _ rfl
    have q3 := XR.out.c 3 _ rfl
    have q4 := XR.out.c 4 _ rfl
    have q5 := XR.out.c 5 _ rfl
    have qf := XR.out.fz
    have u0 := U13.out.c 0 _ rfl
    have u1 := U13.out.c 1 _ rfl
    have u2 := U13.out.c 2 _ rfl
    clear hd hn0 HS hall
    go_wp2_with fail
    have B9 := B13
    have OR9 := Lib.hid (World.ownsRow_nil w9 (w.heap.size + 4) 67 2)
    have OI9 := Lib.hid (World.ownsRow_nil w9 (w.heap.size + 4) 29 12)
    change bodyPost _ _ _ _ _ (World.setCells w9 (w.heap.size + 1 + 1 + 1) 0 [.int .i64 3, .slice none 0 0, .slice none 0 0, .int .i64 cur.wall, .int .i32 cur.logic, .int .i32 cur.tag])
    have RB := (XR.out.set [.int .i64 3, .slice none 0 0, .slice none 0 0, .int .i64 cur.wall, .int .i32 cur.logic, .int .i32 cur.tag] rfl)
    have BZ := bel_setCells (b := w.heap.size + 1 + 1 + 1) (by omega) [.int .i64 3, .slice none 0 0, .slice none 0 0, .int .i64 cur.wall, .int .i32 cur.logic, .int .i32 cur.tag] 0 _ B9.out
    have OR := own_base (own_setCells OR9.out (p := w.heap.size + 1 + 1 + 1) (by omega) 0 [.int .i64 3, .slice none 0 0, .slice none 0 0, .int .i64 cur.wall, .int .i32 cur.logic, .int .i32 cur.tag]) (show w.heap.size ≤ _ by omega)
    have OI := own_base (own_setCells OI9.out (p := w.heap.size + 1 + 1 + 1) (by omega) 0 [.int .i64 3, .slice none 0 0, .slice none 0 0, .int .i64 cur.wall, .int .i32 cur.logic, .int .i32 cur.tag]) (show w.heap.size ≤ _ by omega)
    have r0 := RB.c 0 _ rfl
    have r1 := RB.c 1 _ rfl
    have r2 := RB.c 2 _ rfl
    have r3 := RB.c 3 _ rfl
    have r4 := RB.c 4 _ rfl
    have r5 := RB.c 5 _ rfl
    generalize World.setCells w9 (w.heap.size + 1 + 1 + 1) 0 [.int .i64 3, .slice none 0 0, .slice none 0 0, .int .i64 cur.wall, .int .i32 cur.logic, .int .i32 cur.tag] = wz at *
    refine bodyPost_ret (v := .tuple #[.agg #[.int .i64 3, .slice none 0 0, .slice none 0 0, .int .i64 cur.wall, .int .i32 cur.logic, .int .i32 cur.tag], .int .i64 0]) (by simp [results, Try.results24, go_sem, r0, r1, r2, r3, r4, r5]) rfl ⟨?_, BZ⟩
    rw [SEQ.out, EEQ.out]
    exact ⟨_, _, rfl, OR, OI⟩
end Go.Proofs.Ytgikaglmeeeplaa
