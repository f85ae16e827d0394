/- Walk: the document's answer: at which stamp an intent may be laid. -/
import Derived.Test.YtgikaglmeeeplaaJf
import Derived.Test.YtgikaglmeeeplaaIh
import Derived.Deep.Cut
namespace Go.Proofs.Ytgikaglmeeeplaa
open Go.RowKit Go.St
set_option linter.unusedVariables false
set_option linter.unusedSimpArgs false
set_option maxRecDepth 100000


set_option maxHeartbeats 6400000 in
theorem rwrite24_any (A : Option Addr) (n c : Nat) (cs : List Cel) (hl : cs.length = n) (hn : n ≤ 1000000) (A2 : Option Addr) (m c2 : Nat) (is : List Itt) (hl2 : is.length = m) (hm : m ≤ 1000000) (x : Itt) (t : Stp) (B : Nat) (w : World) (hr : Rd w B A (cev cs)) (hr2 : Rd w B A2 (itv is)) (hB : B ≤ w.heap.size) :
    Calls Try.prog 25 #[.slice A n c, .slice A2 m c2, x.v, .agg #[.int .i64 t.wall, .int .i32 t.logic, .int .i32 t.tag]] w fun e w' => e = .returned (wrV (wrT cs is x t)) ∧ Below w.heap.size w w' := by
  have HL := Lib.hid hl
  have HR := Lib.hid hr
  have HL2 := Lib.hid hl2
  have HR2 := Lib.hid hr2
  clear hl hr hl2 hr2
  obtain ⟨S, hS⟩ : ∃ S, S = wrT cs is x t := ⟨_, rfl⟩
  rw [← hS]
  have HS := Lib.hid hS
  clear hS
  unfold Itt.v
  have HCI := Lib.hid (ritt_any x)
  unfold Itt.v at HCI
  go_enter Try.func25, Try.ntmps25
  go_wp2_with fail
  have X5 : Hid (WrB (((w.alloc (.cells #[.string x.key, .int .i32 x.nd, .int .i32 x.nu, .int .i64 x.bg.wall, .int .i32 x.bg.logic, .int .i32 x.bg.tag, .string x.anc, .int .i64 x.at_.wall, .int .i32 x.at_.logic, .int .i32 x.at_.tag, .string x.val, .bool x.del] 29)).alloc (.cells #[.int .i64 t.wall, .int .i32 t.logic, .int .i32 t.tag] 25)).alloc (.cells #[.int .i64 0, .int .i32 0, .int .i32 0] 25)) w.heap.size x t) := Lib.hid ⟨((BxV.new w _ _).alloc _).alloc _, by
    have h := (BxV.new (w.alloc (.cells #[.string x.key, .int .i32 x.nd, .int .i32 x.nu, .int .i64 x.bg.wall, .int .i32 x.bg.logic, .int .i32 x.bg.tag, .string x.anc, .int .i64 x.at_.wall, .int .i32 x.at_.logic, .int .i32 x.at_.tag, .string x.val, .bool x.del] 29)) #[.int .i64 t.wall, .int .i32 t.logic, .int .i32 t.tag] 25).alloc (.cells #[.int .i64 0, .int .i32 0, .int .i32 0] 25)
    simp only [World.size_alloc] at h; exact h, by
    have h := BxV.new ((w.alloc (.cells #[.string x.key, .int .i32 x.nd, .int .i32 x.nu, .int .i64 x.bg.wall, .int .i32 x.bg.logic, .int .i32 x.bg.tag, .string x.anc, .int .i64 x.at_.wall, .int .i32 x.at_.logic, .int .i32 x.at_.tag, .string x.val, .bool x.del] 29)).alloc (.cells #[.int .i64 t.wall, .int .i32 t.logic, .int .i32 t.tag] 25)) #[.int .i64 0, .int .i32 0, .int .i32 0] 25
    simp only [World.size_alloc] at h; exact h⟩
  have B5 : Hid (Below w.heap.size w (((w.alloc (.cells #[.string x.key, .int .i32 x.nd, .int .i32 x.nu, .int .i64 x.bg.wall, .int .i32 x.bg.logic, .int .i32 x.bg.tag, .string x.anc, .int .i64 x.at_.wall, .int .i32 x.at_.logic, .int .i32 x.at_.tag, .string x.val, .bool x.del] 29)).alloc (.cells #[.int .i64 t.wall, .int .i32 t.logic, .int .i32 t.tag] 25)).alloc (.cells #[.int .i64 0, .int .i32 0, .int .i32 0] 25))) := Lib.hid ((((Below.refl _ _).alloc (Nat.le_refl _) _).alloc (by simp) _).alloc (by simp <;> omega) _)
  have hz5 : w.heap.size + 1 + 1 < (((w.alloc (.cells #[.string x.key, .int .i32 x.nd, .int .i32 x.nu, .int .i64 x.bg.wall, .int .i32 x.bg.logic, .int .i32 x.bg.tag, .string x.anc, .int .i64 x.at_.wall, .int .i32 x.at_.logic, .int .i32 x.at_.tag, .string x.val, .bool x.del] 29)).alloc (.cells #[.int .i64 t.wall, .int .i32 t.logic, .int .i32 t.tag] 25)).alloc (.cells #[.int .i64 0, .int .i32 0, .int .i32 0] 25)).heap.size := by simp <;> omega
  generalize (((w.alloc (.cells #[.string x.key, .int .i32 x.nd, .int .i32 x.nu, .int .i64 x.bg.wall, .int .i32 x.bg.logic, .int .i32 x.bg.tag, .string x.anc, .int .i64 x.at_.wall, .int .i32 x.at_.logic, .int .i32 x.at_.tag, .string x.val, .bool x.del] 29)).alloc (.cells #[.int .i64 t.wall, .int .i32 t.logic, .int .i32 t.tag] 25)).alloc (.cells #[.int .i64 0, .int .i32 0, .int .i32 0] 25)) = w5 at *
  refine (rcheck24_any A n c cs HL.out (by omega) A2 m c2 is HL2.out (by omega) B w5 (HR.out.below (B5.out.mono hB)) (HR2.out.below (B5.out.mono hB)) (by omega)).mono ?_
  rintro e w4 ⟨rfl, hb6⟩
  have X4 := Lib.hid (X5.out.next hb6)
  have B4 := Lib.hid (B5.out.trans (hb6.mono B5.out.size))
  have hz4 : w.heap.size + 1 + 1 < w4.heap.size := by have := hb6.size; omega
  clear hb6 X5 B5 hz5
  by_cases h0 : chkCI cs is = 0
  case neg =>
    obtain ⟨E, hE⟩ : ∃ E, E = chkCI cs is := ⟨_, rfl⟩
    have hd : chkdE cs is [t] = chkCI cs is := by unfold chkdE; rw [if_neg h0]
    have SEQ : Hid (S = (zeroS, false, E)) := Lib.hid (by rw [HS.out, hE, ← hd]; unfold wrT; rw [if_neg (by rw [hd]; exact h0)])
    rw [← hE] at h0 ⊢
    have e1 : (E != 0) = true := by simpa using h0
    have XR := Lib.hid X4.out.c
    have q0 := XR.out.c 0 _ rfl
    have q1 := XR.out.c 1 _ rfl
    have q2 := XR.out.c 2 _ rfl
    have qf := XR.out.fz
    clear hE h0 HS hd
    go_wp2_with fail
    obtain ⟨w9, rfl⟩ : ∃ x, x = w4 := ⟨_, rfl⟩
    have B9 := B4
    change bodyPost _ _ _ _ _ (World.setCells w9 (w.heap.size + 1 + 1) 0 [.int .i64 0, .int .i32 0, .int .i32 0])
    have RB := (XR.out.set [.int .i64 0, .int .i32 0, .int .i32 0] rfl)
    have BZ := bel_setCells (b := w.heap.size + 1 + 1) (by omega) [.int .i64 0, .int .i32 0, .int .i32 0] 0 _ B9.out
    have r0 := RB.c 0 _ rfl
    have r1 := RB.c 1 _ rfl
    have r2 := RB.c 2 _ rfl
    generalize World.setCells w9 (w.heap.size + 1 + 1) 0 [.int .i64 0, .int .i32 0, .int .i32 0] = wz at *
    refine bodyPost_ret (v := .tuple #[.agg #[.int .i64 0, .int .i32 0, .int .i32 0], .bool false, .int .i64 E]) (by simp [results, Try.results25, go_sem, r0, r1, r2]) rfl ⟨?_, BZ⟩
    rw [SEQ.out]
    all_goals rfl
  have H0 := Lib.hid h0
  rw [h0]
  clear h0
  have b0 := X4.out.b.c 0 _ rfl
  have b1 := X4.out.b.c 1 _ rfl
  have b2 := X4.out.b.c 2 _ rfl
  go_wp2_with fail
  refine (rcheck_any t w4).mono ?_
  rintro e w6 ⟨rfl, hb6⟩
  have X6 := Lib.hid (X4.out.next hb6)
  have B6 := Lib.hid (B4.out.trans (hb6.mono B4.out.size))
  have hz6 : w.heap.size + 1 + 1 < w6.heap.size := by have := hb6.size; omega
  clear hb6 X4 B4 hz4 b0 b1 b2
  cases hs : okS t
  case false =>
    have hd : chkdE cs is [t] = 2 := chkdE_two H0.out (s := t) (by simp) hs
    have SEQ : Hid (S = (zeroS, false, 2)) := Lib.hid (by rw [HS.out]; unfold wrT; rw [if_neg (by rw [hd]; decide), hd])
    rw [chk_no hs]
    have XR := Lib.hid X6.out.c
    have q0 := XR.out.c 0 _ rfl
    have q1 := XR.out.c 1 _ rfl
    have q2 := XR.out.c 2 _ rfl
    have qf := XR.out.fz
    clear hs HS hd
    go_wp2_with fail
    obtain ⟨w9, rfl⟩ : ∃ x, x = w6 := ⟨_, rfl⟩
    have B9 := B6
    change bodyPost _ _ _ _ _ (World.setCells w9 (w.heap.size + 1 + 1) 0 [.int .i64 0, .int .i32 0, .int .i32 0])
    have RB := (XR.out.set [.int .i64 0, .int .i32 0, .int .i32 0] rfl)
    have BZ := bel_setCells (b := w.heap.size + 1 + 1) (by omega) [.int .i64 0, .int .i32 0, .int .i32 0] 0 _ B9.out
    have r0 := RB.c 0 _ rfl
    have r1 := RB.c 1 _ rfl
    have r2 := RB.c 2 _ rfl
    generalize World.setCells w9 (w.heap.size + 1 + 1) 0 [.int .i64 0, .int .i32 0, .int .i32 0] = wz at *
    refine bodyPost_ret (v := .tuple #[.agg #[.int .i64 0, .int .i32 0, .int .i32 0], .bool false, .int .i64 2]) (by simp [results, Try.results25, go_sem, r0, r1, r2]) rfl ⟨?_, BZ⟩
    rw [SEQ.out]
    all_goals rfl
  have h0 : chkdE cs is [t] = 0 := by unfold chkdE; rw [if_pos H0.out, if_pos (by simp [hs])]
  have HS0 : Hid (S = if chkI x = 0 then (match atK is x.key with
    | some y => if y.nd = x.nd ∧ y.nu = x.nu then (y.at_, false, 0) else (zeroS, true, 0)
    | none => if less (flF cs x.key t cs.length) x.at_ then (x.at_, false, 0) else (nextS (flF cs x.key t cs.length) x.at_.tag, false, nextE (flF cs x.key t cs.length) x.at_.tag)) else (zeroS, false, chkI x)) := Lib.hid (by rw [HS.out]; unfold wrT; rw [if_pos h0]; rfl)
  rw [chk_ok hs]
  clear h0 HS hs
  have y0 := X6.out.a.c 0 _ rfl
  have y1 := X6.out.a.c 1 _ rfl
  have y2 := X6.out.a.c 2 _ rfl
  have y3 := X6.out.a.c 3 _ rfl
  have y4 := X6.out.a.c 4 _ rfl
  have y5 := X6.out.a.c 5 _ rfl
  have y6 := X6.out.a.c 6 _ rfl
  have y7 := X6.out.a.c 7 _ rfl
  have y8 := X6.out.a.c 8 _ rfl
  have y9 := X6.out.a.c 9 _ rfl
  have y10 := X6.out.a.c 10 _ rfl
  have y11 := X6.out.a.c 11 _ rfl
  go_wp2_with fail
  refine (HCI.out w6).mono ?_
  rintro e w7 ⟨rfl, hb7⟩
  have X7 := Lib.hid (X6.out.next hb7)
  have B7 := Lib.hid (B6.out.trans (hb7.mono B6.out.size))
  have hz7 : w.heap.size + 1 + 1 < w7.heap.size := by have := hb7.size; omega
  clear hb7 X6 B6 hz6 y0 y1 y2 y3 y4 y5 y6 y7 y8 y9 y10 y11 HCI
  by_cases h0 : chkI x = 0
  case neg =>
    obtain ⟨E, hE⟩ : ∃ E, E = chkI x := ⟨_, rfl⟩
    have SEQ : Hid (S = (zeroS, false, E)) := Lib.hid (by rw [HS0.out, if_neg h0, hE])
    rw [← hE] at h0 ⊢
    have e1 : (E != 0) = true := by simpa using h0
    have XR := Lib.hid X7.out.c
    have q0 := XR.out.c 0 _ rfl
    have q1 := XR.out.c 1 _ rfl
    have q2 := XR.out.c 2 _ rfl
    have qf := XR.out.fz
    clear hE h0 HS0
    go_wp2_with fail
    obtain ⟨w9, rfl⟩ : ∃ x, x = w7 := ⟨_, rfl⟩
    have B9 := B7
    change bodyPost _ _ _ _ _ (World.setCells w9 (w.heap.size + 1 + 1) 0 [.int .i64 0, .int .i32 0, .int .i32 0])
    have RB := (XR.out.set [.int .i64 0, .int .i32 0, .int .i32 0] rfl)
    have BZ := bel_setCells (b := w.heap.size + 1 + 1) (by omega) [.int .i64 0, .int .i32 0, .int .i32 0] 0 _ B9.out
    have r0 := RB.c 0 _ rfl
    have r1 := RB.c 1 _ rfl
    have r2 := RB.c 2 _ rfl
    generalize World.setCells w9 (w.heap.size + 1 + 1) 0 [.int .i64 0, .int .i32 0, .int .i32 0] = wz at *
    refine bodyPost_ret (v := .tuple #[.agg #[.int .i64 0, .int .i32 0, .int .i32 0], .bool false, .int .i64 E]) (by simp [results, Try.results25, go_sem, r0, r1, r2]) rfl ⟨?_, BZ⟩
    rw [SEQ.out]
    all_goals rfl
  have HS1 : Hid (S = match atK is x.key with
    | some y => if y.nd = x.nd ∧ y.nu = x.nu then (y.at_, false, 0) else (zeroS, true, 0)
    | none => if less (flF cs x.key t cs.length) x.at_ then (x.at_, false, 0) else (nextS (flF cs x.key t cs.length) x.at_.tag, false, nextE (flF cs x.key t cs.length) x.at_.tag)) := Lib.hid (by rw [HS0.out, if_pos h0])
  rw [h0]
  clear h0 HS0
  have R7 := Lib.hid (HR.out.below (B7.out.mono hB))
  have R72 := Lib.hid (HR2.out.below (B7.out.mono hB))
  clear HR2
  go_wp2_with fail
  go_loopw [12] (fun s12 wr => ∃ (i : Nat), s12 = .int .i64 (i : Int) ∧ i ≤ m ∧ Hid (noK is x.key i) ∧ Hid (Below w7.heap.size w7 wr)) (fun s12 _ => m - (intOf s12).toNat)
  case atStart => exact ⟨0, rfl, Nat.zero_le _, Lib.hid (fun j a h => by omega), Lib.hid (Below.refl _ _)⟩
  case round =>
    obtain ⟨i, rfl, hi, HN, hB1⟩ := hrel
    obtain ⟨w2, rfl⟩ : ∃ x, x = wr := ⟨_, rfl⟩
    have hz2 : w.heap.size + 1 + 1 < w2.heap.size := by have := hB1.out.size; omega
    have X2 := Lib.hid (X7.out.next hB1.out)
    have B2 := Lib.hid (B7.out.trans (hB1.out.mono B7.out.size))
    by_cases hlt : i < m
    · obtain ⟨y, hy⟩ : ∃ y, is[i]? = some y := ⟨_, List.getElem?_eq_getElem (by rw [HL2.out]; exact hlt)⟩
      obtain ⟨b, off, rfl, hb, hce⟩ := it_at R72.out hy
      obtain ⟨d0, d1, d2, d3, d4, d5, d6, d7, d8, d9, d10, d11⟩ := hce.below (Nat.lt_of_lt_of_le hb (by omega)) hB1.out
      have HY := Lib.hid hy
      have i1 : (i : Int) < (m : Int) := by omega
      have x0 := X2.out.a.c 0 _ rfl
      have x1 := X2.out.a.c 1 _ rfl
      have x2 := X2.out.a.c 2 _ rfl
      have zz0 : w.heap.size < w2.heap.size := by omega
      have zz2 : w.heap.size + 1 + 1 < w2.heap.size := by omega
      have zzb : b < w2.heap.size := by have := hB1.out.size; omega
      have i0 : (0 : Int) ≤ (i : Int) := by omega
      clear hce hy
      by_cases q0 : y.key = x.key
      · have g0 : (y.key.toList == x.key.toList) = true := by rw [str_eq, decide_eq_true q0]
        have HK := Lib.hid q0
        clear q0
        by_cases q1 : y.nd = x.nd
        · have g1 : (y.nd == x.nd) = true := by simpa using q1
          by_cases q2 : y.nu = x.nu
          · have g2 : (y.nu == x.nu) = true := by simpa using q2
            have SEQ : Hid (S = (y.at_, false, 0)) := Lib.hid (by rw [HS1.out, atK_some HN.out HY.out HK.out]; exact if_pos ⟨q1, q2⟩)
            clear q1 q2
            go_wp2_with fail
            refine wp_qall (by kernel_rfl) (by kernel_rfl) ?_
            intro hcg
            repeat (first | go_big_quiet_step (fail) | quiet_step (fail))
            refine wpQuiet_nil ?_
            intro wq hbwq hcwq hfwq
            clear hcg
            have X8 := Lib.hid (X2.out.next hbwq)
            have B8 := Lib.hid (B2.out.trans (hbwq.mono B2.out.size))
            have c0 := (hcwq _ _ zzb).trans d0
            have c7 := (hcwq _ _ zzb).trans d7
            have c8 := (hcwq _ _ zzb).trans d8
            have c9 := (hcwq _ _ zzb).trans d9
            have u0 := X8.out.a.c 0 _ rfl
            have v0 := X8.out.a.lt
            have vb := Nat.lt_of_lt_of_le zzb hbwq.size
            clear hbwq hcwq hfwq
            go_wp2_with fail
            refine wp_qall (by kernel_rfl) (by kernel_rfl) ?_
            intro hcg
            repeat (first | go_big_quiet_step (fail) | quiet_step (fail))
            refine wpQuiet_nil ?_
            intro wr2 hbwr2 hcwr2 hfwr2
            clear hcg
            have X9 := Lib.hid (X8.out.next hbwr2)
            have B9 := Lib.hid (B8.out.trans (hbwr2.mono B8.out.size))
            have f7 := (hcwr2 _ _ vb).trans c7
            have f8 := (hcwr2 _ _ vb).trans c8
            have f9 := (hcwr2 _ _ vb).trans c9
            clear hbwr2 hcwr2 hfwr2 X8 B8 c0 c7 c8 c9 u0 v0
            obtain ⟨w9, rfl⟩ : ∃ x, x = wr2 := ⟨_, rfl⟩
            have XR := Lib.hid X9.out.c
            have q0 := XR.out.c 0 _ rfl
            have q1 := XR.out.c 1 _ rfl
            have q2 := XR.out.c 2 _ rfl
            have qf := XR.out.fz
            go_wp2_with fail
            change bodyPost _ _ _ _ _ (World.setCells w9 (w.heap.size + 1 + 1) 0 [.int .i64 y.at_.wall, .int .i32 y.at_.logic, .int .i32 y.at_.tag])
            have RB := (XR.out.set [.int .i64 y.at_.wall, .int .i32 y.at_.logic, .int .i32 y.at_.tag] rfl)
            have BZ := bel_setCells (b := w.heap.size + 1 + 1) (by omega) [.int .i64 y.at_.wall, .int .i32 y.at_.logic, .int .i32 y.at_.tag] 0 _ B9.out
            have r0 := RB.c 0 _ rfl
            have r1 := RB.c 1 _ rfl
            have r2 := RB.c 2 _ rfl
            generalize World.setCells w9 (w.heap.size + 1 + 1) 0 [.int .i64 y.at_.wall, .int .i32 y.at_.logic, .int .i32 y.at_.tag] = wz at *
            refine bodyPost_ret (v := .tuple #[.agg #[.int .i64 y.at_.wall, .int .i32 y.at_.logic, .int .i32 y.at_.tag], .bool false, .int .i64 0]) (by simp [results, Try.results25, go_sem, r0, r1, r2]) rfl ⟨?_, BZ⟩
            rw [SEQ.out]
            all_goals rfl
          · have g2 : (y.nu == x.nu) = false := by simpa using q2
            have hne : Hid (¬ (y.nd = x.nd ∧ y.nu = x.nu)) := Lib.hid (fun e => q2 e.2)
            clear q1 q2
            have SEQ : Hid (S = (zeroS, true, 0)) := Lib.hid (by rw [HS1.out, atK_some HN.out HY.out HK.out]; exact if_neg hne.out)
            go_wp2_with fail
            refine wp_qall (by kernel_rfl) (by kernel_rfl) ?_
            intro hcg
            repeat (first | go_big_quiet_step (fail) | quiet_step (fail))
            refine wpQuiet_nil ?_
            intro wq hbwq hcwq hfwq
            clear hcg
            have X9 := Lib.hid (X2.out.next hbwq)
            have B9 := Lib.hid (B2.out.trans (hbwq.mono B2.out.size))
            clear hbwq hcwq hfwq
            obtain ⟨w9, rfl⟩ : ∃ x, x = wq := ⟨_, rfl⟩
            have XR := Lib.hid X9.out.c
            have q0 := XR.out.c 0 _ rfl
            have q1 := XR.out.c 1 _ rfl
            have q2 := XR.out.c 2 _ rfl
            have qf := XR.out.fz
            go_wp2_with fail
            change bodyPost _ _ _ _ _ (World.setCells w9 (w.heap.size + 1 + 1) 0 [.int .i64 0, .int .i32 0, .int .i32 0])
            have RB := (XR.out.set [.int .i64 0, .int .i32 0, .int .i32 0] rfl)
            have BZ := bel_setCells (b := w.heap.size + 1 + 1) (by omega) [.int .i64 0, .int .i32 0, .int .i32 0] 0 _ B9.out
            have r0 := RB.c 0 _ rfl
            have r1 := RB.c 1 _ rfl
            have r2 := RB.c 2 _ rfl
            generalize World.setCells w9 (w.heap.size + 1 + 1) 0 [.int .i64 0, .int .i32 0, .int .i32 0] = wz at *
            refine bodyPost_ret (v := .tuple #[.agg #[.int .i64 0, .int .i32 0, .int .i32 0], .bool true, .int .i64 0]) (by simp [results, Try.results25, go_sem, r0, r1, r2]) rfl ⟨?_, BZ⟩
            rw [SEQ.out]
            all_goals rfl
        · have g1 : (y.nd == x.nd) = false := by simpa using q1
          have hne : Hid (¬ (y.nd = x.nd ∧ y.nu = x.nu)) := Lib.hid (fun e => q1 e.1)
          clear q1
          have SEQ : Hid (S = (zeroS, true, 0)) := Lib.hid (by rw [HS1.out, atK_some HN.out HY.out HK.out]; exact if_neg hne.out)
          go_wp2_with fail
          refine wp_qall (by kernel_rfl) (by kernel_rfl) ?_
          intro hcg
          repeat (first | go_big_quiet_step (fail) | quiet_step (fail))
          refine wpQuiet_nil ?_
          intro wq hbwq hcwq hfwq
          clear hcg
          have X9 := Lib.hid (X2.out.next hbwq)
          have B9 := Lib.hid (B2.out.trans (hbwq.mono B2.out.size))
          clear hbwq hcwq hfwq
          obtain ⟨w9, rfl⟩ : ∃ x, x = wq := ⟨_, rfl⟩
          have XR := Lib.hid X9.out.c
          have q0 := XR.out.c 0 _ rfl
          have q1 := XR.out.c 1 _ rfl
          have q2 := XR.out.c 2 _ rfl
          have qf := XR.out.fz
          go_wp2_with fail
          change bodyPost _ _ _ _ _ (World.setCells w9 (w.heap.size + 1 + 1) 0 [.int .i64 0, .int .i32 0, .int .i32 0])
          have RB := (XR.out.set [.int .i64 0, .int .i32 0, .int .i32 0] rfl)
          have BZ := bel_setCells (b := w.heap.size + 1 + 1) (by omega) [.int .i64 0, .int .i32 0, .int .i32 0] 0 _ B9.out
          have r0 := RB.c 0 _ rfl
          have r1 := RB.c 1 _ rfl
          have r2 := RB.c 2 _ rfl
          generalize World.setCells w9 (w.heap.size + 1 + 1) 0 [.int .i64 0, .int .i32 0, .int .i32 0] = wz at *
          refine bodyPost_ret (v := .tuple #[.agg #[.int .i64 0, .int .i32 0, .int .i32 0], .bool true, .int .i64 0]) (by simp [results, Try.results25, go_sem, r0, r1, r2]) rfl ⟨?_, BZ⟩
          rw [SEQ.out]
          all_goals rfl
      · have g0 : (y.key.toList == x.key.toList) = false := by rw [str_eq, decide_eq_false q0]
        have HN2 := Lib.hid (noK_succ HN.out HY.out q0)
        clear q0
        go_wp2_with fail
        refine wp_qall (by kernel_rfl) (by kernel_rfl) ?_
        intro hcg
        repeat (first | go_big_quiet_step (fail) | quiet_step (fail))
        refine wpQuiet_nil ?_
        intro wq hbwq hcwq hfwq
        clear hcg
        have X8 := Lib.hid (X2.out.next hbwq)
        have B8 := Lib.hid (hB1.out.trans (hbwq.mono hB1.out.size))
        have c0 := (hcwq _ _ zzb).trans d0
        have u0 := X8.out.a.c 0 _ rfl
        have v0 := X8.out.a.lt
        have vb := Nat.lt_of_lt_of_le zzb hbwq.size
        clear hbwq hcwq hfwq X2 B2
        go_wp2_with fail
        refine wp_qall (by kernel_rfl) (by kernel_rfl) ?_
        intro hcg
        repeat (first | go_big_quiet_step (fail) | quiet_step (fail))
        refine wpQuiet_nil ?_
        intro wr2 hbwr2 hcwr2 hfwr2
        clear hcg
        have B9 := Lib.hid (B8.out.trans (hbwr2.mono B8.out.size))
        clear hbwr2 hcwr2 hfwr2 X8 B8 c0 u0 v0 vb
        go_wp2_with fail
        go_roundw
        case rel => exact ⟨i + 1, by go_num, by omega, HN2, B9⟩
        case measure => simp [intOf]; omega
    · have i1 : ¬ (i : Int) < (m : Int) := by omega
      have HS2 : Hid (S = if less (flF cs x.key t cs.length) x.at_ then (x.at_, false, 0) else (nextS (flF cs x.key t cs.length) x.at_.tag, false, nextE (flF cs x.key t cs.length) x.at_.tag)) := Lib.hid (by rw [HS1.out, atK_none HN.out (by rw [HL2.out]; omega)])
      clear HN HS1 hlt R7 R72 X7 B7 hB1
      go_wp2_with fail
      go_loopw [13] (fun s13 wr => ∃ (i : Nat), s13 = .int .i64 (i : Int) ∧ i ≤ n ∧ Hid (WrB wr w.heap.size x (flF cs x.key t i)) ∧ Hid (Below w.heap.size w wr)) (fun s13 _ => n - (intOf s13).toNat)
      case atStart => exact ⟨0, rfl, Nat.zero_le _, X2, B2⟩
      case round =>
        obtain ⟨i', rfl, hi', HP, hB3⟩ := hrel
        obtain ⟨w3, rfl⟩ : ∃ x, x = wr := ⟨_, rfl⟩
        clear X2 B2 hz2
        have hz3 : w.heap.size + 1 + 1 < w3.heap.size := HP.out.c.lt
        by_cases hlt2 : i' < n
        · obtain ⟨y, hy⟩ : ∃ y, cs[i']? = some y := ⟨_, List.getElem?_eq_getElem (by rw [HL.out]; exact hlt2)⟩
          obtain ⟨b, off, rfl, hb, hce⟩ := ce_at HR.out hy
          have hbw : b < w.heap.size := Nat.lt_of_lt_of_le hb hB
          obtain ⟨d0, d1, d2, d3, d4, d5⟩ := hce.below hbw hB3.out
          have HY := Lib.hid hy
          have k1 : (i' : Int) < (n : Int) := by omega
          have k0 : (0 : Int) ≤ (i' : Int) := by omega
          have x0 := HP.out.a.c 0 _ rfl
          have zz0 : w.heap.size < w3.heap.size := by omega
          have zz1 : w.heap.size + 1 < w3.heap.size := by omega
          have zzb : b < w3.heap.size := by omega
          clear hce hy
          by_cases q0 : y.key = x.key
          · have g0 : (y.key.toList == x.key.toList) = true := by rw [str_eq, decide_eq_true q0]
            have HF := Lib.hid (flF_yes (fl := t) HY.out q0)
            clear q0
            generalize flF cs x.key t i' = fl at *
            go_wp2_with fail
            refine wp_qall (by kernel_rfl) (by kernel_rfl) ?_
            intro hcg
            repeat (first | go_big_quiet_step (fail) | quiet_step (fail))
            refine wpQuiet_nil ?_
            intro wq hbwq hcwq hfwq
            clear hcg
            have P5 := Lib.hid (HP.out.next hbwq)
            have B5 := Lib.hid (hB3.out.trans (hbwq.mono hB3.out.size))
            have c1 := (hcwq _ _ zzb).trans d1
            have c2' := (hcwq _ _ zzb).trans d2
            have c3 := (hcwq _ _ zzb).trans d3
            have u0 := P5.out.b.c 0 _ rfl
            have u1 := P5.out.b.c 1 _ rfl
            have u2 := P5.out.b.c 2 _ rfl
            have v1 := P5.out.b.lt
            have vb := Nat.lt_of_lt_of_le zzb hbwq.size
            clear hbwq hcwq hfwq HP hB3 d0 d1 d2 d3 d4 d5 x0 zz0 zz1 zzb
            have HMX := Lib.hid (rmax_any fl y.at_)
            go_wp2_with fail
            refine wp_qtail 7 (by kernel_rfl) (by kernel_rfl) ?_
            intro hcg
            simp only [List.take_succ_cons, List.take_zero, List.drop_succ_cons, List.drop_zero]
            repeat (first | go_big_quiet_step ((with_reducible (exact Calls.reg (HMX.out _)))) | quiet_step ((with_reducible (exact Calls.reg (HMX.out _)))))
            refine wpQuiet_nil ?_
            intro wt hbwt hcwt hfwt
            clear hcg
            have P6 := P5.out.next hbwt
            have B6' := B5.out.trans (hbwt.mono B5.out.size)
            clear hbwt hcwt hfwt HMX P5 B5 c1 c2' c3 u0 u1 u2 v1 vb
            have P9 : Hid (WrB (World.setCells wt (w.heap.size + 1) 0 (spc (maxS fl y.at_))) w.heap.size x (flF cs x.key t (i' + 1))) := Lib.hid (by rw [HF.out]; exact ⟨P6.a.other (by omega) _ _, P6.b.set _ rfl, P6.c.other (by omega) _ _⟩)
            have B9 : Hid (Below w.heap.size w (World.setCells wt (w.heap.size + 1) 0 (spc (maxS fl y.at_)))) := Lib.hid (bel_setCells (by omega) _ 0 _ B6')
            have v0 := P6.b.c 0 _ rfl
            have v1 := P6.b.c 1 _ rfl
            have v2 := P6.b.c 2 _ rfl
            have vf := P6.b.fz
            clear P6 B6'
            go_wp2_with fail
            go_roundw
            case rel => exact ⟨i' + 1, by go_num, by omega, P9, B9⟩
            case measure => simp [intOf]; omega
          · have g0 : (y.key.toList == x.key.toList) = false := by rw [str_eq, decide_eq_false q0]
            have HF := Lib.hid (flF_no (fl := t) HY.out q0)
            clear q0
            go_wp2_with fail
            refine wp_qall (by kernel_rfl) (by kernel_rfl) ?_
            intro hcg
            repeat (first | go_big_quiet_step (fail) | quiet_step (fail))
            refine wpQuiet_nil ?_
            intro wq hbwq hcwq hfwq
            clear hcg
            have P9 : Hid (WrB wq w.heap.size x (flF cs x.key t (i' + 1))) := Lib.hid (by rw [HF.out]; exact HP.out.next hbwq)
            have B9 := Lib.hid (hB3.out.trans (hbwq.mono hB3.out.size))
            clear hbwq hcwq hfwq HP hB3
            go_wp2_with fail
            go_roundw
            case rel => exact ⟨i' + 1, by go_num, by omega, P9, B9⟩
            case measure => simp [intOf]; omega
        · have k1 : ¬ (i' : Int) < (n : Int) := by omega
          have hin : cs.length = i' := by rw [HL.out]; omega
          rw [hin] at HS2
          generalize flF cs x.key t i' = fl at *
          have y7 := HP.out.a.c 7 _ rfl
          have y8 := HP.out.a.c 8 _ rfl
          have y9 := HP.out.a.c 9 _ rfl
          have u0 := HP.out.b.c 0 _ rfl
          have u1 := HP.out.b.c 1 _ rfl
          have u2 := HP.out.b.c 2 _ rfl
          clear hin hlt2
          go_wp2_with fail
          refine (rless_any fl x.at_ _).mono ?_
          rintro e w4 ⟨rfl, hb4⟩
          have P4 := Lib.hid (HP.out.next hb4)
          have B4 := Lib.hid (hB3.out.trans (hb4.mono hB3.out.size))
          have hz4 : w.heap.size + 1 + 1 < w4.heap.size := by have := hb4.size; omega
          clear hb4 u0 u1 u2 y7 y8 y9 HP hB3
          cases k2 : less fl x.at_
          · have SEQ : Hid (S = (nextS fl x.at_.tag, false, nextE fl x.at_.tag)) := Lib.hid (by rw [HS2.out, k2]; rfl)
            have y9 := P4.out.a.c 9 _ rfl
            have u0 := P4.out.b.c 0 _ rfl
            have u1 := P4.out.b.c 1 _ rfl
            have u2 := P4.out.b.c 2 _ rfl
            clear k2 HS2
            go_wp2_with fail
            refine (rnext_any fl x.at_.tag _).mono ?_
            rintro e w5 ⟨rfl, hb5⟩
            have P5 := Lib.hid (P4.out.next hb5)
            have B5 := Lib.hid (B4.out.trans (hb5.mono B4.out.size))
            have hz5 : w.heap.size + 1 + 1 < w5.heap.size := by have := hb5.size; omega
            clear hb5 y9 u0 u1 u2 P4 B4 hz4
            generalize nextS fl x.at_.tag = u at *
            generalize nextE fl x.at_.tag = E at *
            have P8 := Lib.hid (P5.out.next ((Below.refl w5.heap.size w5).alloc (Nat.le_refl _) (.cells #[.int .i64 u.wall, .int .i32 u.logic, .int .i32 u.tag] 25)))
            have U8 : Hid (BxV (w5.alloc (.cells #[.int .i64 u.wall, .int .i32 u.logic, .int .i32 u.tag] 25)) w5.heap.size (spc u)) := Lib.hid (BxV.new _ _ _)
            have B8 := Lib.hid (B5.out.alloc B5.out.size (.cells #[.int .i64 u.wall, .int .i32 u.logic, .int .i32 u.tag] 25))
            clear P5 B5
            go_upto_region 24 with (fail)
            generalize w5.alloc (.cells #[.int .i64 u.wall, .int .i32 u.logic, .int .i32 u.tag] 25) = w9 at *
            generalize w5.heap.size = pu at *
            have B9 := B8
            have XR := Lib.hid P8.out.c
            have q0 := XR.out.c 0 _ rfl
            have q1 := XR.out.c 1 _ rfl
            have q2 := XR.out.c 2 _ rfl
            have qf := XR.out.fz
            have u0 := U8.out.c 0 _ rfl
            have u1 := U8.out.c 1 _ rfl
            have u2 := U8.out.c 2 _ rfl
            go_wp2_with fail
            change bodyPost _ _ _ _ _ (World.setCells w9 (w.heap.size + 1 + 1) 0 [.int .i64 u.wall, .int .i32 u.logic, .int .i32 u.tag])
            have RB := (XR.out.set [.int .i64 u.wall, .int .i32 u.logic, .int .i32 u.tag] rfl)
            have BZ := bel_setCells (b := w.heap.size + 1 + 1) (by omega) [.int .i64 u.wall, .int .i32 u.logic, .int .i32 u.tag] 0 _ B9.out
            have r0 := RB.c 0 _ rfl
            have r1 := RB.c 1 _ rfl
            have r2 := RB.c 2 _ rfl
            generalize World.setCells w9 (w.heap.size + 1 + 1) 0 [.int .i64 u.wall, .int .i32 u.logic, .int .i32 u.tag] = wz at *
            refine bodyPost_ret (v := .tuple #[.agg #[.int .i64 u.wall, .int .i32 u.logic, .int .i32 u.tag], .bool false, .int .i64 E]) (by simp [results, Try.results25, go_sem, r0, r1, r2]) rfl ⟨?_, BZ⟩
            rw [SEQ.out]
            all_goals rfl
          · have SEQ : Hid (S = (x.at_, false, 0)) := Lib.hid (by rw [HS2.out, k2]; rfl)
            have y7 := P4.out.a.c 7 _ rfl
            have y8 := P4.out.a.c 8 _ rfl
            have y9 := P4.out.a.c 9 _ rfl
            have XR := Lib.hid P4.out.c
            have q0 := XR.out.c 0 _ rfl
            have q1 := XR.out.c 1 _ rfl
            have q2 := XR.out.c 2 _ rfl
            have qf := XR.out.fz
            clear k2 HS2
            go_wp2_with fail
            obtain ⟨w9, rfl⟩ : ∃ x, x = w4 := ⟨_, rfl⟩
            have B9 := B4
            change bodyPost _ _ _ _ _ (World.setCells w9 (w.heap.size + 1 + 1) 0 [.int .i64 x.at_.wall, .int .i32 x.at_.logic, .int .i32 x.at_.tag])
            have RB := (XR.out.set [.int .i64 x.at_.wall, .int .i32 x.at_.logic, .int .i32 x.at_.tag] rfl)
            have BZ := bel_setCells (b := w.heap.size + 1 + 1) (by omega) [.int .i64 x.at_.wall, .int .i32 x.at_.logic, .int .i32 x.at_.tag] 0 _ B9.out
            have r0 := RB.c 0 _ rfl
            have r1 := RB.c 1 _ rfl
            have r2 := RB.c 2 _ rfl
            generalize World.setCells w9 (w.heap.size + 1 + 1) 0 [.int .i64 x.at_.wall, .int .i32 x.at_.logic, .int .i32 x.at_.tag] = wz at *
            refine bodyPost_ret (v := .tuple #[.agg #[.int .i64 x.at_.wall, .int .i32 x.at_.logic, .int .i32 x.at_.tag], .bool false, .int .i64 0]) (by simp [results, Try.results25, go_sem, r0, r1, r2]) rfl ⟨?_, BZ⟩
            rw [SEQ.out]
            all_goals rfl
end Go.Proofs.Ytgikaglmeeeplaa
