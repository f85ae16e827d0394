/- The walk: what is committed or aborted stays so for ever. -/
import Derived.Test.YthigmjcepbgljaaRI
namespace Go.Proofs.Ythigmjcepbgljaa
open Go.RowKit Go.St
set_option linter.unusedVariables false
set_option linter.unusedSimpArgs false
set_option maxRecDepth 100000

set_option maxHeartbeats 12800000 in
theorem recordFinal_walk (w : World) (nd nu wall : Int) (A : Option Addr) (n c : Nat) (l : List StepL) (hl : l.length = n) (hc : n ≤ c) (hn : c ≤ 140737488351232) (hin : ∀ a ∈ l, InSt w a ∧ a.c * 16 ≤ 140737488351232) (hr : Rd w w.heap.size A (l.map stepCells).flatten) :
    Calls Try.prog 10 #[.agg #[.int .i32 nd, .int .i32 nu], .int .i64 wall, .slice A n c] w fun e w' => e = .returned (.bool true) ∧ Below w.heap.size w w' := by
  have HL := Lib.hid hl; have HR := Lib.hid hr; have HI := Lib.hid hin
  have HF := Lib.hid (fresh_facts nd nu wall)
  have HFC := Lib.hid (fun W => fresh_any nd nu wall W)
  clear hl hr hin
  go_enter Try.func10, Try.ntmps10
  go_wp2_with fail
  refine (lives22_any _).mono ?_
  rintro e w1 ⟨rfl, hb⟩
  have T1 := (BxT.new w nd nu 24).next hb
  have P1 : Hid (Below w.heap.size w w1) := Below.go (by go_grown) hb (by go_size)
  clear hb
  obtain ⟨t0, t1, t2, t3⟩ := T1
  go_wp2_with fail
  refine (HFC.out _).mono ?_
  rintro e w2 ⟨A2, c2, rfl, hk, hb⟩
  have P2 : Hid (Below w.heap.size w w2) := Below.go P1.out hb P1.out.size
  have Q2 := Lib.hid (BxQ.new w2 zeR 30)
  have R2 := Lib.hid (hk.mono P1.out.size)
  have hs1 : w.heap.size < w1.heap.size := t0
  have hs12 := hb.size
  clear hb hk t0 t1 t2 t3 HFC
  rcases HF.out with ⟨hE, hO⟩ | ⟨hE, hC, hFt, hSt, hL0⟩
  · clear HF
    rw [hO]
    rw [hO] at R2
    generalize freshE nd nu wall = E at *
    have hne : (E == 0) = false := by simpa using hE
    have hne2 : (E != 0) = true := by rw [bne, hne]; rfl
    clear hO
    obtain ⟨z0, z1, z2, z3, z4, z5, z6, z7, z8, z9, z10, z11, z12⟩ := Q2.out
    have HSZ := Lib.hid (fun W => same_z A2 none c2 0 W)
    unfold Rec.to Rec.v zeR at HSZ
    unfold zeR at z2 z3 z4 z5 z6 z7 z8 z9 z10 z11 z12
    dsimp only at z2 z3 z4 z5 z6 z7 z8 z9 z10 z11 z12 HSZ
    unfold Rec.to Rec.v zeR
    dsimp only
    go_wp2_with fail
    refine (HSZ.out _).mono ?_
    rintro e w3 ⟨rfl, hb⟩
    have P3 : Hid (Below w.heap.size w w3) := by
      have hp := P2.out
      have hps := hp.size
      exact Below.go (by go_grown) hb (by go_size)
    clear hb
    go_wp2
    go_ret
    exact ⟨rfl, P3.out⟩
  · clear HF
    rw [hE]
    have hOf : freshO nd nu wall = frR nd nu wall := by
      show (if freshE nd nu wall = 0 then frR nd nu wall else zeR) = _
      rw [if_pos hE]
    obtain ⟨z0, z1, z2, z3, z4, z5, z6, z7, z8, z9, z10, z11, z12⟩ := Q2.out
    unfold zeR at z2 z3 z4 z5 z6 z7 z8 z9 z10 z11 z12
    dsimp only at z2 z3 z4 z5 z6 z7 z8 z9 z10 z11 z12
    by_cases h100 : n ≤ 100
    · skip
      generalize freshO nd nu wall = r0 at *
      have HX3 := Lib.hid (BxQ.new w2 (r0.to A2 c2) 30)
      have HST := Lib.hid hSt
      clear hOf hSt
      have i100 : ¬ ((100 : Int) < (n : Int)) := by omega
      unfold Rec.to Rec.v
      dsimp only
      go_wp2_with fail
      have LQ : Hid (LpQ w (w2.alloc (.cells #[.int .i32 r0.nd, .int .i32 r0.nu, .int .u8 r0.st, .int .i64 r0.at_.wall, .int .i32 r0.at_.logic, .int .i32 r0.at_.tag, .slice A2 r0.n c2, .int .i64 r0.beat, .int .i64 r0.pu.wall, .int .i32 r0.pu.logic, .int .i32 r0.pu.tag] 30)) w2.heap.size (r0.to A2 c2)) := by
        have hp := P2.out
        have hps := hp.size
        exact Lib.hid ⟨hp.alloc hps _, hps, HX3.out, (by show RdN _ _ _ (sv r0.l); rw [hL0]; exact RdN.nil), hFt, hC, fun h => absurd (h.symm.trans HST.out) (by decide)⟩
      generalize hw3 : w2.alloc (.cells #[.int .i32 r0.nd, .int .i32 r0.nu, .int .u8 r0.st, .int .i64 r0.at_.wall, .int .i32 r0.at_.logic, .int .i32 r0.at_.tag, .slice A2 r0.n c2, .int .i64 r0.beat, .int .i64 r0.pu.wall, .int .i32 r0.pu.logic, .int .i32 r0.pu.tag] 30) = w3 at *
      generalize htb : w2.heap.size = tb at *
      clear hw3 htb HX3 Q2 R2 P2 P1 HST hL0 hC hFt hE hs1 hs12 z0 z1 z2 z3 z4 z5 z6 z7 z8 z9 z10 z11 z12
      go_loopw [9] (fun i wr => ∃ (k : Nat) (r : Rec), k ≤ n ∧ i = .int .i64 k ∧ Hid (LpQ w wr tb r)) (fun i _ => n - (intOf i).toNat)
      case atStart => exact ⟨0, r0.to A2 c2, Nat.zero_le _, rfl, LQ⟩
      case round =>
        obtain ⟨k, r, hk, rfl, Q⟩ := hrel
        clear LQ
        by_cases hlt : k < n
        · skip
          have hkl : k < l.length := by rw [HL.out]; exact hlt
          obtain ⟨bb, off, rfl, hbb, T⟩ := step_at (HR.out.below Q.out.bel) Q.out.bel.size k l[k] (List.getElem?_eq_getElem hkl)
          have hia := HI.out l[k] (List.getElem_mem hkl)
          generalize l[k] = s at *
          have hkk := hia.1.1
          have SF := Lib.hid (step_facts r s Q.out.ft Q.out.chk Q.out.stg hia.1.2.2.1)
          have HN := Lib.hid (fun W (h : Below wr.heap.size wr W) => next_any r s Q.out.ft (by have := (chkR_zero Q.out.chk).1; omega) hia.1.2.2.1 (by have h1 := hia.1.2.2.2.1; have h2 := hia.2; omega) hia.1.1 wr.heap.size W (Q.out.n.rd.below h) (((hia.1.2.2.2.2.1.below Q.out.bel).more Q.out.bel.size).below h) h.size)
          generalize stepO r s = O at *
          generalize stepE r s = E at *
          have T := Lib.hid T
          have hwt : w.heap.size ≤ wr.heap.size := Q.out.bel.size
          have htl : tb < wr.heap.size := Q.out.x.lt
          clear hia
          have i1 : (k : Int) < (n : Int) := by omega
          have i0 : (0 : Int) ≤ (k : Int) := by omega
          unfold Rec.v stepV at HN
          go_upto_region 9 with (fail)
          go_cut [10, 11] from 36 to 152 (fun s10 s11 wc => ∃ b A9 c9 lo hi, s10 = .pointer (some ⟨b, 0, none⟩) ∧ s11 = .int .i64 E ∧ Hid (BxQ wc b (O.to A9 c9) ∧ RdB wc lo hi A9 (sv O.l) ∧ Below wr.heap.size wr wc ∧ wr.heap.size ≤ b ∧ wr.heap.size ≤ lo))
          case first =>
            refine wp_heldall (S := fun W => RFS W tb r bb (off + k * 6) s) 12 (by kernel_rfl) rfl (RFS.next ⟨Q.out.x, T.out⟩ (Below.drew (Below.refl _ _))) (fun hHeld => ?_)
            refine takeL (i := 0) (v := ?_) rfl (by kernel_rfl) (by kernel_rfl) (by kernel_rfl) (fun _ _ _ h => h) ⟨by rfl, ?_⟩ (by assumption) ?_
            rotate_left
            · intro W9 hSw
              (try dsimp only at hSw)
              obtain ⟨s0, s1, s2, s3, s4, s5, s6, s7, s8, s9, s10, s11, s12⟩ := hSw.x
              try dsimp only [Rec.to] at s2 s3 s4 s5 s6 s7 s8 s9 s10 s11 s12
              go_simp
              try with_reducible rfl
            (try simp only [Act.put, List.setIfInBounds_toArray, List.set_cons_zero, List.set_cons_succ])
            refine takeL (i := 1) (v := ?_) rfl (by kernel_rfl) (by kernel_rfl) (by kernel_rfl) (fun _ _ _ h => h) ⟨by rfl, ?_⟩ (by assumption) ?_
            rotate_left
            · intro W9 hSw
              (try dsimp only at hSw)
              go_simp
              try with_reducible rfl
            (try simp only [Act.put, List.setIfInBounds_toArray, List.set_cons_zero, List.set_cons_succ])
            refine takeL (i := 2) (v := ?_) rfl (by kernel_rfl) (by kernel_rfl) (by kernel_rfl) (fun _ _ _ h => h) ⟨by rfl, ?_⟩ (by assumption) ?_
            rotate_left
            · intro W9 hSw
              (try dsimp only at hSw)
              go_simp
              try with_reducible rfl
            (try simp only [Act.put, List.setIfInBounds_toArray, List.set_cons_zero, List.set_cons_succ])
            refine takeL (i := 3) (v := ?_) rfl (by kernel_rfl) (by kernel_rfl) (by kernel_rfl) (fun _ _ _ h => h) ⟨by rfl, ?_⟩ (by assumption) ?_
            rotate_left
            · intro W9 hSw
              (try dsimp only at hSw)
              go_simp
              try with_reducible rfl
            (try simp only [Act.put, List.setIfInBounds_toArray, List.set_cons_zero, List.set_cons_succ])
            refine takeL (i := 4) (v := ?_) rfl (by kernel_rfl) (by kernel_rfl) (by kernel_rfl) (fun _ _ _ h => h) ⟨by rfl, ?_⟩ (by assumption) ?_
            rotate_left
            · intro W9 hSw
              (try dsimp only at hSw)
              obtain ⟨s0, s1, s2, s3, s4, s5, s6⟩ := hSw.t
              go_simp
              try with_reducible rfl
            (try simp only [Act.put, List.setIfInBounds_toArray, List.set_cons_zero, List.set_cons_succ])
            have kX : Below wr.heap.size wr wr.drew := Below.drew (Below.refl _ _)
            have hX := hHeld
            clear hHeld
            generalize wr.drew = X at *
            refine wpAnyH_ready (rs := [5, 9]) (by kernel_rfl) (by simp) ?_
            refine consL rfl (by rfl) (fun K hK => ?_) ?_
            · skip
              go_simp
              go_at_call 54
              refine (HN.out X kX).mono ?_
              rintro e X2 ⟨A9, c9, rfl, hk9, hb⟩
              dsimp only [Rec.v, Rec.to]
              refine hK.out _ _ (hX.next hb) (fun hX' => ?_)
              clear hK K
              have kX2 : Below wr.heap.size wr X2 := kX.trans (hb.mono kX.size)
              have hr2 := hk9.rdb
              have hlw := kX.size
              obtain ⟨lo, hlo9⟩ : ∃ l, l = X.heap.size := ⟨_, rfl⟩
              obtain ⟨hi, hhi9⟩ : ∃ l, l = X2.heap.size := ⟨_, rfl⟩
              rw [← hlo9, ← hhi9] at hr2
              rw [← hlo9] at hlw
              clear kX hX hb hk9 hlo9 hhi9
              clear X
              obtain ⟨X, rfl⟩ : ∃ x, x = X2 := ⟨_, rfl⟩
              have kX := kX2; have hX := hX'; have hr := hr2; clear kX2 hX' hr2
              refine takeL (i := 6) (v := ?_) rfl (by kernel_rfl) (by kernel_rfl) (by kernel_rfl) (fun _ _ _ h => h) ⟨by rfl, ?_⟩ (by assumption) ?_
              rotate_left
              · intro W9 hSw
                (try dsimp only at hSw)
                go_simp
                try with_reducible rfl
              (try simp only [Act.put, List.setIfInBounds_toArray, List.set_cons_zero, List.set_cons_succ])
              refine takeL (i := 7) (v := ?_) rfl (by kernel_rfl) (by kernel_rfl) (by kernel_rfl) (fun _ _ _ h => h) ⟨by rfl, ?_⟩ (by assumption) ?_
              rotate_left
              · intro W9 hSw
                (try dsimp only at hSw)
                go_simp
                try with_reducible rfl
              (try simp only [Act.put, List.setIfInBounds_toArray, List.set_cons_zero, List.set_cons_succ])
              refine takeL (i := 8) (v := ?_) rfl (by kernel_rfl) (by kernel_rfl) (by kernel_rfl) (fun _ _ _ h => h) ⟨by rfl, ?_⟩ (by assumption) ?_
              rotate_left
              · intro W9 hSw
                (try dsimp only at hSw)
                go_simp
                try with_reducible rfl
              (try simp only [Act.put, List.setIfInBounds_toArray, List.set_cons_zero, List.set_cons_succ])
              refine wpAnyH_ready (rs := [9]) (by kernel_rfl) (by simp) ?_
              refine consL rfl (by rfl) (fun K hK => ?_) ?_
              · skip
                go_simp
                refine hK.out _ _ (hX.alloc _) (fun hX' => ?_)
                clear hK K
                have kX2 : Below wr.heap.size wr (X.alloc (.cells #[.int .i32 0, .int .i32 0, .int .u8 0, .int .i64 0, .int .i32 0, .int .i32 0, .slice none 0 0, .int .i64 0, .int .i64 0, .int .i32 0, .int .i32 0] 30)) := kX.alloc kX.size _
                have B2 : BxQ (X.alloc (.cells #[.int .i32 0, .int .i32 0, .int .u8 0, .int .i64 0, .int .i32 0, .int .i32 0, .slice none 0 0, .int .i64 0, .int .i64 0, .int .i32 0, .int .i32 0] 30)) X.heap.size zeR := BxQ.new X zeR 30
                have hbz : wr.heap.size ≤ X.heap.size := kX.size
                have hr2 := hr.next ((Below.refl X.heap.size X).alloc (Nat.le_refl _) (.cells #[.int .i32 0, .int .i32 0, .int .u8 0, .int .i64 0, .int .i32 0, .int .i32 0, .slice none 0 0, .int .i64 0, .int .i64 0, .int .i32 0, .int .i32 0] 30))
                have hlo : X.heap.size < lo ∨ hi ≤ X.heap.size := .inr hr.1
                clear kX hX hr
                generalize hX9 : X.alloc (.cells #[.int .i32 0, .int .i32 0, .int .u8 0, .int .i64 0, .int .i32 0, .int .i32 0, .slice none 0 0, .int .i64 0, .int .i64 0, .int .i32 0, .int .i32 0] 30) = X2 at *
                generalize hX8 : X.heap.size = nb at *
                clear hX9 hX8 X
                obtain ⟨X, rfl⟩ : ∃ x, x = X2 := ⟨_, rfl⟩
                have kX := kX2; have hX := hX'; have B := B2; clear kX2 hX' B2
                have hr := hr2; clear hr2
                refine wpAnyH_ready (rs := [10]) (by kernel_rfl) (by simp) ?_
                refine consL rfl (by rfl) (fun K hK => ?_) ?_
                · skip
                  have BB := Lib.hid B; have KX := Lib.hid kX; have HRR := Lib.hid hr; clear B kX hr
                  obtain ⟨z0, z1, z2, z3, z4, z5, z6, z7, z8, z9, z10, z11, z12⟩ := BB.out
                  try dsimp only [Rec.to] at z2 z3 z4 z5 z6 z7 z8 z9 z10 z11 z12
                  go_simp
                  refine hK.out _ (setR X nb (O.to A9 c9)) (hX.setO nb (by omega) (by omega) (O.to A9 c9)) (fun hX' => ?_)
                  clear hK K z0 z1 z2 z3 z4 z5 z6 z7 z8 z9 z10 z11 z12
                  refine takeL (i := 11) (v := ?_) rfl (by kernel_rfl) (by kernel_rfl) (by kernel_rfl) (fun _ _ _ h => h) ⟨by rfl, ?_⟩ (by assumption) ?_
                  rotate_left
                  · intro W9 hSw
                    (try dsimp only at hSw)
                    go_simp
                    try with_reducible rfl
                  (try simp only [Act.put, List.setIfInBounds_toArray, List.set_cons_zero, List.set_cons_succ])
                  refine wpAnyH_done (by kernel_rfl) ?_ _
                  clear hX hX'
                  go_wp2_with fail
                  go_meet
                  case rel =>
                    exact ⟨nb, A9, c9, lo, hi, rfl, rfl, Lib.hid ⟨BxQ.setR BB.out (O.to A9 c9), RdB.setRo HRR.out hlo (O.to A9 c9), bel_setR KX.out hbz (O.to A9 c9), hbz, hlw⟩⟩
                exact AllReadyH.nil
              exact AllReadyH.nil
            refine consL rfl (by rfl) (fun K hK => ?_) ?_
            · skip
              go_simp
              refine hK.out _ _ (hX.alloc _) (fun hX' => ?_)
              clear hK K
              have kX2 : Below wr.heap.size wr (X.alloc (.cells #[.int .i32 0, .int .i32 0, .int .u8 0, .int .i64 0, .int .i32 0, .int .i32 0, .slice none 0 0, .int .i64 0, .int .i64 0, .int .i32 0, .int .i32 0] 30)) := kX.alloc kX.size _
              have B2 : BxQ (X.alloc (.cells #[.int .i32 0, .int .i32 0, .int .u8 0, .int .i64 0, .int .i32 0, .int .i32 0, .slice none 0 0, .int .i64 0, .int .i64 0, .int .i32 0, .int .i32 0] 30)) X.heap.size zeR := BxQ.new X zeR 30
              have hbz : wr.heap.size ≤ X.heap.size := kX.size
              clear kX hX
              generalize hX9 : X.alloc (.cells #[.int .i32 0, .int .i32 0, .int .u8 0, .int .i64 0, .int .i32 0, .int .i32 0, .slice none 0 0, .int .i64 0, .int .i64 0, .int .i32 0, .int .i32 0] 30) = X2 at *
              generalize hX8 : X.heap.size = nb at *
              clear hX9 hX8 X
              obtain ⟨X, rfl⟩ : ∃ x, x = X2 := ⟨_, rfl⟩
              have kX := kX2; have hX := hX'; have B := B2; clear kX2 hX' B2
              refine wpAnyH_ready (rs := [5]) (by kernel_rfl) (by simp) ?_
              refine consL rfl (by rfl) (fun K hK => ?_) ?_
              · skip
                go_simp
                go_at_call 54
                refine (HN.out X kX).mono ?_
                rintro e X2 ⟨A9, c9, rfl, hk9, hb⟩
                dsimp only [Rec.v, Rec.to]
                refine hK.out _ _ (hX.next hb) (fun hX' => ?_)
                clear hK K
                have kX2 : Below wr.heap.size wr X2 := kX.trans (hb.mono kX.size)
                have hr2 := hk9.rdb
                have hlw := kX.size
                obtain ⟨lo, hlo9⟩ : ∃ l, l = X.heap.size := ⟨_, rfl⟩
                obtain ⟨hi, hhi9⟩ : ∃ l, l = X2.heap.size := ⟨_, rfl⟩
                rw [← hlo9, ← hhi9] at hr2
                rw [← hlo9] at hlw
                have B2 := B.next hb
                have hlo : nb < lo ∨ hi ≤ nb := .inl (by rw [hlo9]; exact B.lt)
                clear kX hX hb hk9 hlo9 hhi9 B
                clear X
                obtain ⟨X, rfl⟩ : ∃ x, x = X2 := ⟨_, rfl⟩
                have kX := kX2; have hX := hX'; have hr := hr2; clear kX2 hX' hr2
                have B := B2; clear B2
                refine takeL (i := 6) (v := ?_) rfl (by kernel_rfl) (by kernel_rfl) (by kernel_rfl) (fun _ _ _ h => h) ⟨by rfl, ?_⟩ (by assumption) ?_
                rotate_left
                · intro W9 hSw
                  (try dsimp only at hSw)
                  go_simp
                  try with_reducible rfl
                (try simp only [Act.put, List.setIfInBounds_toArray, List.set_cons_zero, List.set_cons_succ])
                refine takeL (i := 7) (v := ?_) rfl (by kernel_rfl) (by kernel_rfl) (by kernel_rfl) (fun _ _ _ h => h) ⟨by rfl, ?_⟩ (by assumption) ?_
                rotate_left
                · intro W9 hSw
                  (try dsimp only at hSw)
                  go_simp
                  try with_reducible rfl
                (try simp only [Act.put, List.setIfInBounds_toArray, List.set_cons_zero, List.set_cons_succ])
                refine takeL (i := 8) (v := ?_) rfl (by kernel_rfl) (by kernel_rfl) (by kernel_rfl) (fun _ _ _ h => h) ⟨by rfl, ?_⟩ (by assumption) ?_
                rotate_left
                · intro W9 hSw
                  (try dsimp only at hSw)
                  go_simp
                  try with_reducible rfl
                (try simp only [Act.put, List.setIfInBounds_toArray, List.set_cons_zero, List.set_cons_succ])
                refine wpAnyH_ready (rs := [10]) (by kernel_rfl) (by simp) ?_
                refine consL rfl (by rfl) (fun K hK => ?_) ?_
                · skip
                  have BB := Lib.hid B; have KX := Lib.hid kX; have HRR := Lib.hid hr; clear B kX hr
                  obtain ⟨z0, z1, z2, z3, z4, z5, z6, z7, z8, z9, z10, z11, z12⟩ := BB.out
                  try dsimp only [Rec.to] at z2 z3 z4 z5 z6 z7 z8 z9 z10 z11 z12
                  go_simp
                  refine hK.out _ (setR X nb (O.to A9 c9)) (hX.setO nb (by omega) (by omega) (O.to A9 c9)) (fun hX' => ?_)
                  clear hK K z0 z1 z2 z3 z4 z5 z6 z7 z8 z9 z10 z11 z12
                  refine takeL (i := 11) (v := ?_) rfl (by kernel_rfl) (by kernel_rfl) (by kernel_rfl) (fun _ _ _ h => h) ⟨by rfl, ?_⟩ (by assumption) ?_
                  rotate_left
                  · intro W9 hSw
                    (try dsimp only at hSw)
                    go_simp
                    try with_reducible rfl
                  (try simp only [Act.put, List.setIfInBounds_toArray, List.set_cons_zero, List.set_cons_succ])
                  refine wpAnyH_done (by kernel_rfl) ?_ _
                  clear hX hX'
                  go_wp2_with fail
                  go_meet
                  case rel =>
                    exact ⟨nb, A9, c9, lo, hi, rfl, rfl, Lib.hid ⟨BxQ.setR BB.out (O.to A9 c9), RdB.setRo HRR.out hlo (O.to A9 c9), bel_setR KX.out hbz (O.to A9 c9), hbz, hlw⟩⟩
                exact AllReadyH.nil
              exact AllReadyH.nil
            exact AllReadyH.nil
          case rest =>
            rename_i K9 HK9
            obtain ⟨nb, A9, c9, lo, hi, rfl, rfl, hh⟩ := hcut
            obtain ⟨hY, hR, hB, hnb, hlo⟩ := hh.out
            have Lw_0 := Lib.hid (Q.out.next hB)
            have Y_0 := Lib.hid hY
            have K_0 := Lib.hid hR
            have T_0 := Lib.hid (T.out.next hB)
            have HI9 : Hid (tb < nb ∧ tb + 1 ≤ lo) := Lib.hid ⟨by omega, by omega⟩
            obtain ⟨w0, rfl⟩ : ∃ x, x = wc := ⟨_, rfl⟩
            clear hh hY hR hB hnb hlo HN Q T htl hwt
            rcases SF.out with ⟨hE, hO⟩ | ⟨hE, hok⟩
            · skip
              subst hO
              obtain ⟨y0, y1, y2, y3, y4, y5, y6, y7, y8, y9, y10, y11, y12⟩ := Y_0.out
              try dsimp only [Rec.to] at y2 y3 y4 y5 y6 y7 y8 y9 y10 y11 y12
              unfold zeR at y2 y3 y4 y5 y6 y7 y8 y9 y10 y11 y12
              dsimp only at y2 y3 y4 y5 y6 y7 y8 y9 y10 y11 y12
              have hne : (E == 0) = false := by simpa using hE
              have hne2 : (E != 0) = true := by rw [bne, hne]; rfl
              have HSZ := Lib.hid (fun W => same_z A9 none c9 0 W)
              unfold Rec.to Rec.v zeR at HSZ
              dsimp only at HSZ
              go_wp2_with fail
              refine (HSZ.out _).mono ?_
              rintro e w1 ⟨rfl, hb⟩
              clear y0 y1 y2 y3 y4 y5 y6 y7 y8 y9 y10 y11 y12
              have Q1 := Lib.hid (Lw_0.out.next hb)
              clear hb HSZ
              go_wp2_with fail
              go_roundw
              case rel => exact ⟨k + 1, r, by omega, by go_num, Q1⟩
              case measure => first | (simp [intOf]; omega) | simp [intOf]
            · skip
              subst hE
              have hRs := st_of Lw_0.out.chk
              have hOs := st_of hok.chk
              rcases hRs with hRs | hRs | hRs | hRs
              · skip
                rcases hOs with hOs | hOs | hOs | hOs
                · skip
                  apply HK9
                  refine rf_ok_1_1 Lw_0 Y_0 K_0 T_0 HI9 hok hkk i0 i1 hRs hOs (Lib.hid ?_)
                  intro v6 v10 v11 v12 v13 v36 v37 v38 v39 v40 v41 v42 v43 v44 v45 v46 v47 v48 v49 v50 v51 v52 v53 v54 v55 v56 v57 v58 v59 v60 v61 v62 v63 v64 v65 v66 v67 v68 v69 v70 v71 v72 v73 v74 v75 v76 v77 v78 v79 v80 v81 v82 v83 v84 v85 v86 v87 v88 v89 v90 v91 v92 v93 v94 v95 v96 v97 v98 v99 v100 v101 v102 v103 v104 v105 v106 v107 v108 v109 v110 v111 v112 v113 v114 v115 v116 v117 v118 v119 v120 v121 v122 v123 v124 v125 v126 v127 v128 v129 v130 v131 v132 v133 v134 v135 v136 v137 v138 v139 v140 v141 v142 v143 v144 v145 v146 v147 v148 v149 v150 v151 v152 w9 r9 hL9
                  have HL9 := Lib.hid hL9
                  clear hL9
                  go_wp2_with fail
                  go_roundw
                  case rel => exact ⟨k + 1, r9, by omega, by go_num, HL9⟩
                  case measure => first | (simp [intOf]; omega) | simp [intOf]
                · skip
                  apply HK9
                  refine rf_ok_1_2 Lw_0 Y_0 K_0 T_0 HI9 hok hkk i0 i1 hRs hOs (Lib.hid ?_)
                  intro v6 v10 v11 v12 v13 v36 v37 v38 v39 v40 v41 v42 v43 v44 v45 v46 v47 v48 v49 v50 v51 v52 v53 v54 v55 v56 v57 v58 v59 v60 v61 v62 v63 v64 v65 v66 v67 v68 v69 v70 v71 v72 v73 v74 v75 v76 v77 v78 v79 v80 v81 v82 v83 v84 v85 v86 v87 v88 v89 v90 v91 v92 v93 v94 v95 v96 v97 v98 v99 v100 v101 v102 v103 v104 v105 v106 v107 v108 v109 v110 v111 v112 v113 v114 v115 v116 v117 v118 v119 v120 v121 v122 v123 v124 v125 v126 v127 v128 v129 v130 v131 v132 v133 v134 v135 v136 v137 v138 v139 v140 v141 v142 v143 v144 v145 v146 v147 v148 v149 v150 v151 v152 w9 r9 hL9
                  have HL9 := Lib.hid hL9
                  clear hL9
                  go_wp2_with fail
                  go_roundw
                  case rel => exact ⟨k + 1, r9, by omega, by go_num, HL9⟩
                  case measure => first | (simp [intOf]; omega) | simp [intOf]
                · skip
                  apply HK9
                  refine rf_ok_1_3 Lw_0 Y_0 K_0 T_0 HI9 hok hkk i0 i1 hRs hOs (Lib.hid ?_)
                  intro v6 v10 v11 v12 v13 v36 v37 v38 v39 v40 v41 v42 v43 v44 v45 v46 v47 v48 v49 v50 v51 v52 v53 v54 v55 v56 v57 v58 v59 v60 v61 v62 v63 v64 v65 v66 v67 v68 v69 v70 v71 v72 v73 v74 v75 v76 v77 v78 v79 v80 v81 v82 v83 v84 v85 v86 v87 v88 v89 v90 v91 v92 v93 v94 v95 v96 v97 v98 v99 v100 v101 v102 v103 v104 v105 v106 v107 v108 v109 v110 v111 v112 v113 v114 v115 v116 v117 v118 v119 v120 v121 v122 v123 v124 v125 v126 v127 v128 v129 v130 v131 v132 v133 v134 v135 v136 v137 v138 v139 v140 v141 v142 v143 v144 v145 v146 v147 v148 v149 v150 v151 v152 w9 r9 hL9
                  have HL9 := Lib.hid hL9
                  clear hL9
                  go_wp2_with fail
                  go_roundw
                  case rel => exact ⟨k + 1, r9, by omega, by go_num, HL9⟩
                  case measure => first | (simp [intOf]; omega) | simp [intOf]
                · skip
                  apply HK9
                  refine rf_ok_1_4 Lw_0 Y_0 K_0 T_0 HI9 hok hkk i0 i1 hRs hOs (Lib.hid ?_)
                  intro v6 v10 v11 v12 v13 v36 v37 v38 v39 v40 v41 v42 v43 v44 v45 v46 v47 v48 v49 v50 v51 v52 v53 v54 v55 v56 v57 v58 v59 v60 v61 v62 v63 v64 v65 v66 v67 v68 v69 v70 v71 v72 v73 v74 v75 v76 v77 v78 v79 v80 v81 v82 v83 v84 v85 v86 v87 v88 v89 v90 v91 v92 v93 v94 v95 v96 v97 v98 v99 v100 v101 v102 v103 v104 v105 v106 v107 v108 v109 v110 v111 v112 v113 v114 v115 v116 v117 v118 v119 v120 v121 v122 v123 v124 v125 v126 v127 v128 v129 v130 v131 v132 v133 v134 v135 v136 v137 v138 v139 v140 v141 v142 v143 v144 v145 v146 v147 v148 v149 v150 v151 v152 w9 r9 hL9
                  have HL9 := Lib.hid hL9
                  clear hL9
                  go_wp2_with fail
                  go_roundw
                  case rel => exact ⟨k + 1, r9, by omega, by go_num, HL9⟩
                  case measure => first | (simp [intOf]; omega) | simp [intOf]
              · skip
                rcases hOs with hOs | hOs | hOs | hOs
                · skip
                  apply HK9
                  refine rf_ok_2_1 Lw_0 Y_0 K_0 T_0 HI9 hok hkk i0 i1 hRs hOs (Lib.hid ?_)
                  intro v6 v10 v11 v12 v13 v36 v37 v38 v39 v40 v41 v42 v43 v44 v45 v46 v47 v48 v49 v50 v51 v52 v53 v54 v55 v56 v57 v58 v59 v60 v61 v62 v63 v64 v65 v66 v67 v68 v69 v70 v71 v72 v73 v74 v75 v76 v77 v78 v79 v80 v81 v82 v83 v84 v85 v86 v87 v88 v89 v90 v91 v92 v93 v94 v95 v96 v97 v98 v99 v100 v101 v102 v103 v104 v105 v106 v107 v108 v109 v110 v111 v112 v113 v114 v115 v116 v117 v118 v119 v120 v121 v122 v123 v124 v125 v126 v127 v128 v129 v130 v131 v132 v133 v134 v135 v136 v137 v138 v139 v140 v141 v142 v143 v144 v145 v146 v147 v148 v149 v150 v151 v152 w9 r9 hL9
                  have HL9 := Lib.hid hL9
                  clear hL9
                  go_wp2_with fail
                  go_roundw
                  case rel => exact ⟨k + 1, r9, by omega, by go_num, HL9⟩
                  case measure => first | (simp [intOf]; omega) | simp [intOf]
                · skip
                  apply HK9
                  refine rf_ok_2_2 Lw_0 Y_0 K_0 T_0 HI9 hok hkk i0 i1 hRs hOs (Lib.hid ?_)
                  intro v6 v10 v11 v12 v13 v36 v37 v38 v39 v40 v41 v42 v43 v44 v45 v46 v47 v48 v49 v50 v51 v52 v53 v54 v55 v56 v57 v58 v59 v60 v61 v62 v63 v64 v65 v66 v67 v68 v69 v70 v71 v72 v73 v74 v75 v76 v77 v78 v79 v80 v81 v82 v83 v84 v85 v86 v87 v88 v89 v90 v91 v92 v93 v94 v95 v96 v97 v98 v99 v100 v101 v102 v103 v104 v105 v106 v107 v108 v109 v110 v111 v112 v113 v114 v115 v116 v117 v118 v119 v120 v121 v122 v123 v124 v125 v126 v127 v128 v129 v130 v131 v132 v133 v134 v135 v136 v137 v138 v139 v140 v141 v142 v143 v144 v145 v146 v147 v148 v149 v150 v151 v152 w9 r9 hL9
                  have HL9 := Lib.hid hL9
                  clear hL9
                  go_wp2_with fail
                  go_roundw
                  case rel => exact ⟨k + 1, r9, by omega, by go_num, HL9⟩
                  case measure => first | (simp [intOf]; omega) | simp [intOf]
                · skip
                  apply HK9
                  refine rf_ok_2_3 Lw_0 Y_0 K_0 T_0 HI9 hok hkk i0 i1 hRs hOs (Lib.hid ?_)
                  intro v6 v10 v11 v12 v13 v36 v37 v38 v39 v40 v41 v42 v43 v44 v45 v46 v47 v48 v49 v50 v51 v52 v53 v54 v55 v56 v57 v58 v59 v60 v61 v62 v63 v64 v65 v66 v67 v68 v69 v70 v71 v72 v73 v74 v75 v76 v77 v78 v79 v80 v81 v82 v83 v84 v85 v86 v87 v88 v89 v90 v91 v92 v93 v94 v95 v96 v97 v98 v99 v100 v101 v102 v103 v104 v105 v106 v107 v108 v109 v110 v111 v112 v113 v114 v115 v116 v117 v118 v119 v120 v121 v122 v123 v124 v125 v126 v127 v128 v129 v130 v131 v132 v133 v134 v135 v136 v137 v138 v139 v140 v141 v142 v143 v144 v145 v146 v147 v148 v149 v150 v151 v152 w9 r9 hL9
                  have HL9 := Lib.hid hL9
                  clear hL9
                  go_wp2_with fail
                  go_roundw
                  case rel => exact ⟨k + 1, r9, by omega, by go_num, HL9⟩
                  case measure => first | (simp [intOf]; omega) | simp [intOf]
                · skip
                  apply HK9
                  refine rf_ok_2_4 Lw_0 Y_0 K_0 T_0 HI9 hok hkk i0 i1 hRs hOs (Lib.hid ?_)
                  intro v6 v10 v11 v12 v13 v36 v37 v38 v39 v40 v41 v42 v43 v44 v45 v46 v47 v48 v49 v50 v51 v52 v53 v54 v55 v56 v57 v58 v59 v60 v61 v62 v63 v64 v65 v66 v67 v68 v69 v70 v71 v72 v73 v74 v75 v76 v77 v78 v79 v80 v81 v82 v83 v84 v85 v86 v87 v88 v89 v90 v91 v92 v93 v94 v95 v96 v97 v98 v99 v100 v101 v102 v103 v104 v105 v106 v107 v108 v109 v110 v111 v112 v113 v114 v115 v116 v117 v118 v119 v120 v121 v122 v123 v124 v125 v126 v127 v128 v129 v130 v131 v132 v133 v134 v135 v136 v137 v138 v139 v140 v141 v142 v143 v144 v145 v146 v147 v148 v149 v150 v151 v152 w9 r9 hL9
                  have HL9 := Lib.hid hL9
                  clear hL9
                  go_wp2_with fail
                  go_roundw
                  case rel => exact ⟨k + 1, r9, by omega, by go_num, HL9⟩
                  case measure => first | (simp [intOf]; omega) | simp [intOf]
              · skip
                replace hOs : O.st = 3 := by rw [hok.done (by omega)]; exact hRs
                apply HK9
                refine rf_ok_3_3 Lw_0 Y_0 K_0 T_0 HI9 hok hkk i0 i1 hRs hOs (Lib.hid ?_)
                intro v6 v10 v11 v12 v13 v36 v37 v38 v39 v40 v41 v42 v43 v44 v45 v46 v47 v48 v49 v50 v51 v52 v53 v54 v55 v56 v57 v58 v59 v60 v61 v62 v63 v64 v65 v66 v67 v68 v69 v70 v71 v72 v73 v74 v75 v76 v77 v78 v79 v80 v81 v82 v83 v84 v85 v86 v87 v88 v89 v90 v91 v92 v93 v94 v95 v96 v97 v98 v99 v100 v101 v102 v103 v104 v105 v106 v107 v108 v109 v110 v111 v112 v113 v114 v115 v116 v117 v118 v119 v120 v121 v122 v123 v124 v125 v126 v127 v128 v129 v130 v131 v132 v133 v134 v135 v136 v137 v138 v139 v140 v141 v142 v143 v144 v145 v146 v147 v148 v149 v150 v151 v152 w9 r9 hL9
                have HL9 := Lib.hid hL9
                clear hL9
                go_wp2_with fail
                go_roundw
                case rel => exact ⟨k + 1, r9, by omega, by go_num, HL9⟩
                case measure => first | (simp [intOf]; omega) | simp [intOf]
              · skip
                replace hOs : O.st = 4 := by rw [hok.done (by omega)]; exact hRs
                apply HK9
                refine rf_ok_4_4 Lw_0 Y_0 K_0 T_0 HI9 hok hkk i0 i1 hRs hOs (Lib.hid ?_)
                intro v6 v10 v11 v12 v13 v36 v37 v38 v39 v40 v41 v42 v43 v44 v45 v46 v47 v48 v49 v50 v51 v52 v53 v54 v55 v56 v57 v58 v59 v60 v61 v62 v63 v64 v65 v66 v67 v68 v69 v70 v71 v72 v73 v74 v75 v76 v77 v78 v79 v80 v81 v82 v83 v84 v85 v86 v87 v88 v89 v90 v91 v92 v93 v94 v95 v96 v97 v98 v99 v100 v101 v102 v103 v104 v105 v106 v107 v108 v109 v110 v111 v112 v113 v114 v115 v116 v117 v118 v119 v120 v121 v122 v123 v124 v125 v126 v127 v128 v129 v130 v131 v132 v133 v134 v135 v136 v137 v138 v139 v140 v141 v142 v143 v144 v145 v146 v147 v148 v149 v150 v151 v152 w9 r9 hL9
                have HL9 := Lib.hid hL9
                clear hL9
                go_wp2_with fail
                go_roundw
                case rel => exact ⟨k + 1, r9, by omega, by go_num, HL9⟩
                case measure => first | (simp [intOf]; omega) | simp [intOf]
        · skip
          have hkn : k = n := by omega
          subst hkn
          go_wp2_with fail
          go_ret
          exact ⟨rfl, Q.out.bel⟩
    · skip
      rw [hOf]
      have HSF := Lib.hid (fun W => same_fresh nd nu wall A2 c2 W)
      unfold frR Rec.to Rec.v
      dsimp only
      have i100 : (100 : Int) < (n : Int) := by omega
      go_wp2_with fail
      refine (HSF.out _).mono ?_
      rintro e w3 ⟨rfl, hb⟩
      have P3 : Hid (Below w.heap.size w w3) := by
        have hp := P2.out
        have hps := hp.size
        exact Below.go (by go_grown) hb (by go_size)
      clear hb
      go_wp2
      go_ret
      exact ⟨rfl, P3.out⟩
end Go.Proofs.Ythigmjcepbgljaa
