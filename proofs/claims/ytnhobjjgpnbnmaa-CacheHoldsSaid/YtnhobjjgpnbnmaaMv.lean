/- The walk: whatever is done to a read cache, call by call, it answers what the document says. -/
import Derived.Test.YtnhobjjgpnbnmaaMu
import Derived.Test.YtnhobjjgpnbnmaaPick
import Derived.Deep.CutRange
namespace Go.Proofs.Ytnhobjjgpnbnmaa
open Go.RowKit Go.St
set_option linter.unusedVariables false
set_option linter.unusedSimpArgs false
set_option maxRecDepth 100000

theorem CaB.base {E : TypeId} {W : World} {base base' b : Nat} {v : Value} {s : Stp} {l : List Mk} (h : CaB E W base b v s l) (hb : base' ≤ base) : CaB E W base' b v s l :=
  ⟨h.lt, Nat.le_trans hb h.lo, h.fz, h.c0, h.c1, h.c2, h.c3, h.c4, h.own.mono hb, h.ne, h.len⟩
theorem AmB.kp {W W' : World} {base hi p : Nat} {x : ActM} (h : AmB W p x) (hk : Kp base hi W W') (hp : hi ≤ p) : AmB W' p x := h.keep hk.size (fun o => hk.cell (p := ⟨p, o, none⟩) h.lt hp)
theorem pair_new (w1 w2 w3 : World) (b b' : Nat) (s : Stp) (hb : Below w1.heap.size w1 w2) (h1 : CaB 63 w2 w1.heap.size b (.slice none 0 0) s []) (hb2 : Below w2.heap.size w2 w3) (h2 : CaB 74 w3 w2.heap.size b' (.slice none 0 0) s []) :
    PrS w1.heap.size w3.heap.size w3 (.pointer (some ⟨b, 0, none⟩)) (.pointer (some ⟨b', 0, none⟩)) := by
  have hl1 := h1.lt
  have hl2 := h2.lo
  refine .two (h1.next hb2) (h2.base hb.size) (by simp) ⟨by omega, by simp [Value.ownBlock], by simp [Value.ownBlock], fun k e => by cases e⟩ (Nat.le_refl _) (Nat.lt_of_lt_of_le hl1 hb2.size) h2.lt (fun k e => by cases e) (fun k e => by cases e)
set_option maxHeartbeats 12800000 in
theorem cacheScript_walk (w : World) (low : Stp) (Aa : Option Addr) (nl ca : Nat) (la : List ActM) (hla : la.length = nl) (hin : ∀ x ∈ la, -9223372036854775808 ≤ x.k ∧ x.k ≤ 9223372036854775807) (hra : Rd w w.heap.size Aa (la.map amCells).flatten)
    (Ak : Option Addr) (nk ck : Nat) (lk : List AskM) (hlk : lk.length = nk) (hrk : Rd w w.heap.size Ak (lk.map akCells).flatten) :
    Calls Try.prog 5 #[.agg #[.int .i64 low.wall, .int .i32 low.logic, .int .i32 low.tag], .slice Aa nl ca, .slice Ak nk ck] w fun e w' => e = .returned (.bool true) ∧ Below w.heap.size w w' := by
  have HRA := Lib.hid (fun W (h : Below w.heap.size w W) => hra.below h)
  have HRK := Lib.hid (fun W (h : Below w.heap.size w W) => hrk.below h)
  have HLA := Lib.hid hla; have HLK := Lib.hid hlk; have HIN := Lib.hid hin
  clear hra hrk hla hlk hin
  go_enter Try.func5, Try.ntmps5
  go_wp2_with fail
  refine (lives26_any _).mono ?_
  rintro e w1 ⟨rfl, hb⟩
  have S1 := Lib.hid ((spb_new w low 23).next hb)
  have B1 : Hid (Below w.heap.size w w1) := Lib.hid (((Below.refl _ _).alloc (Nat.le_refl _) _).trans (hb.mono (by simp)))
  have hw1 : w.heap.size ≤ w1.heap.size := B1.out.size
  clear hb
  by_cases h1 : nl ≤ 1300
  rotate_left
  · have i1 : (1300 : Int) < (nl : Int) := by omega
    go_wp2_with fail
    go_ret
    exact ⟨rfl, B1.out⟩
  have i1 : ¬ ((1300 : Int) < (nl : Int)) := by omega
  by_cases h2 : nk ≤ 10
  rotate_left
  · have i2 : (10 : Int) < (nk : Int) := by omega
    go_wp2_with fail
    go_ret
    exact ⟨rfl, B1.out⟩
  have i2 : ¬ ((10 : Int) < (nk : Int)) := by omega
  obtain ⟨z0, z1, z2, z3⟩ := S1.out
  by_cases hc : chk low = 0
  · skip
    go_wp2_with fail
    refine (cnew_ok low hc w1).mono ?_
    rintro e w2 ⟨b, rfl, hC, hb2⟩
    have S2 := Lib.hid (S1.out.next hb2)
    have B2 := Lib.hid (B1.out.trans (hb2.mono B1.out.size))
    have HC2 := Lib.hid hC; have HB2 := Lib.hid hb2
    clear hC hb2 z0 z1 z2 z3 S1 B1
    obtain ⟨z0, z1, z2, z3⟩ := S2.out
    go_wp2_with fail
    refine (rnew_ok low hc w2).mono ?_
    rintro e w3 ⟨b', rfl, hR, hb3⟩
    have B3 := Lib.hid (B2.out.trans (hb3.mono B2.out.size))
    have PR := Lib.hid (pair_new w1 w2 w3 b b' low HB2.out HC2.out hb3 hR)
    clear hR hb3 z0 z1 z2 z3 S2 B2 HC2 HB2
    clear i1 i2
    go_wp2_with fail
    go_loopw [11] (fun i wr => ∃ j : Nat, j ≤ nl ∧ i = .int .i64 j ∧ Hid (Below w.heap.size w wr) ∧ Hid (PrS w1.heap.size wr.heap.size wr (.pointer (some ⟨b, 0, none⟩)) (.pointer (some ⟨b', 0, none⟩)))) (fun i _ => nl - (intOf i).toNat)
    case atStart => exact ⟨0, Nat.zero_le _, rfl, B3, PR⟩
    case round =>
      obtain ⟨j, hj, rfl, Q, R⟩ := hrel
      clear B3 PR
      by_cases hlt : j < nl
      · skip
        have hjl : j < la.length := by rw [HLA.out]; exact hlt
        have hik := HIN.out la[j] (List.getElem_mem hjl)
        obtain ⟨g, off, rfl, hgB, M⟩ := am_at (HRA.out wr Q.out) j la[j] (List.getElem?_eq_getElem hjl)
        generalize la[j] = x at *
        have c0 := M 0 _ rfl; have c1 := M 1 _ rfl; have c2 := M 2 _ rfl; have c3 := M 3 _ rfl; have c4 := M 4 _ rfl; have c5 := M 5 _ rfl; have c6 := M 6 _ rfl; have c7 := M 7 _ rfl
        simp only [Nat.add_zero] at c0
        have i1 : (j : Int) < (nl : Int) := by omega
        have i0 : (0 : Int) ≤ (j : Int) := by omega
        clear M
        go_upto_region 13 with (fail)
        have hba : Below wr.heap.size wr (wr.alloc (.cells #[.int .i64 x.k, .string x.m.f, .string x.m.t, .int .i64 x.m.a.wall, .int .i32 x.m.a.logic, .int .i32 x.m.a.tag, .int .i32 x.m.nd, .int .i32 x.m.nu] 37)) := (Below.refl _ _).alloc (Nat.le_refl _) _
        have A1 := Lib.hid (amb_new wr x 37)
        have R1 := Lib.hid (R.out.next hba)
        have Q1 := Lib.hid (Q.out.trans (hba.mono Q.out.size))
        clear c0 c1 c2 c3 c4 c5 c6 c7 hba Q R
        generalize hwa : wr.alloc (.cells #[.int .i64 x.k, .string x.m.f, .string x.m.t, .int .i64 x.m.a.wall, .int .i32 x.m.a.logic, .int .i32 x.m.a.tag, .int .i32 x.m.nd, .int .i32 x.m.nu] 37) = wa at *
        generalize hkk : wr.heap.size = kk at *
        clear hwa hkk
        obtain ⟨s0, s1, s2, s3, s4, s5, s6, s7, s8⟩ := A1.out
        have HPK := Lib.hid (pick_any x.k 2 (by omega) (by omega) hik wa)
        have hmod : x.k % 2 = 0 ∨ x.k % 2 = 1 := by omega
        generalize x.k % 2 = pk at *
        clear hik
        rcases hmod with rfl | rfl
        · skip
          go_upto_region 14 with (refine HPK.out.mono ?_; rintro e w' ⟨rfl, rfl⟩)
          clear HPK s0 s1 s2 s3 s4 s5 s6 s7 s8
          have hS : AmB wa.drew kk x := A1.out.next (Below.drew (Below.refl _ _))
          refine wp_heldall (S := fun X => AmB X kk x) 17 (by kernel_rfl) rfl hS (fun hHeld => ?_)
          clear hS
          refine takeL (i := 0) (v := ?_) rfl (by kernel_rfl) (by kernel_rfl) (by kernel_rfl) (fun _ _ _ h => h) ⟨by rfl, ?_⟩ (by assumption) ?_
          rotate_left
          · intro W9 hSw
            (try dsimp only at hSw)
            obtain ⟨s0, s1, s2, s3, s4, s5, s6, s7, s8⟩ := hSw
            go_simp
            try with_reducible rfl
          (try simp only [Act.put, List.setIfInBounds_toArray, List.set_cons_zero, List.set_cons_succ])
          refine takeL (i := 1) (v := ?_) rfl (by kernel_rfl) (by kernel_rfl) (by kernel_rfl) (fun _ _ _ h => h) ⟨by rfl, ?_⟩ (by assumption) ?_
          rotate_left
          · intro W9 hSw
            (try dsimp only at hSw)
            obtain ⟨s0, s1, s2, s3, s4, s5, s6, s7, s8⟩ := hSw
            go_simp
            try with_reducible rfl
          (try simp only [Act.put, List.setIfInBounds_toArray, List.set_cons_zero, List.set_cons_succ])
          refine takeL (i := 2) (v := ?_) rfl (by kernel_rfl) (by kernel_rfl) (by kernel_rfl) (fun _ _ _ h => h) ⟨by rfl, ?_⟩ (by assumption) ?_
          rotate_left
          · intro W9 hSw
            (try dsimp only at hSw)
            obtain ⟨s0, s1, s2, s3, s4, s5, s6, s7, s8⟩ := hSw
            go_simp
            try with_reducible rfl
          (try simp only [Act.put, List.setIfInBounds_toArray, List.set_cons_zero, List.set_cons_succ])
          refine takeL (i := 3) (v := ?_) rfl (by kernel_rfl) (by kernel_rfl) (by kernel_rfl) (fun _ _ _ h => h) ⟨by rfl, ?_⟩ (by assumption) ?_
          rotate_left
          · intro W9 hSw
            (try dsimp only at hSw)
            obtain ⟨s0, s1, s2, s3, s4, s5, s6, s7, s8⟩ := hSw
            go_simp
            try with_reducible rfl
          (try simp only [Act.put, List.setIfInBounds_toArray, List.set_cons_zero, List.set_cons_succ])
          refine takeL (i := 4) (v := ?_) rfl (by kernel_rfl) (by kernel_rfl) (by kernel_rfl) (fun _ _ _ h => h) ⟨by rfl, ?_⟩ (by assumption) ?_
          rotate_left
          · intro W9 hSw
            (try dsimp only at hSw)
            obtain ⟨s0, s1, s2, s3, s4, s5, s6, s7, s8⟩ := hSw
            go_simp
            try with_reducible rfl
          (try simp only [Act.put, List.setIfInBounds_toArray, List.set_cons_zero, List.set_cons_succ])
          refine takeL (i := 5) (v := ?_) rfl (by kernel_rfl) (by kernel_rfl) (by kernel_rfl) (fun _ _ _ h => h) ⟨by rfl, ?_⟩ (by assumption) ?_
          rotate_left
          · intro W9 hSw
            (try dsimp only at hSw)
            obtain ⟨s0, s1, s2, s3, s4, s5, s6, s7, s8⟩ := hSw
            go_simp
            try with_reducible rfl
          (try simp only [Act.put, List.setIfInBounds_toArray, List.set_cons_zero, List.set_cons_succ])
          refine takeL (i := 6) (v := ?_) rfl (by kernel_rfl) (by kernel_rfl) (by kernel_rfl) (fun _ _ _ h => h) ⟨by rfl, ?_⟩ (by assumption) ?_
          rotate_left
          · intro W9 hSw
            (try dsimp only at hSw)
            obtain ⟨s0, s1, s2, s3, s4, s5, s6, s7, s8⟩ := hSw
            go_simp
            try with_reducible rfl
          (try simp only [Act.put, List.setIfInBounds_toArray, List.set_cons_zero, List.set_cons_succ])
          refine takeL (i := 8) (v := ?_) rfl (by kernel_rfl) (by kernel_rfl) (by kernel_rfl) (fun _ _ _ h => h) ⟨by rfl, ?_⟩ (by assumption) ?_
          rotate_left
          · intro W9 hSw
            (try dsimp only at hSw)
            obtain ⟨s0, s1, s2, s3, s4, s5, s6, s7, s8⟩ := hSw
            go_simp
            try with_reducible rfl
          (try simp only [Act.put, List.setIfInBounds_toArray, List.set_cons_zero, List.set_cons_succ])
          refine takeL (i := 9) (v := ?_) rfl (by kernel_rfl) (by kernel_rfl) (by kernel_rfl) (fun _ _ _ h => h) ⟨by rfl, ?_⟩ (by assumption) ?_
          rotate_left
          · intro W9 hSw
            (try dsimp only at hSw)
            obtain ⟨s0, s1, s2, s3, s4, s5, s6, s7, s8⟩ := hSw
            go_simp
            try with_reducible rfl
          (try simp only [Act.put, List.setIfInBounds_toArray, List.set_cons_zero, List.set_cons_succ])
          refine takeL (i := 10) (v := ?_) rfl (by kernel_rfl) (by kernel_rfl) (by kernel_rfl) (fun _ _ _ h => h) ⟨by rfl, ?_⟩ (by assumption) ?_
          rotate_left
          · intro W9 hSw
            (try dsimp only at hSw)
            obtain ⟨s0, s1, s2, s3, s4, s5, s6, s7, s8⟩ := hSw
            go_simp
            try with_reducible rfl
          (try simp only [Act.put, List.setIfInBounds_toArray, List.set_cons_zero, List.set_cons_succ])
          refine takeL (i := 11) (v := ?_) rfl (by kernel_rfl) (by kernel_rfl) (by kernel_rfl) (fun _ _ _ h => h) ⟨by rfl, ?_⟩ (by assumption) ?_
          rotate_left
          · intro W9 hSw
            (try dsimp only at hSw)
            obtain ⟨s0, s1, s2, s3, s4, s5, s6, s7, s8⟩ := hSw
            go_simp
            try with_reducible rfl
          (try simp only [Act.put, List.setIfInBounds_toArray, List.set_cons_zero, List.set_cons_succ])
          refine takeL (i := 12) (v := ?_) rfl (by kernel_rfl) (by kernel_rfl) (by kernel_rfl) (fun _ _ _ h => h) ⟨by rfl, ?_⟩ (by assumption) ?_
          rotate_left
          · intro W9 hSw
            (try dsimp only at hSw)
            obtain ⟨s0, s1, s2, s3, s4, s5, s6, s7, s8⟩ := hSw
            go_simp
            try with_reducible rfl
          (try simp only [Act.put, List.setIfInBounds_toArray, List.set_cons_zero, List.set_cons_succ])
          refine takeL (i := 13) (v := ?_) rfl (by kernel_rfl) (by kernel_rfl) (by kernel_rfl) (fun _ _ _ h => h) ⟨by rfl, ?_⟩ (by assumption) ?_
          rotate_left
          · intro W9 hSw
            (try dsimp only at hSw)
            obtain ⟨s0, s1, s2, s3, s4, s5, s6, s7, s8⟩ := hSw
            go_simp
            try with_reducible rfl
          (try simp only [Act.put, List.setIfInBounds_toArray, List.set_cons_zero, List.set_cons_succ])
          refine takeL (i := 14) (v := ?_) rfl (by kernel_rfl) (by kernel_rfl) (by kernel_rfl) (fun _ _ _ h => h) ⟨by rfl, ?_⟩ (by assumption) ?_
          rotate_left
          · intro W9 hSw
            (try dsimp only at hSw)
            obtain ⟨s0, s1, s2, s3, s4, s5, s6, s7, s8⟩ := hSw
            go_simp
            try with_reducible rfl
          (try simp only [Act.put, List.setIfInBounds_toArray, List.set_cons_zero, List.set_cons_succ])
          have kX : PrS w1.heap.size kk wa.drew (.pointer (some ⟨b, 0, none⟩)) (.pointer (some ⟨b', 0, none⟩)) := R1.out.next (Below.drew (Below.refl _ _))
          have kB : Below w.heap.size w wa.drew := Q1.out.trans ((Below.drew (Below.refl wa.heap.size wa)).mono Q1.out.size)
          have hX := hHeld
          clear hHeld A1 R1 Q1
          generalize wa.drew = X at *
          obtain ⟨E, hp⟩ := pair_read kX x.m
          have HP := Lib.hid hp
          have hbX := kX.base
          clear hp kX
          refine wpAnyH_ready (rs := [7]) (by kernel_rfl) (by simp) ?_
          refine consL rfl (by rfl) (fun K hK => ?_) ?_
          · go_simp
            go_at_call 10
            refine HP.out.mono ?_
            rintro e X2 ⟨rfl, kp, hp2⟩
            refine hK.out _ _ (hX.kp kp (Nat.le_refl _)) (fun hX' => ?_)
            have kB2 := kB.trans ((kp.below hbX).mono hw1)
            have hbX2 := Nat.le_trans hbX kp.size
            have HP2 := Lib.hid hp2
            clear hK K hX kB kp hp2 HP hbX
            refine wpAnyH_ready (rs := [15]) (by kernel_rfl) (by simp) ?_
            refine consL rfl (by rfl) (fun K hK => ?_) ?_
            · go_simp
              go_at_call 21
              refine HP2.out.mono ?_
              rintro e X3 ⟨rfl, kp, pr3⟩
              refine hK.out _ _ (hX'.kp kp (Nat.le_refl _)) (fun hX3 => ?_)
              obtain ⟨w5, rfl⟩ : ∃ x, x = X3 := ⟨_, rfl⟩
              have Q5 := Lib.hid (kB2.trans ((kp.below hbX2).mono hw1))
              have R5 := Lib.hid pr3
              clear hK K hX' kB2 kp pr3 HP2 hbX2
              refine takeL (i := 16) (v := ?_) rfl (by kernel_rfl) (by kernel_rfl) (by kernel_rfl) (fun _ _ _ h => h) ⟨by rfl, ?_⟩ (by assumption) ?_
              rotate_left
              · intro W9 hSw
                (try dsimp only at hSw)
                go_simp
                try with_reducible rfl
              (try simp only [Act.put, List.setIfInBounds_toArray, List.set_cons_zero, List.set_cons_succ])
              refine wpAnyH_done (by kernel_rfl) ?_ _
              clear hX3
              obtain ⟨lo, hlo1, hlo2⟩ := pair_low R5.out
              have HL1 := Lib.hid hlo1; have HL2 := Lib.hid hlo2
              clear hlo1 hlo2
              go_wp2_with fail
              refine (HL1.out w5 (Below.refl _ _)).mono ?_
              rintro e w6 ⟨rfl, hb6⟩
              go_wp2_with fail
              refine (HL2.out w6 hb6).mono ?_
              rintro e w7 ⟨rfl, hb7⟩
              have b7 := hb6.trans (hb7.mono hb6.size)
              obtain ⟨ln, hln1, hln2⟩ := pair_len R5.out
              have HN1 := Lib.hid (hln1 w7 b7); have HN2 := Lib.hid (hln2 w7 b7)
              have R7 := Lib.hid (R5.out.next b7)
              have Q7 := Lib.hid (Q5.out.trans (b7.mono Q5.out.size))
              clear hln1 hln2 hb6 hb7 b7 R5 Q5 HL1 HL2
              go_wp2_with fail
              refine HN1.out.mono ?_
              rintro e w' ⟨rfl, rfl⟩
              go_wp2_with fail
              refine HN2.out.mono ?_
              rintro e w' ⟨rfl, rfl⟩
              clear HN1 HN2
              by_cases h30 : j < 30
              · have i3 : (j : Int) < 30 := by omega
                go_wp2_with fail
                refine (asked_any R7.out Ak nk ck lk HLK.out (by omega) w.heap.size (HRK.out w7 Q7.out) Q7.out.size).mono ?_
                rintro e w8 ⟨rfl, hb8⟩
                have R8 := Lib.hid ((R7.out.next hb8).top)
                have Q8 := Lib.hid (Q7.out.trans (hb8.mono Q7.out.size))
                clear hb8 R7 Q7
                go_wp2_with fail
                exact ⟨⟨j + 1, by omega, by go_num, Q8, R8⟩, by simp [intOf]; omega⟩
              · have i3 : ¬ ((j : Int) < 30) := by omega
                have R8 := Lib.hid R7.out.top
                clear R7
                go_wp2_with fail
                exact ⟨⟨j + 1, by omega, by go_num, Q7, R8⟩, by simp [intOf]; omega⟩
            exact AllReadyH.nil
          exact AllReadyH.nil
        · skip
          go_upto_region 16 with (refine HPK.out.mono ?_; rintro e w' ⟨rfl, rfl⟩)
          clear HPK s0 s1 s2 s3 s4 s5 s6 s7 s8
          have hS : AmB wa.drew kk x := A1.out.next (Below.drew (Below.refl _ _))
          refine wp_heldall (S := fun X => AmB X kk x) 9 (by kernel_rfl) rfl hS (fun hHeld => ?_)
          clear hS
          refine takeL (i := 0) (v := ?_) rfl (by kernel_rfl) (by kernel_rfl) (by kernel_rfl) (fun _ _ _ h => h) ⟨by rfl, ?_⟩ (by assumption) ?_
          rotate_left
          · intro W9 hSw
            (try dsimp only at hSw)
            obtain ⟨s0, s1, s2, s3, s4, s5, s6, s7, s8⟩ := hSw
            go_simp
            try with_reducible rfl
          (try simp only [Act.put, List.setIfInBounds_toArray, List.set_cons_zero, List.set_cons_succ])
          refine takeL (i := 1) (v := ?_) rfl (by kernel_rfl) (by kernel_rfl) (by kernel_rfl) (fun _ _ _ h => h) ⟨by rfl, ?_⟩ (by assumption) ?_
          rotate_left
          · intro W9 hSw
            (try dsimp only at hSw)
            obtain ⟨s0, s1, s2, s3, s4, s5, s6, s7, s8⟩ := hSw
            go_simp
            try with_reducible rfl
          (try simp only [Act.put, List.setIfInBounds_toArray, List.set_cons_zero, List.set_cons_succ])
          refine takeL (i := 2) (v := ?_) rfl (by kernel_rfl) (by kernel_rfl) (by kernel_rfl) (fun _ _ _ h => h) ⟨by rfl, ?_⟩ (by assumption) ?_
          rotate_left
          · intro W9 hSw
            (try dsimp only at hSw)
            obtain ⟨s0, s1, s2, s3, s4, s5, s6, s7, s8⟩ := hSw
            go_simp
            try with_reducible rfl
          (try simp only [Act.put, List.setIfInBounds_toArray, List.set_cons_zero, List.set_cons_succ])
          refine takeL (i := 4) (v := ?_) rfl (by kernel_rfl) (by kernel_rfl) (by kernel_rfl) (fun _ _ _ h => h) ⟨by rfl, ?_⟩ (by assumption) ?_
          rotate_left
          · intro W9 hSw
            (try dsimp only at hSw)
            obtain ⟨s0, s1, s2, s3, s4, s5, s6, s7, s8⟩ := hSw
            go_simp
            try with_reducible rfl
          (try simp only [Act.put, List.setIfInBounds_toArray, List.set_cons_zero, List.set_cons_succ])
          refine takeL (i := 5) (v := ?_) rfl (by kernel_rfl) (by kernel_rfl) (by kernel_rfl) (fun _ _ _ h => h) ⟨by rfl, ?_⟩ (by assumption) ?_
          rotate_left
          · intro W9 hSw
            (try dsimp only at hSw)
            obtain ⟨s0, s1, s2, s3, s4, s5, s6, s7, s8⟩ := hSw
            go_simp
            try with_reducible rfl
          (try simp only [Act.put, List.setIfInBounds_toArray, List.set_cons_zero, List.set_cons_succ])
          refine takeL (i := 6) (v := ?_) rfl (by kernel_rfl) (by kernel_rfl) (by kernel_rfl) (fun _ _ _ h => h) ⟨by rfl, ?_⟩ (by assumption) ?_
          rotate_left
          · intro W9 hSw
            (try dsimp only at hSw)
            obtain ⟨s0, s1, s2, s3, s4, s5, s6, s7, s8⟩ := hSw
            go_simp
            try with_reducible rfl
          (try simp only [Act.put, List.setIfInBounds_toArray, List.set_cons_zero, List.set_cons_succ])
          have kX : PrS w1.heap.size kk wa.drew (.pointer (some ⟨b, 0, none⟩)) (.pointer (some ⟨b', 0, none⟩)) := R1.out.next (Below.drew (Below.refl _ _))
          have kB : Below w.heap.size w wa.drew := Q1.out.trans ((Below.drew (Below.refl wa.heap.size wa)).mono Q1.out.size)
          have hX := hHeld
          clear hHeld A1 R1 Q1
          generalize wa.drew = X at *
          obtain ⟨E, hp⟩ := pair_raise kX x.m.a
          have HP := Lib.hid hp
          have hbX := kX.base
          clear hp kX
          refine wpAnyH_ready (rs := [3]) (by kernel_rfl) (by simp) ?_
          refine consL rfl (by rfl) (fun K hK => ?_) ?_
          · go_simp
            go_at_call 11
            refine HP.out.mono ?_
            rintro e X2 ⟨rfl, kp, hp2⟩
            refine hK.out _ _ (hX.kp kp (Nat.le_refl _)) (fun hX' => ?_)
            have kB2 := kB.trans ((kp.below hbX).mono hw1)
            have hbX2 := Nat.le_trans hbX kp.size
            have HP2 := Lib.hid hp2
            clear hK K hX kB kp hp2 HP hbX
            refine wpAnyH_ready (rs := [7]) (by kernel_rfl) (by simp) ?_
            refine consL rfl (by rfl) (fun K hK => ?_) ?_
            · go_simp
              go_at_call 22
              refine HP2.out.mono ?_
              rintro e X3 ⟨rfl, kp, pr3⟩
              refine hK.out _ _ (hX'.kp kp (Nat.le_refl _)) (fun hX3 => ?_)
              obtain ⟨w5, rfl⟩ : ∃ x, x = X3 := ⟨_, rfl⟩
              have Q5 := Lib.hid (kB2.trans ((kp.below hbX2).mono hw1))
              have R5 := Lib.hid pr3
              clear hK K hX' kB2 kp pr3 HP2 hbX2
              refine takeL (i := 8) (v := ?_) rfl (by kernel_rfl) (by kernel_rfl) (by kernel_rfl) (fun _ _ _ h => h) ⟨by rfl, ?_⟩ (by assumption) ?_
              rotate_left
              · intro W9 hSw
                (try dsimp only at hSw)
                go_simp
                try with_reducible rfl
              (try simp only [Act.put, List.setIfInBounds_toArray, List.set_cons_zero, List.set_cons_succ])
              refine wpAnyH_done (by kernel_rfl) ?_ _
              clear hX3
              obtain ⟨lo, hlo1, hlo2⟩ := pair_low R5.out
              have HL1 := Lib.hid hlo1; have HL2 := Lib.hid hlo2
              clear hlo1 hlo2
              go_wp2_with fail
              refine (HL1.out w5 (Below.refl _ _)).mono ?_
              rintro e w6 ⟨rfl, hb6⟩
              go_wp2_with fail
              refine (HL2.out w6 hb6).mono ?_
              rintro e w7 ⟨rfl, hb7⟩
              have b7 := hb6.trans (hb7.mono hb6.size)
              obtain ⟨ln, hln1, hln2⟩ := pair_len R5.out
              have HN1 := Lib.hid (hln1 w7 b7); have HN2 := Lib.hid (hln2 w7 b7)
              have R7 := Lib.hid (R5.out.next b7)
              have Q7 := Lib.hid (Q5.out.trans (b7.mono Q5.out.size))
              clear hln1 hln2 hb6 hb7 b7 R5 Q5 HL1 HL2
              go_wp2_with fail
              refine HN1.out.mono ?_
              rintro e w' ⟨rfl, rfl⟩
              go_wp2_with fail
              refine HN2.out.mono ?_
              rintro e w' ⟨rfl, rfl⟩
              clear HN1 HN2
              by_cases h30 : j < 30
              · have i3 : (j : Int) < 30 := by omega
                go_wp2_with fail
                refine (asked_any R7.out Ak nk ck lk HLK.out (by omega) w.heap.size (HRK.out w7 Q7.out) Q7.out.size).mono ?_
                rintro e w8 ⟨rfl, hb8⟩
                have R8 := Lib.hid ((R7.out.next hb8).top)
                have Q8 := Lib.hid (Q7.out.trans (hb8.mono Q7.out.size))
                clear hb8 R7 Q7
                go_wp2_with fail
                exact ⟨⟨j + 1, by omega, by go_num, Q8, R8⟩, by simp [intOf]; omega⟩
              · have i3 : ¬ ((j : Int) < 30) := by omega
                have R8 := Lib.hid R7.out.top
                clear R7
                go_wp2_with fail
                exact ⟨⟨j + 1, by omega, by go_num, Q7, R8⟩, by simp [intOf]; omega⟩
            exact AllReadyH.nil
          exact AllReadyH.nil
      · skip
        have hjn : j = nl := by omega
        subst hjn
        have i9 : ¬ ((j : Int) < (j : Int)) := by omega
        go_wp2_with fail
        refine (asked_any R.out Ak nk ck lk HLK.out (by omega) w.heap.size (HRK.out wr Q.out) Q.out.size).mono ?_
        rintro e w8 ⟨rfl, hb8⟩
        have Q8 := Lib.hid (Q.out.trans (hb8.mono Q.out.size))
        clear hb8
        go_wp2_with fail
        go_ret
        exact ⟨rfl, Q8.out⟩
  · skip
    have HN1 := Lib.hid (cnew_no low hc)
    have HN2 := Lib.hid (rnew_no low hc)
    generalize chk low = E at *
    clear hc
    go_wp2_with fail
    refine (HN1.out w1).mono ?_
    rintro e w2 ⟨rfl, hb2⟩
    have S2 := Lib.hid (S1.out.next hb2)
    have B2 := Lib.hid (B1.out.trans (hb2.mono B1.out.size))
    have HB2 := Lib.hid hb2
    clear hb2 z0 z1 z2 z3 S1 B1 HN1
    obtain ⟨z0, z1, z2, z3⟩ := S2.out
    go_wp2_with fail
    refine (HN2.out w2).mono ?_
    rintro e w3 ⟨rfl, hb3⟩
    have B3 := Lib.hid (B2.out.trans (hb3.mono B2.out.size))
    have PR : Hid (PrS w1.heap.size w3.heap.size w3 (.pointer none) (.pointer none)) := Lib.hid (.nil (Nat.le_trans HB2.out.size hb3.size) (Nat.le_refl _))
    clear hb3 z0 z1 z2 z3 S2 B2 HB2 HN2
    clear i1 i2
    go_wp2_with fail
    go_loopw [11] (fun i wr => ∃ j : Nat, j ≤ nl ∧ i = .int .i64 j ∧ Hid (Below w.heap.size w wr) ∧ Hid (PrS w1.heap.size wr.heap.size wr (.pointer none) (.pointer none))) (fun i _ => nl - (intOf i).toNat)
    case atStart => exact ⟨0, Nat.zero_le _, rfl, B3, PR⟩
    case round =>
      obtain ⟨j, hj, rfl, Q, R⟩ := hrel
      clear B3 PR
      by_cases hlt : j < nl
      · skip
        have hjl : j < la.length := by rw [HLA.out]; exact hlt
        have hik := HIN.out la[j] (List.getElem_mem hjl)
        obtain ⟨g, off, rfl, hgB, M⟩ := am_at (HRA.out wr Q.out) j la[j] (List.getElem?_eq_getElem hjl)
        generalize la[j] = x at *
        have c0 := M 0 _ rfl; have c1 := M 1 _ rfl; have c2 := M 2 _ rfl; have c3 := M 3 _ rfl; have c4 := M 4 _ rfl; have c5 := M 5 _ rfl; have c6 := M 6 _ rfl; have c7 := M 7 _ rfl
        simp only [Nat.add_zero] at c0
        have i1 : (j : Int) < (nl : Int) := by omega
        have i0 : (0 : Int) ≤ (j : Int) := by omega
        clear M
        go_upto_region 13 with (fail)
        have hba : Below wr.heap.size wr (wr.alloc (.cells #[.int .i64 x.k, .string x.m.f, .string x.m.t, .int .i64 x.m.a.wall, .int .i32 x.m.a.logic, .int .i32 x.m.a.tag, .int .i32 x.m.nd, .int .i32 x.m.nu] 37)) := (Below.refl _ _).alloc (Nat.le_refl _) _
        have A1 := Lib.hid (amb_new wr x 37)
        have R1 := Lib.hid (R.out.next hba)
        have Q1 := Lib.hid (Q.out.trans (hba.mono Q.out.size))
        clear c0 c1 c2 c3 c4 c5 c6 c7 hba Q R
        generalize hwa : wr.alloc (.cells #[.int .i64 x.k, .string x.m.f, .string x.m.t, .int .i64 x.m.a.wall, .int .i32 x.m.a.logic, .int .i32 x.m.a.tag, .int .i32 x.m.nd, .int .i32 x.m.nu] 37) = wa at *
        generalize hkk : wr.heap.size = kk at *
        clear hwa hkk
        obtain ⟨s0, s1, s2, s3, s4, s5, s6, s7, s8⟩ := A1.out
        have HPK := Lib.hid (pick_any x.k 2 (by omega) (by omega) hik wa)
        have hmod : x.k % 2 = 0 ∨ x.k % 2 = 1 := by omega
        generalize x.k % 2 = pk at *
        clear hik
        rcases hmod with rfl | rfl
        · skip
          go_upto_region 14 with (refine HPK.out.mono ?_; rintro e w' ⟨rfl, rfl⟩)
          clear HPK s0 s1 s2 s3 s4 s5 s6 s7 s8
          have hS : AmB wa.drew kk x := A1.out.next (Below.drew (Below.refl _ _))
          refine wp_heldall (S := fun X => AmB X kk x) 17 (by kernel_rfl) rfl hS (fun hHeld => ?_)
          clear hS
          refine takeL (i := 0) (v := ?_) rfl (by kernel_rfl) (by kernel_rfl) (by kernel_rfl) (fun _ _ _ h => h) ⟨by rfl, ?_⟩ (by assumption) ?_
          rotate_left
          · intro W9 hSw
            (try dsimp only at hSw)
            obtain ⟨s0, s1, s2, s3, s4, s5, s6, s7, s8⟩ := hSw
            go_simp
            try with_reducible rfl
          (try simp only [Act.put, List.setIfInBounds_toArray, List.set_cons_zero, List.set_cons_succ])
          refine takeL (i := 1) (v := ?_) rfl (by kernel_rfl) (by kernel_rfl) (by kernel_rfl) (fun _ _ _ h => h) ⟨by rfl, ?_⟩ (by assumption) ?_
          rotate_left
          · intro W9 hSw
            (try dsimp only at hSw)
            obtain ⟨s0, s1, s2, s3, s4, s5, s6, s7, s8⟩ := hSw
            go_simp
            try with_reducible rfl
          (try simp only [Act.put, List.setIfInBounds_toArray, List.set_cons_zero, List.set_cons_succ])
          refine takeL (i := 2) (v := ?_) rfl (by kernel_rfl) (by kernel_rfl) (by kernel_rfl) (fun _ _ _ h => h) ⟨by rfl, ?_⟩ (by assumption) ?_
          rotate_left
          · intro W9 hSw
            (try dsimp only at hSw)
            obtain ⟨s0, s1, s2, s3, s4, s5, s6, s7, s8⟩ := hSw
            go_simp
            try with_reducible rfl
          (try simp only [Act.put, List.setIfInBounds_toArray, List.set_cons_zero, List.set_cons_succ])
          refine takeL (i := 3) (v := ?_) rfl (by kernel_rfl) (by kernel_rfl) (by kernel_rfl) (fun _ _ _ h => h) ⟨by rfl, ?_⟩ (by assumption) ?_
          rotate_left
          · intro W9 hSw
            (try dsimp only at hSw)
            obtain ⟨s0, s1, s2, s3, s4, s5, s6, s7, s8⟩ := hSw
            go_simp
            try with_reducible rfl
          (try simp only [Act.put, List.setIfInBounds_toArray, List.set_cons_zero, List.set_cons_succ])
          refine takeL (i := 4) (v := ?_) rfl (by kernel_rfl) (by kernel_rfl) (by kernel_rfl) (fun _ _ _ h => h) ⟨by rfl, ?_⟩ (by assumption) ?_
          rotate_left
          · intro W9 hSw
            (try dsimp only at hSw)
            obtain ⟨s0, s1, s2, s3, s4, s5, s6, s7, s8⟩ := hSw
            go_simp
            try with_reducible rfl
          (try simp only [Act.put, List.setIfInBounds_toArray, List.set_cons_zero, List.set_cons_succ])
          refine takeL (i := 5) (v := ?_) rfl (by kernel_rfl) (by kernel_rfl) (by kernel_rfl) (fun _ _ _ h => h) ⟨by rfl, ?_⟩ (by assumption) ?_
          rotate_left
          · intro W9 hSw
            (try dsimp only at hSw)
            obtain ⟨s0, s1, s2, s3, s4, s5, s6, s7, s8⟩ := hSw
            go_simp
            try with_reducible rfl
          (try simp only [Act.put, List.setIfInBounds_toArray, List.set_cons_zero, List.set_cons_succ])
          refine takeL (i := 6) (v := ?_) rfl (by kernel_rfl) (by kernel_rfl) (by kernel_rfl) (fun _ _ _ h => h) ⟨by rfl, ?_⟩ (by assumption) ?_
          rotate_left
          · intro W9 hSw
            (try dsimp only at hSw)
            obtain ⟨s0, s1, s2, s3, s4, s5, s6, s7, s8⟩ := hSw
            go_simp
            try with_reducible rfl
          (try simp only [Act.put, List.setIfInBounds_toArray, List.set_cons_zero, List.set_cons_succ])
          refine takeL (i := 8) (v := ?_) rfl (by kernel_rfl) (by kernel_rfl) (by kernel_rfl) (fun _ _ _ h => h) ⟨by rfl, ?_⟩ (by assumption) ?_
          rotate_left
          · intro W9 hSw
            (try dsimp only at hSw)
            obtain ⟨s0, s1, s2, s3, s4, s5, s6, s7, s8⟩ := hSw
            go_simp
            try with_reducible rfl
          (try simp only [Act.put, List.setIfInBounds_toArray, List.set_cons_zero, List.set_cons_succ])
          refine takeL (i := 9) (v := ?_) rfl (by kernel_rfl) (by kernel_rfl) (by kernel_rfl) (fun _ _ _ h => h) ⟨by rfl, ?_⟩ (by assumption) ?_
          rotate_left
          · intro W9 hSw
            (try dsimp only at hSw)
            obtain ⟨s0, s1, s2, s3, s4, s5, s6, s7, s8⟩ := hSw
            go_simp
            try with_reducible rfl
          (try simp only [Act.put, List.setIfInBounds_toArray, List.set_cons_zero, List.set_cons_succ])
          refine takeL (i := 10) (v := ?_) rfl (by kernel_rfl) (by kernel_rfl) (by kernel_rfl) (fun _ _ _ h => h) ⟨by rfl, ?_⟩ (by assumption) ?_
          rotate_left
          · intro W9 hSw
            (try dsimp only at hSw)
            obtain ⟨s0, s1, s2, s3, s4, s5, s6, s7, s8⟩ := hSw
            go_simp
            try with_reducible rfl
          (try simp only [Act.put, List.setIfInBounds_toArray, List.set_cons_zero, List.set_cons_succ])
          refine takeL (i := 11) (v := ?_) rfl (by kernel_rfl) (by kernel_rfl) (by kernel_rfl) (fun _ _ _ h => h) ⟨by rfl, ?_⟩ (by assumption) ?_
          rotate_left
          · intro W9 hSw
            (try dsimp only at hSw)
            obtain ⟨s0, s1, s2, s3, s4, s5, s6, s7, s8⟩ := hSw
            go_simp
            try with_reducible rfl
          (try simp only [Act.put, List.setIfInBounds_toArray, List.set_cons_zero, List.set_cons_succ])
          refine takeL (i := 12) (v := ?_) rfl (by kernel_rfl) (by kernel_rfl) (by kernel_rfl) (fun _ _ _ h => h) ⟨by rfl, ?_⟩ (by assumption) ?_
          rotate_left
          · intro W9 hSw
            (try dsimp only at hSw)
            obtain ⟨s0, s1, s2, s3, s4, s5, s6, s7, s8⟩ := hSw
            go_simp
            try with_reducible rfl
          (try simp only [Act.put, List.setIfInBounds_toArray, List.set_cons_zero, List.set_cons_succ])
          refine takeL (i := 13) (v := ?_) rfl (by kernel_rfl) (by kernel_rfl) (by kernel_rfl) (fun _ _ _ h => h) ⟨by rfl, ?_⟩ (by assumption) ?_
          rotate_left
          · intro W9 hSw
            (try dsimp only at hSw)
            obtain ⟨s0, s1, s2, s3, s4, s5, s6, s7, s8⟩ := hSw
            go_simp
            try with_reducible rfl
          (try simp only [Act.put, List.setIfInBounds_toArray, List.set_cons_zero, List.set_cons_succ])
          refine takeL (i := 14) (v := ?_) rfl (by kernel_rfl) (by kernel_rfl) (by kernel_rfl) (fun _ _ _ h => h) ⟨by rfl, ?_⟩ (by assumption) ?_
          rotate_left
          · intro W9 hSw
            (try dsimp only at hSw)
            obtain ⟨s0, s1, s2, s3, s4, s5, s6, s7, s8⟩ := hSw
            go_simp
            try with_reducible rfl
          (try simp only [Act.put, List.setIfInBounds_toArray, List.set_cons_zero, List.set_cons_succ])
          have kX : PrS w1.heap.size kk wa.drew (.pointer none) (.pointer none) := R1.out.next (Below.drew (Below.refl _ _))
          have kB : Below w.heap.size w wa.drew := Q1.out.trans ((Below.drew (Below.refl wa.heap.size wa)).mono Q1.out.size)
          have hX := hHeld
          clear hHeld A1 R1 Q1
          generalize wa.drew = X at *
          obtain ⟨E, hp⟩ := pair_read kX x.m
          have HP := Lib.hid hp
          have hbX := kX.base
          clear hp kX
          refine wpAnyH_ready (rs := [7]) (by kernel_rfl) (by simp) ?_
          refine consL rfl (by rfl) (fun K hK => ?_) ?_
          · go_simp
            go_at_call 10
            refine HP.out.mono ?_
            rintro e X2 ⟨rfl, kp, hp2⟩
            refine hK.out _ _ (hX.kp kp (Nat.le_refl _)) (fun hX' => ?_)
            have kB2 := kB.trans ((kp.below hbX).mono hw1)
            have hbX2 := Nat.le_trans hbX kp.size
            have HP2 := Lib.hid hp2
            clear hK K hX kB kp hp2 HP hbX
            refine wpAnyH_ready (rs := [15]) (by kernel_rfl) (by simp) ?_
            refine consL rfl (by rfl) (fun K hK => ?_) ?_
            · go_simp
              go_at_call 21
              refine HP2.out.mono ?_
              rintro e X3 ⟨rfl, kp, pr3⟩
              refine hK.out _ _ (hX'.kp kp (Nat.le_refl _)) (fun hX3 => ?_)
              obtain ⟨w5, rfl⟩ : ∃ x, x = X3 := ⟨_, rfl⟩
              have Q5 := Lib.hid (kB2.trans ((kp.below hbX2).mono hw1))
              have R5 := Lib.hid pr3
              clear hK K hX' kB2 kp pr3 HP2 hbX2
              refine takeL (i := 16) (v := ?_) rfl (by kernel_rfl) (by kernel_rfl) (by kernel_rfl) (fun _ _ _ h => h) ⟨by rfl, ?_⟩ (by assumption) ?_
              rotate_left
              · intro W9 hSw
                (try dsimp only at hSw)
                go_simp
                try with_reducible rfl
              (try simp only [Act.put, List.setIfInBounds_toArray, List.set_cons_zero, List.set_cons_succ])
              refine wpAnyH_done (by kernel_rfl) ?_ _
              clear hX3
              obtain ⟨lo, hlo1, hlo2⟩ := pair_low R5.out
              have HL1 := Lib.hid hlo1; have HL2 := Lib.hid hlo2
              clear hlo1 hlo2
              go_wp2_with fail
              refine (HL1.out w5 (Below.refl _ _)).mono ?_
              rintro e w6 ⟨rfl, hb6⟩
              go_wp2_with fail
              refine (HL2.out w6 hb6).mono ?_
              rintro e w7 ⟨rfl, hb7⟩
              have b7 := hb6.trans (hb7.mono hb6.size)
              obtain ⟨ln, hln1, hln2⟩ := pair_len R5.out
              have HN1 := Lib.hid (hln1 w7 b7); have HN2 := Lib.hid (hln2 w7 b7)
              have R7 := Lib.hid (R5.out.next b7)
              have Q7 := Lib.hid (Q5.out.trans (b7.mono Q5.out.size))
              clear hln1 hln2 hb6 hb7 b7 R5 Q5 HL1 HL2
              go_wp2_with fail
              refine HN1.out.mono ?_
              rintro e w' ⟨rfl, rfl⟩
              go_wp2_with fail
              refine HN2.out.mono ?_
              rintro e w' ⟨rfl, rfl⟩
              clear HN1 HN2
              by_cases h30 : j < 30
              · have i3 : (j : Int) < 30 := by omega
                go_wp2_with fail
                refine (asked_any R7.out Ak nk ck lk HLK.out (by omega) w.heap.size (HRK.out w7 Q7.out) Q7.out.size).mono ?_
                rintro e w8 ⟨rfl, hb8⟩
                have R8 := Lib.hid ((R7.out.next hb8).top)
                have Q8 := Lib.hid (Q7.out.trans (hb8.mono Q7.out.size))
                clear hb8 R7 Q7
                go_wp2_with fail
                exact ⟨⟨j + 1, by omega, by go_num, Q8, R8⟩, by simp [intOf]; omega⟩
              · have i3 : ¬ ((j : Int) < 30) := by omega
                have R8 := Lib.hid R7.out.top
                clear R7
                go_wp2_with fail
                exact ⟨⟨j + 1, by omega, by go_num, Q7, R8⟩, by simp [intOf]; omega⟩
            exact AllReadyH.nil
          exact AllReadyH.nil
        · skip
          go_upto_region 16 with (refine HPK.out.mono ?_; rintro e w' ⟨rfl, rfl⟩)
          clear HPK s0 s1 s2 s3 s4 s5 s6 s7 s8
          have hS : AmB wa.drew kk x := A1.out.next (Below.drew (Below.refl _ _))
          refine wp_heldall (S := fun X => AmB X kk x) 9 (by kernel_rfl) rfl hS (fun hHeld => ?_)
          clear hS
          refine takeL (i := 0) (v := ?_) rfl (by kernel_rfl) (by kernel_rfl) (by kernel_rfl) (fun _ _ _ h => h) ⟨by rfl, ?_⟩ (by assumption) ?_
          rotate_left
          · intro W9 hSw
            (try dsimp only at hSw)
            obtain ⟨s0, s1, s2, s3, s4, s5, s6, s7, s8⟩ := hSw
            go_simp
            try with_reducible rfl
          (try simp only [Act.put, List.setIfInBounds_toArray, List.set_cons_zero, List.set_cons_succ])
          refine takeL (i := 1) (v := ?_) rfl (by kernel_rfl) (by kernel_rfl) (by kernel_rfl) (fun _ _ _ h => h) ⟨by rfl, ?_⟩ (by assumption) ?_
          rotate_left
          · intro W9 hSw
            (try dsimp only at hSw)
            obtain ⟨s0, s1, s2, s3, s4, s5, s6, s7, s8⟩ := hSw
            go_simp
            try with_reducible rfl
          (try simp only [Act.put, List.setIfInBounds_toArray, List.set_cons_zero, List.set_cons_succ])
          refine takeL (i := 2) (v := ?_) rfl (by kernel_rfl) (by kernel_rfl) (by kernel_rfl) (fun _ _ _ h => h) ⟨by rfl, ?_⟩ (by assumption) ?_
          rotate_left
          · intro W9 hSw
            (try dsimp only at hSw)
            obtain ⟨s0, s1, s2, s3, s4, s5, s6, s7, s8⟩ := hSw
            go_simp
            try with_reducible rfl
          (try simp only [Act.put, List.setIfInBounds_toArray, List.set_cons_zero, List.set_cons_succ])
          refine takeL (i := 4) (v := ?_) rfl (by kernel_rfl) (by kernel_rfl) (by kernel_rfl) (fun _ _ _ h => h) ⟨by rfl, ?_⟩ (by assumption) ?_
          rotate_left
          · intro W9 hSw
            (try dsimp only at hSw)
            obtain ⟨s0, s1, s2, s3, s4, s5, s6, s7, s8⟩ := hSw
            go_simp
            try with_reducible rfl
          (try simp only [Act.put, List.setIfInBounds_toArray, List.set_cons_zero, List.set_cons_succ])
          refine takeL (i := 5) (v := ?_) rfl (by kernel_rfl) (by kernel_rfl) (by kernel_rfl) (fun _ _ _ h => h) ⟨by rfl, ?_⟩ (by assumption) ?_
          rotate_left
          · intro W9 hSw
            (try dsimp only at hSw)
            obtain ⟨s0, s1, s2, s3, s4, s5, s6, s7, s8⟩ := hSw
            go_simp
            try with_reducible rfl
          (try simp only [Act.put, List.setIfInBounds_toArray, List.set_cons_zero, List.set_cons_succ])
          refine takeL (i := 6) (v := ?_) rfl (by kernel_rfl) (by kernel_rfl) (by kernel_rfl) (fun _ _ _ h => h) ⟨by rfl, ?_⟩ (by assumption) ?_
          rotate_left
          · intro W9 hSw
            (try dsimp only at hSw)
            obtain ⟨s0, s1, s2, s3, s4, s5, s6, s7, s8⟩ := hSw
            go_simp
            try with_reducible rfl
          (try simp only [Act.put, List.setIfInBounds_toArray, List.set_cons_zero, List.set_cons_succ])
          have kX : PrS w1.heap.size kk wa.drew (.pointer none) (.pointer none) := R1.out.next (Below.drew (Below.refl _ _))
          have kB : Below w.heap.size w wa.drew := Q1.out.trans ((Below.drew (Below.refl wa.heap.size wa)).mono Q1.out.size)
          have hX := hHeld
          clear hHeld A1 R1 Q1
          generalize wa.drew = X at *
          obtain ⟨E, hp⟩ := pair_raise kX x.m.a
          have HP := Lib.hid hp
          have hbX := kX.base
          clear hp kX
          refine wpAnyH_ready (rs := [3]) (by kernel_rfl) (by simp) ?_
          refine consL rfl (by rfl) (fun K hK => ?_) ?_
          · go_simp
            go_at_call 11
            refine HP.out.mono ?_
            rintro e X2 ⟨rfl, kp, hp2⟩
            refine hK.out _ _ (hX.kp kp (Nat.le_refl _)) (fun hX' => ?_)
            have kB2 := kB.trans ((kp.below hbX).mono hw1)
            have hbX2 := Nat.le_trans hbX kp.size
            have HP2 := Lib.hid hp2
            clear hK K hX kB kp hp2 HP hbX
            refine wpAnyH_ready (rs := [7]) (by kernel_rfl) (by simp) ?_
            refine consL rfl (by rfl) (fun K hK => ?_) ?_
            · go_simp
              go_at_call 22
              refine HP2.out.mono ?_
              rintro e X3 ⟨rfl, kp, pr3⟩
              refine hK.out _ _ (hX'.kp kp (Nat.le_refl _)) (fun hX3 => ?_)
              obtain ⟨w5, rfl⟩ : ∃ x, x = X3 := ⟨_, rfl⟩
              have Q5 := Lib.hid (kB2.trans ((kp.below hbX2).mono hw1))
              have R5 := Lib.hid pr3
              clear hK K hX' kB2 kp pr3 HP2 hbX2
              refine takeL (i := 8) (v := ?_) rfl (by kernel_rfl) (by kernel_rfl) (by kernel_rfl) (fun _ _ _ h => h) ⟨by rfl, ?_⟩ (by assumption) ?_
              rotate_left
              · intro W9 hSw
                (try dsimp only at hSw)
                go_simp
                try with_reducible rfl
              (try simp only [Act.put, List.setIfInBounds_toArray, List.set_cons_zero, List.set_cons_succ])
              refine wpAnyH_done (by kernel_rfl) ?_ _
              clear hX3
              obtain ⟨lo, hlo1, hlo2⟩ := pair_low R5.out
              have HL1 := Lib.hid hlo1; have HL2 := Lib.hid hlo2
              clear hlo1 hlo2
              go_wp2_with fail
              refine (HL1.out w5 (Below.refl _ _)).mono ?_
              rintro e w6 ⟨rfl, hb6⟩
              go_wp2_with fail
              refine (HL2.out w6 hb6).mono ?_
              rintro e w7 ⟨rfl, hb7⟩
              have b7 := hb6.trans (hb7.mono hb6.size)
              obtain ⟨ln, hln1, hln2⟩ := pair_len R5.out
              have HN1 := Lib.hid (hln1 w7 b7); have HN2 := Lib.hid (hln2 w7 b7)
              have R7 := Lib.hid (R5.out.next b7)
              have Q7 := Lib.hid (Q5.out.trans (b7.mono Q5.out.size))
              clear hln1 hln2 hb6 hb7 b7 R5 Q5 HL1 HL2
              go_wp2_with fail
              refine HN1.out.mono ?_
              rintro e w' ⟨rfl, rfl⟩
              go_wp2_with fail
              refine HN2.out.mono ?_
              rintro e w' ⟨rfl, rfl⟩
              clear HN1 HN2
              by_cases h30 : j < 30
              · have i3 : (j : Int) < 30 := by omega
                go_wp2_with fail
                refine (asked_any R7.out Ak nk ck lk HLK.out (by omega) w.heap.size (HRK.out w7 Q7.out) Q7.out.size).mono ?_
                rintro e w8 ⟨rfl, hb8⟩
                have R8 := Lib.hid ((R7.out.next hb8).top)
                have Q8 := Lib.hid (Q7.out.trans (hb8.mono Q7.out.size))
                clear hb8 R7 Q7
                go_wp2_with fail
                exact ⟨⟨j + 1, by omega, by go_num, Q8, R8⟩, by simp [intOf]; omega⟩
              · have i3 : ¬ ((j : Int) < 30) := by omega
                have R8 := Lib.hid R7.out.top
                clear R7
                go_wp2_with fail
                exact ⟨⟨j + 1, by omega, by go_num, Q7, R8⟩, by simp [intOf]; omega⟩
            exact AllReadyH.nil
          exact AllReadyH.nil
      · skip
        have hjn : j = nl := by omega
        subst hjn
        have i9 : ¬ ((j : Int) < (j : Int)) := by omega
        go_wp2_with fail
        refine (asked_any R.out Ak nk ck lk HLK.out (by omega) w.heap.size (HRK.out wr Q.out) Q.out.size).mono ?_
        rintro e w8 ⟨rfl, hb8⟩
        have Q8 := Lib.hid (Q.out.trans (hb8.mono Q.out.size))
        clear hb8
        go_wp2_with fail
        go_ret
        exact ⟨rfl, Q8.out⟩
end Go.Proofs.Ytnhobjjgpnbnmaa
