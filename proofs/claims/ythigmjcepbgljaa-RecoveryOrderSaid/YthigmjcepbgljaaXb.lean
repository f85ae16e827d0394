/- The walk: in whatever order a work gets its answers. -/
import Derived.Test.YthigmjcepbgljaaWh
import Derived.Test.YthigmjcepbgljaaWj
import Derived.Test.YthigmjcepbgljaaVj
import Derived.Test.YthigmjcepbgljaaXa
import Derived.Test.YthigmjcepbgljaaPick
namespace Go.Proofs.Ythigmjcepbgljaa
open Go.RowKit Go.St
set_option linter.unusedVariables false
set_option linter.unusedSimpArgs false
set_option maxRecDepth 100000

/-- The list of yesses under way: the first k are laid. -/
structure YB (W wr : World) (n : Nat) (th : List Bool) (k : Nat) : Prop where
  be : Below W.heap.size W wr
  lt : W.heap.size < wr.heap.size
  fz : ∀ o, wr.frozen? ⟨W.heap.size, o, none⟩ = false
  ce : ∀ j, j < n → wr.cell? ⟨W.heap.size, j, none⟩ = some (.bool (decide (j < k) && yv th j))
theorem Rd.only {W W' : World} {B B0 g : Nat} {A : Option Addr} {xs : List Value} (h : Rd W B0 A xs) (ho : Only B g W W') (hb : B0 ≤ B) (hne : B0 ≤ g) : Rd W' B0 A xs :=
  h.keep (fun p hp => ho.cell (by omega) (by omega))
theorem BxQ.only {W W' : World} {B b g : Nat} {r : Rec} (h : BxQ W b r) (ho : Only B g W W') (hb : b < B) (hne : b ≠ g) : BxQ W' b r :=
  h.keep (Nat.lt_of_lt_of_le h.lt ho.size) (fun o => ho.cell (p := ⟨b, o, none⟩) hb hne) (fun o => ho.frozen (p := ⟨b, o, none⟩) hb hne)
theorem vd_fin (s : Rec) (h : chkR s = 0) (hs : s.st = 3 ∨ s.st = 4) : vdV s true [] = (if s.st = 3 then 2 else 3) ∧ vdE s true [] = 0 := by
  unfold vdV vdE
  rcases hs with h3 | h3 <;> simp [h, h3]
theorem vv_eq (th : List Bool) (q : Nat) : (if yv th q then (1 : Int) else 2) = vv th q := rfl
theorem vv_ne (th : List Bool) (q : Nat) : vv th q ≠ 0 := by unfold vv; split <;> decide
theorem made_bool (n j : Nat) (h : j < n) : (madeCells #[Value.bool false] n)[j]? = some (.bool false) := by
  have h1 := toList_madeCells_one (.bool false) n
  rw [← Array.getElem?_toList, h1, List.getElem?_replicate, if_pos h]
theorem YB.start (W : World) (n : Nat) (th : List Bool) (t : TypeId) : YB W (W.alloc (.cells (madeCells #[.bool false] n) t)) n th 0 :=
  ⟨(Below.refl _ _).alloc (Nat.le_refl _) _, by simp, fun o => by simp, fun j hj => by rw [World.cell?_alloc_mark, made_bool n j hj]; simp⟩
theorem YB.step {W wr : World} {n k : Nat} {th : List Bool} (h : YB W wr n th k) (hk : k < n) : YB W (wr.setCell ⟨W.heap.size, k, none⟩ (.bool (yv th k))) n th (k + 1) := by
  obtain ⟨h1, h2, h3, h4⟩ := h
  refine ⟨h1.setCell (Nat.le_refl _) _, by simpa [World.setCell] using h2, fun o => by simp [h3], fun j hj => ?_⟩
  by_cases e : j = k
  · subst e
    have := h4 j hj
    simp [go_sem, this]
  · rw [World.cell?_setCell_other wr ⟨W.heap.size, k, none⟩ ⟨W.heap.size, j, none⟩ _ (fun e2 => e (congrArg Addr.off e2).symm), h4 j hj]
    have : decide (j < k + 1) = decide (j < k) := by rw [decide_eq_decide]; omega
    rw [this]
theorem yv_in {th : List Bool} {k : Nat} (h : k < th.length) : yv th k = th[k] := by simp [yv, List.getD, h]
theorem yv_out {th : List Bool} {k : Nat} (h : th.length ≤ k) : yv th k = true := by simp [yv, List.getD, h]
set_option maxHeartbeats 1600000 in
theorem recoveryOrder_walk (w : World) (r : Rec) (hl : fit r) (hr : Rd w w.heap.size r.A (sv r.l)) (At : Option Addr) (nt ct : Nat) (th : List Bool) (ht : th.length = nt) (hnt : nt ≤ 140737488355328) (hrt : Rd w w.heap.size At (lv th))
    (Ao : Option Addr) (no co : Nat) (ol : List Int) (ho : ol.length = no) (hno : no ≤ 140737488355328) (hob : ∀ x ∈ ol, (Lit.int .i64 x).wf = true) (hro : Rd w w.heap.size Ao (nv ol)) :
    Calls Try.prog 6 #[r.v, .slice At nt ct, .slice Ao no co] w fun e w' => e = .returned (.bool true) ∧ Below w.heap.size w w' := by
  by_cases hE : newE r = 0
  case neg =>
    have HN := Lib.hid (fun W (h : Below w.heap.size w W) => wnew_no r hl w.heap.size W (hr.below h) h.size hE)
    generalize newE r = E at *
    have hne : (E == 0) = false := by simpa using hE
    have hne2 : (E != 0) = true := by rw [bne, hne]; rfl
    clear hE hl hr hrt hro ht ho hob
    obtain ⟨nd, nu, st, ⟨aw, al, ag⟩, A, n, c, l, beat, ⟨pw, pl, pg⟩⟩ := r
    unfold Rec.v at *
    simp only at HN ⊢
    go_enter Try.func6, Try.ntmps6
    go_wp2_with fail
    refine (lives29_any _).mono ?_
    rintro e w1 ⟨rfl, hb⟩
    obtain ⟨hcw1, hfw1⟩ := bcell hb
    have HBw1 : Hid (Below w.heap.size w w1) := Below.go (by go_grown) hb (by go_size)
    have hzw10 : w.heap.size < w1.heap.size := by have := hb.size; (try simp at this); omega
    have HEw1 := Lib.hid hb
    clear hb
    go_wp2_with fail
    refine (HN.out _ HBw1.out).mono ?_
    rintro e w2 ⟨rfl, hb⟩
    obtain ⟨hcw2, hfw2⟩ := bcell hb
    have HBw2 : Hid (Below w.heap.size w w2) := Below.go (by have hpre := HBw1.out; have hps := hpre.size; go_grown) hb (by have hpre := HBw1.out; have hps := hpre.size; go_size)
    have hzw20 : w.heap.size < w2.heap.size := by have := hb.size; (try simp at this); omega
    have HEw2 := Lib.hid hb
    clear hb
    go_wp2
    go_ret
    exact ⟨rfl, HBw2.out⟩
  obtain ⟨hck, hst, hn0, hn24⟩ := newE_st hE
  have HRI := Lib.hid (chk_rise hck hst)
  have hce := chk_end hck hst
  have HN := Lib.hid (fun W (h : Below w.heap.size w W) => wnew_ok r hl w.heap.size W (hr.below h) h.size hE)
  have hvd := fun B W (h : Rd W B r.A (sv r.l)) (hB : B ≤ W.heap.size) (Ay : Option Addr) (cy : Nat) (hy : Rd W B Ay (lv (yes_ th r.n))) => verdict_any r hl B true Ay r.n cy (yes_ th r.n) (yes_length _ _) (by omega) W h hy hB
  have hvV : vdV r true (yes_ th r.n) = if allY th r.n then 2 else 1 := by
    unfold vdV
    rw [if_neg (by decide), if_neg (fun h => h hck), if_neg (by omega), if_neg (by omega), if_neg (by omega), if_neg (fun h => h (yes_length _ _)), yes_any]
    cases allY th r.n <;> rfl
  have hvE : vdE r true (yes_ th r.n) = 0 := by
    unfold vdE
    rw [if_neg (by decide), if_neg (fun h => h hck), if_neg (fun h => h.2 (yes_length _ _))]
  rw [hvV, hvE] at hvd
  have hse := fun whole B W (h : Rd W B r.A (sv r.l)) (hB : B ≤ W.heap.size) => settle_any r r.at_ whole hl B W h hB (by omega)
  have hsE : settleE r r.at_ = 0 := by unfold settleE; rw [if_neg (fun h => h hck), if_neg (by omega), if_neg (by omega), if_pos ⟨hst, rfl⟩]
  have hsO : ∀ whole, settleO r r.at_ whole = if whole then endR r 3 r.at_ r.n r.l else overO r := fun whole => by unfold settleO; rw [if_pos hsE]
  simp only [hsE, hsO] at hse
  have HVD := Lib.hid hvd
  have HSE := Lib.hid hse
  have HL : Hid (r.l.length = r.n) := Lib.hid hl
  have HR := Lib.hid hr; have HRT := Lib.hid hrt; have HRO := Lib.hid hro; have HOB := Lib.hid hob; have HT := Lib.hid ht; have HO := Lib.hid ho; have HCE := Lib.hid hce
  clear hvd hse hsE hsO hvV hvE hl hr hrt hro hob ht ho hce hck hE
  obtain ⟨nd, nu, st, ⟨aw, al, ag⟩, A, n, c, l, beat, ⟨pw, pl, pg⟩⟩ := r
  simp only at hst hn0 hn24 HL HR
  subst hst
  have HN2 : Hid (∀ W, Below w.heap.size w W → Calls Try.prog 18 #[.agg #[.int .i32 nd, .int .i32 nu, .int .u8 2, .int .i64 aw, .int .i32 al, .int .i32 ag, .slice A n c, .int .i64 beat, .int .i64 pw, .int .i32 pl, .int .i32 pg]] W (fun e w' => ∃ b g A' c', e = .returned (.tuple #[.pointer (some ⟨b, 0, none⟩), .int .i64 0]) ∧ WkB w' W.heap.size w'.heap.size b g ⟨nd, nu, 2, ⟨aw, al, ag⟩, A', n, c', l, beat, ⟨pw, pl, pg⟩⟩ (List.replicate n 0) ∧ Below W.heap.size W w')) := Lib.hid HN.out
  clear HN
  have hmk := fun W => run_make_row' (P := Try.prog) 46 4 (.bool false) 1 Try.underlying46 (by kernel_rfl) rfl .i64 .i64 n (by omega) (by omega) W
  have HMK := Lib.hid hmk
  clear hmk
  unfold Rec.v at *
  simp only at HVD HSE ⊢
  go_enter Try.func6, Try.ntmps6
  go_wp2_with fail
  refine (lives29_any _).mono ?_
  rintro e w1 ⟨rfl, hb⟩
  have HB1 : Hid (Below w.heap.size w w1) := Below.go (by go_grown) hb (by go_size)
  have X1 := Lib.hid ((BxQ.new w ⟨nd, nu, 2, ⟨aw, al, ag⟩, A, n, c, l, beat, ⟨pw, pl, pg⟩⟩ 30).next hb)
  clear hb
  obtain ⟨x0, x1, x2, x3, x4, x5, x6, x7, x8, x9, x10, x11, x12⟩ := X1.out
  dsimp only at x2 x3 x4 x5 x6 x7 x8 x9 x10 x11 x12
  go_wp2_with fail
  refine (HN2.out _ HB1.out).mono ?_
  rintro e w2 ⟨b, g, A', c', rfl, hW, hb⟩
  have HB2 : Hid (Below w.heap.size w w2) := Lib.hid (HB1.out.trans (hb.mono HB1.out.size))
  have X2 := Lib.hid (X1.out.next hb)
  have HW2 := Lib.hid hW
  have hlo : w.heap.size < w1.heap.size := X1.out.lt
  have hmk := HMK.out w2
  clear x0 x1 x2 x3 x4 x5 x6 x7 x8 x9 x10 x11 x12 X1 hb hW HN2 HB1 HMK
  generalize hlo1 : w1.heap.size = lo at *
  clear hlo1
  have c6 := X2.out.c6
  dsimp only at c6
  have q0 : w.heap.size < w2.heap.size := X2.out.lt
  go_wp2
  have Y0 := Lib.hid (YB.start w2 n th 4)
  clear hmk c6 q0
  go_loopw [9, 11] (fun av i wr => ∃ k : Nat, k ≤ n ∧ i = .int .i64 k ∧ av = .bool (allY th k) ∧ Hid (YB w2 wr n th k)) (fun _ i _ => n - (intOf i).toNat)
  case atStart => exact ⟨0, Nat.zero_le _, rfl, rfl, Y0⟩
  case round =>
    obtain ⟨k, hk, rfl, rfl, hY⟩ := hrel
    clear Y0
    have c6 : wr.cell? ⟨w.heap.size, 6, none⟩ = some (.slice A n c) := (hY.out.be.cell (p := ⟨w.heap.size, 6, none⟩) X2.out.lt).trans X2.out.c6
    by_cases hlt : k < n
    · have hg := hY.out.ce k hlt
      have hfz := hY.out.fz
      have hYS := Lib.hid (hY.out.step hlt)
      have hal := allY_succ th k
      by_cases hkt : k < nt
      · have hkl : k < th.length := by rw [HT.out]; exact hkt
        obtain ⟨bt, ot, hAt, hbt, htc⟩ := ((HRT.out.below HB2.out).heap.below hY.out.be).at_ (lv_get th k hkl)
        rw [yv_in hkl] at hYS hal
        generalize th[k] = s at *
        generalize hq : allY th k = q at *
        clear hq
        subst hAt
        have HA := Lib.hid hal
        have hd : decide (nt ≤ k) = false := decide_eq_false (by omega)
        clear hal
        cases q <;> cases s
        all_goals
          go_wp2
          exact ⟨⟨k + 1, by omega, by go_num, by rw [HA.out]; rfl, hYS⟩, by simp [intOf]; omega⟩
      · have hkl : th.length ≤ k := by rw [HT.out]; omega
        rw [yv_out hkl] at hYS hal
        generalize hq : allY th k = q at *
        clear hq
        have HA := Lib.hid hal
        have hd : decide (nt ≤ k) = true := decide_eq_true (by omega)
        clear hal
        cases q
        all_goals
          go_wp2
          exact ⟨⟨k + 1, by omega, by go_num, by rw [HA.out]; rfl, hYS⟩, by simp [intOf]; omega⟩
    · obtain rfl : n = k := by omega
      obtain ⟨w4, rfl⟩ : ∃ x, x = wr := ⟨_, rfl⟩
      clear hlt hk
      have HR4 := Lib.hid (HW2.out.next hY.out.be)
      have X4 := Lib.hid (X2.out.next hY.out.be)
      have HB4 : Hid (Below w.heap.size w w4) := Lib.hid (HB2.out.trans (hY.out.be.mono HB2.out.size))
      clear X2 HW2
      have hglo : lo ≤ g := HR4.out.gl.1
      have hghi : g < w2.heap.size := HR4.out.gl.2
      go_wp2
      have HC0 : Hid (doneB (List.replicate n 0) = true ∨ cnt0 (List.replicate n 0) ≤ n - 0) := Lib.hid (.inr (by rw [cnt0_rep]; omega))
      have HA0 : Hid (okA th (List.replicate n 0)) := Lib.hid (okA_rep th n)
      have HO0 : Hid (Only w4.heap.size g w4 w4) := Lib.hid (Only.refl _ _ _)
      go_loopw [12] (fun i wq => ∃ (k : Nat) (ans : List Int), k ≤ n ∧ i = .int .i64 k ∧ Hid (okA th ans) ∧ Hid (doneB ans = true ∨ cnt0 ans ≤ n - k) ∧ Hid (WkB wq lo w2.heap.size b g ⟨nd, nu, 2, ⟨aw, al, ag⟩, A', n, c', l, beat, ⟨pw, pl, pg⟩⟩ ans) ∧ Hid (Only w4.heap.size g w4 wq)) (fun i _ => n + 1 - (intOf i).toNat)
      case atStart => exact ⟨0, _, Nat.zero_le _, rfl, HA0, HC0, HR4, HO0⟩
      case round =>
        obtain ⟨k, ans, hk, rfl, hA, hC, hW, hO⟩ := hrel
        obtain ⟨wq, rfl⟩ : ∃ x, x = wr := ⟨_, rfl⟩
        clear HA0 HC0 HO0 HR4
        have X5 := Lib.hid (X4.out.only hO.out X4.out.lt (by omega))
        have c6 : wq.cell? ⟨w.heap.size, 6, none⟩ = some (.slice A n c) := X5.out.c6
        have HWT := Lib.hid (want_any wq hW.out)
        have hwl : (wantF l ans).length ≤ n := Nat.le_trans (wantF_le l ans) (Nat.le_of_eq hW.out.gn)
        have hal : ans.length ≤ l.length := by rw [HL.out]; exact Nat.le_of_eq hW.out.gn
        have hwn := want_none (l := l) (ans := ans) hal
        have hwa := fun s => want_at (l := l) (ans := ans) hal (s := s)
        have hga := fun i (hi : i < l.length) (hw : l[i] ∈ wantF l ans) yes => got_at HRI.out hi hw yes
        dsimp only at HWT
        have hnd : doneB ans = true → wantF l ans = [] := fun h => by unfold wantF; rw [if_pos h]
        generalize hLL : wantF l ans = L at *
        have HND := Lib.hid hnd; clear hnd
        have HLL := Lib.hid hLL
        have HWN := Lib.hid hwn; have HWA := Lib.hid hwa; have HGA := Lib.hid hga; have HAL := Lib.hid hal
        clear hwn hwa hga hLL hal
        rcases Nat.eq_zero_or_pos L.length with h0 | h0
        · have hL0 : L = [] := List.eq_nil_of_length_eq_zero h0
          subst hL0
          simp only [List.length_nil] at HWT
          have HD := Lib.hid (HWN.out rfl)
          clear h0 hwl
          go_wp2_with fail
          refine HWT.out.mono ?_
          rintro e w5 ⟨A5, c5, rfl, hrn, hb⟩
          have HW5 := Lib.hid (hW.out.next hb)
          have X6 := Lib.hid (X5.out.next hb)
          have hwq4 : w4.heap.size ≤ wq.heap.size := hO.out.size
          have hw5q : wq.heap.size ≤ w5.heap.size := hb.size
          have hlt4 : w2.heap.size < w4.heap.size := hY.out.lt
          have HBq : Hid (Below w.heap.size w wq) := Lib.hid (Below.onto HB4.out hO.out (by omega) HB4.out.size)
          have HB5 : Hid (Below w.heap.size w w5) := Lib.hid (HBq.out.trans (hb.mono HBq.out.size))
          have RA4 : Rd w4 w.heap.size A (sv l) := HR.out.keep (fun p hp => HB4.out.cell hp)
          have RA5 : Rd wq w.heap.size A (sv l) := Rd.only RA4 hO.out (Nat.le_of_lt X4.out.lt) (by omega)
          have RA6 : Hid (Rd w5 w.heap.size A (sv l)) := Lib.hid (RA5.keep (fun p hp => hb.cell (Nat.lt_trans hp X5.out.lt)))
          have RY : Hid (Rd w5 (w2.heap.size + 1) (some ⟨w2.heap.size, 0, none⟩) (lv (yes_ th n))) := Lib.hid (fun _ => by
            refine ⟨w2.heap.size, 0, rfl, by omega, fun i v hv => ?_⟩
            have hin : i < n := by
              have := (List.getElem?_eq_some_iff.1 hv).1
              rw [lv_length, yes_length] at this
              exact this
            have h1 := hY.out.ce i hin
            rw [decide_eq_true hin, Bool.true_and] at h1
            have h2 := (hO.out.cell (p := ⟨w2.heap.size, i, none⟩) hlt4 (by show w2.heap.size ≠ g; omega)).trans h1
            have h3 := (hb.cell (p := ⟨w2.heap.size, i, none⟩) (Nat.lt_of_lt_of_le hlt4 hwq4)).trans h2
            rw [Nat.zero_add, h3]
            have h4 := lv_get (yes_ th n) i (by rw [yes_length]; exact hin)
            rw [h4] at hv
            injection hv with hv
            rw [← hv]
            have h5 := yes_get th n i hin
            rw [List.getElem?_eq_getElem (by rw [yes_length]; exact hin)] at h5
            injection h5 with h5
            rw [h5])
          have hgl := HL.out
          have HGL := Lib.hid hgl
          clear hrn hb RA4 RA5 c6 hgl
          cases hq : allY th n
          · skip
            have hvd := HVD.out
            have hse := HSE.out false
            simp only [hq, Bool.false_eq_true, if_true, if_false] at hvd hse
            have HV := Lib.hid hvd
            have HS : Hid (∀ B W, Rd W B A (sv l) → B ≤ W.heap.size → Calls Try.prog 27 #[.agg #[.int .i32 nd, .int .i32 nu, .int .u8 2, .int .i64 aw, .int .i32 al, .int .i32 ag, .slice A n c, .int .i64 beat, .int .i64 pw, .int .i32 pl, .int .i32 pg], .agg #[.int .i64 aw, .int .i32 al, .int .i32 ag], .bool false] W (fun e w' => ∃ A9 c9, e = .returned (.tuple #[.agg #[.int .i32 nd, .int .i32 nu, .int .u8 4, .int .i64 0, .int .i32 0, .int .i32 0, .slice A9 0 c9, .int .i64 beat, .int .i64 pw, .int .i32 pl, .int .i32 pg], .int .i64 0]) ∧ RdN w' W.heap.size A9 (sv ([] : List ByteArray)) ∧ Below W.heap.size W w')) := Lib.hid hse
            clear hvd hse
            have hwa := whole_all hA.out HD.out
            have hgn : ans.length = n := hW.out.gn
            rw [hgn, hq] at hwa
            have HDN := Lib.hid (done_is (HW5.out) hwa HD.out)
            clear hwa hgn hq
            go_wp2_with fail
            refine HDN.out.mono ?_
            rintro e w' ⟨rfl, rfl⟩
            obtain ⟨x0, x1, x2, x3, x4, x5, x6, x7, x8, x9, x10, x11, x12⟩ := X6.out
            dsimp only at x2 x3 x4 x5 x6 x7 x8 x9 x10 x11 x12
            go_wp2_with fail
            refine (HV.out (w2.heap.size + 1) w5 (RA6.out.more (by omega)) (by have := hY.out.lt; omega) _ _ RY.out).mono ?_
            rintro e w6 ⟨rfl, hb⟩
            have HB6 : Hid (Below w.heap.size w w6) := Lib.hid (HB5.out.trans (hb.mono HB5.out.size))
            have X7 := Lib.hid (X6.out.next hb)
            have RA7 : Hid (Rd w6 w.heap.size A (sv l)) := Lib.hid (RA6.out.keep (fun p hp => hb.cell (Nat.lt_trans hp X6.out.lt)))
            clear hb x0 x1 x2 x3 x4 x5 x6 x7 x8 x9 x10 x11 x12
            obtain ⟨x0, x1, x2, x3, x4, x5, x6, x7, x8, x9, x10, x11, x12⟩ := X7.out
            dsimp only at x2 x3 x4 x5 x6 x7 x8 x9 x10 x11 x12
            go_wp2_with fail
            refine (HS.out w.heap.size w6 RA7.out HB6.out.size).mono ?_
            rintro e w7 ⟨A9, c9, rfl, hrn, hb⟩
            have HB7 : Hid (Below w.heap.size w w7) := Lib.hid (HB6.out.trans (hb.mono HB6.out.size))
            have HRN9 := Lib.hid hrn
            clear hb hrn x0 x1 x2 x3 x4 x5 x6 x7 x8 x9 x10 x11 x12
            have hck : chkR ⟨nd, nu, 4, ⟨0, 0, 0⟩, A9, 0, c9, [], beat, ⟨pw, pl, pg⟩⟩ = 0 := HCE.out.2
            have hvf := vd_fin ⟨nd, nu, 4, ⟨0, 0, 0⟩, A9, 0, c9, [], beat, ⟨pw, pl, pg⟩⟩ hck (by simp)
            simp only [if_true, if_false, show ((4 : Int) = 3) = False by simp] at hvf
            have HVF := Lib.hid (fun W (h : Rd W W.heap.size A9 (sv ([] : List ByteArray))) => verdict_any ⟨nd, nu, 4, ⟨0, 0, 0⟩, A9, 0, c9, [], beat, ⟨pw, pl, pg⟩⟩ rfl W.heap.size true none 0 0 [] rfl (by omega) W h Rd.nil (Nat.le_refl _))
            rw [hvf.1, hvf.2] at HVF
            clear hvf hck
            go_wp2_with fail
            refine (HVF.out _ (HRN9.out.rd.alloc (Nat.le_refl _) _).heap).mono ?_
            rintro e w8 ⟨rfl, hb⟩
            have HB8 : Hid (Below w.heap.size w w8) := Lib.hid ((HB7.out.alloc HB7.out.size _).trans (hb.mono (Nat.le_trans HB7.out.size (by simp))))
            have hst := (BxQ.new w7 ⟨nd, nu, 4, ⟨0, 0, 0⟩, A9, 0, c9, [], beat, ⟨pw, pl, pg⟩⟩ 30).next hb
            have hst2 := hst.c2
            dsimp only at hst2
            clear hb hst
            go_wp2
            go_ret
            exact ⟨rfl, HB8.out⟩
          · skip
            have hvd := HVD.out
            have hse := HSE.out true
            simp only [hq, Bool.false_eq_true, if_true, if_false] at hvd hse
            have HV := Lib.hid hvd
            have HS : Hid (∀ B W, Rd W B A (sv l) → B ≤ W.heap.size → Calls Try.prog 27 #[.agg #[.int .i32 nd, .int .i32 nu, .int .u8 2, .int .i64 aw, .int .i32 al, .int .i32 ag, .slice A n c, .int .i64 beat, .int .i64 pw, .int .i32 pl, .int .i32 pg], .agg #[.int .i64 aw, .int .i32 al, .int .i32 ag], .bool true] W (fun e w' => ∃ A9 c9, e = .returned (.tuple #[.agg #[.int .i32 nd, .int .i32 nu, .int .u8 3, .int .i64 aw, .int .i32 al, .int .i32 ag, .slice A9 n c9, .int .i64 beat, .int .i64 pw, .int .i32 pl, .int .i32 pg], .int .i64 0]) ∧ RdN w' W.heap.size A9 (sv l) ∧ Below W.heap.size W w')) := Lib.hid hse
            clear hvd hse
            have hwa := whole_all hA.out HD.out
            have hgn : ans.length = n := hW.out.gn
            rw [hgn, hq] at hwa
            have HDN := Lib.hid (done_is (HW5.out) hwa HD.out)
            clear hwa hgn hq
            go_wp2_with fail
            refine HDN.out.mono ?_
            rintro e w' ⟨rfl, rfl⟩
            obtain ⟨x0, x1, x2, x3, x4, x5, x6, x7, x8, x9, x10, x11, x12⟩ := X6.out
            dsimp only at x2 x3 x4 x5 x6 x7 x8 x9 x10 x11 x12
            go_wp2_with fail
            refine (HV.out (w2.heap.size + 1) w5 (RA6.out.more (by omega)) (by have := hY.out.lt; omega) _ _ RY.out).mono ?_
            rintro e w6 ⟨rfl, hb⟩
            have HB6 : Hid (Below w.heap.size w w6) := Lib.hid (HB5.out.trans (hb.mono HB5.out.size))
            have X7 := Lib.hid (X6.out.next hb)
            have RA7 : Hid (Rd w6 w.heap.size A (sv l)) := Lib.hid (RA6.out.keep (fun p hp => hb.cell (Nat.lt_trans hp X6.out.lt)))
            clear hb x0 x1 x2 x3 x4 x5 x6 x7 x8 x9 x10 x11 x12
            obtain ⟨x0, x1, x2, x3, x4, x5, x6, x7, x8, x9, x10, x11, x12⟩ := X7.out
            dsimp only at x2 x3 x4 x5 x6 x7 x8 x9 x10 x11 x12
            go_wp2_with fail
            refine (HS.out w.heap.size w6 RA7.out HB6.out.size).mono ?_
            rintro e w7 ⟨A9, c9, rfl, hrn, hb⟩
            have HB7 : Hid (Below w.heap.size w w7) := Lib.hid (HB6.out.trans (hb.mono HB6.out.size))
            have HRN9 := Lib.hid hrn
            clear hb hrn x0 x1 x2 x3 x4 x5 x6 x7 x8 x9 x10 x11 x12
            have hck : chkR ⟨nd, nu, 3, ⟨aw, al, ag⟩, A9, n, c9, l, beat, ⟨pw, pl, pg⟩⟩ = 0 := HCE.out.1
            have hvf := vd_fin ⟨nd, nu, 3, ⟨aw, al, ag⟩, A9, n, c9, l, beat, ⟨pw, pl, pg⟩⟩ hck (by simp)
            simp only [if_true, if_false, show ((4 : Int) = 3) = False by simp] at hvf
            have HVF := Lib.hid (fun W (h : Rd W W.heap.size A9 (sv l)) => verdict_any ⟨nd, nu, 3, ⟨aw, al, ag⟩, A9, n, c9, l, beat, ⟨pw, pl, pg⟩⟩ HGL.out W.heap.size true none 0 0 [] rfl (by omega) W h Rd.nil (Nat.le_refl _))
            rw [hvf.1, hvf.2] at HVF
            clear hvf hck
            go_wp2_with fail
            refine (HVF.out _ (HRN9.out.rd.alloc (Nat.le_refl _) _).heap).mono ?_
            rintro e w8 ⟨rfl, hb⟩
            have HB8 : Hid (Below w.heap.size w w8) := Lib.hid ((HB7.out.alloc HB7.out.size _).trans (hb.mono (Nat.le_trans HB7.out.size (by simp))))
            have hst := (BxQ.new w7 ⟨nd, nu, 3, ⟨aw, al, ag⟩, A9, n, c9, l, beat, ⟨pw, pl, pg⟩⟩ 30).next hb
            have hst2 := hst.c2
            dsimp only at hst2
            clear hb hst
            go_wp2
            go_ret
            exact ⟨rfl, HB8.out⟩
        · have e0 : ((L.length : Int) == 0) = false := by rw [beq_eq_false_iff_ne]; omega
          by_cases hko : k < no
          · have hkl : k < ol.length := by rw [HO.out]; exact hko
            have hx := (by simpa [Lit.wf, IntKind.min, IntKind.max, IntKind.signed, IntKind.bits] using HOB.out ol[k] (List.getElem_mem hkl) : -9223372036854775808 ≤ ol[k] ∧ ol[k] ≤ 9223372036854775807)
            have RO4 : Rd w4 w.heap.size Ao (nv ol) := HRO.out.keep (fun p hp => HB4.out.cell hp)
            obtain ⟨bo, oo, hAo, hbo, hoc⟩ := (Rd.only RO4 hO.out (Nat.le_of_lt X4.out.lt) (by omega)).at_ (nv_get ol k hkl)
            have HOC := Lib.hid hoc
            clear hoc RO4
            generalize ol[k] = x at *
            obtain ⟨p, hpx, hpl⟩ : ∃ p : Nat, x % (L.length : Int) = (p : Int) ∧ p < L.length := ⟨(x % (L.length : Int)).toNat, by have := Int.emod_nonneg x (show (L.length : Int) ≠ 0 by omega); omega, by have := Int.emod_nonneg x (show (L.length : Int) ≠ 0 by omega); have := Int.emod_lt_of_pos x (show (0 : Int) < L.length by omega); omega⟩
            have HPX := Lib.hid hpx
            have HPK := Lib.hid (fun W => pick_any x (L.length : Int) (by omega) (by omega) hx W)
            rw [hpx] at HPK
            clear hpx hx
            subst hAo
            go_wp2_with fail
            refine HWT.out.mono ?_
            rintro e w5 ⟨A5, c5, rfl, hrn, hb⟩
            have hoc : w5.cell? ⟨bo, oo + k, none⟩ = some (.int .i64 x) := (hb.cell (p := ⟨bo, oo + k, none⟩) (Nat.lt_trans hbo X5.out.lt)).trans HOC.out
            have HW5 := Lib.hid (hW.out.next hb)
            have X6 := Lib.hid (X5.out.next hb)
            have HRN := Lib.hid hrn
            have hp : p < L.length := hpl
            obtain ⟨q, hqa, ⟨hql, hqs⟩, hq0⟩ := HWA.out L[p] (List.getElem_mem hp)
            have hgq := HGA.out q hql (by rw [hqs]; exact List.getElem_mem hp) (yv th q)
            rw [hqs, vv_eq] at hgq
            have hqn : q < n := by rw [HL.out] at hql; exact hql
            obtain ⟨kb, off, hA5, hk1, hk2, hkc⟩ := hrn (by intro e; have := congrArg List.length e; rw [sv_length] at this; simp at this; rw [this] at h0; simp at h0)
            have hkc := hkc p _ (sv_get L p hp)
            have hwq4 : w4.heap.size ≤ wq.heap.size := hO.out.size
            have hw5q : wq.heap.size ≤ w5.heap.size := hb.size
            have hgr : g < w4.heap.size := Nat.lt_of_lt_of_le hghi (Nat.le_of_lt hY.out.lt)
            have hy5 : w5.cell? ⟨w2.heap.size, q, none⟩ = some (.bool (yv th q)) := by
              have h1 := hY.out.ce q hqn
              rw [decide_eq_true hqn, Bool.true_and] at h1
              have h2 := (hO.out.cell (p := ⟨w2.heap.size, q, none⟩) hY.out.lt (by show w2.heap.size ≠ g; omega)).trans h1
              exact (hb.cell (p := ⟨w2.heap.size, q, none⟩) (Nat.lt_of_lt_of_le hY.out.lt hwq4)).trans h2
            have RA4 : Rd w4 w.heap.size A (sv l) := HR.out.keep (fun p hp => HB4.out.cell hp)
            have RA5 : Rd wq w.heap.size A (sv l) := Rd.only RA4 hO.out (Nat.le_of_lt X4.out.lt) (by omega)
            have RA6 : Hid (Rd w5 w.heap.size A (sv l)) := Lib.hid (RA5.keep (fun p hp => hb.cell (Nat.lt_trans hp X5.out.lt)))
            have HB5 := Lib.hid hb
            have HKC := Lib.hid hkc; have HY5 := Lib.hid hy5; have HQS := Lib.hid hqs; have HGQ := Lib.hid hgq; have HQ0 := Lib.hid hq0
            generalize hss : L[p] = s at *
            clear hss hrn hb hkc hy5 RA4 RA5 hqs hgq hq0 c6
            have c6 : w5.cell? ⟨w.heap.size, 6, none⟩ = some (.slice A n c) := X6.out.c6
            (go_wp2_with fail; refine (HPK.out _).mono ?_; rintro e w' ⟨rfl, rfl⟩; go_wp2)
            have HZ0 : Hid (WkB w5 lo w2.heap.size b g ⟨nd, nu, 2, ⟨aw, al, ag⟩, A', n, c', l, beat, ⟨pw, pl, pg⟩⟩ (if 0 ≤ q then ans else ans.set q (vv th q))) := Lib.hid (by rw [if_pos (Nat.zero_le _)]; exact HW5.out)
            have HZO : Hid (Only w5.heap.size g w5 w5) := Lib.hid (Only.refl _ _ _)
            go_loopw [15] (fun i wz => ∃ j : Nat, j ≤ n ∧ i = .int .i64 j ∧ Hid (WkB wz lo w2.heap.size b g ⟨nd, nu, 2, ⟨aw, al, ag⟩, A', n, c', l, beat, ⟨pw, pl, pg⟩⟩ (if j ≤ q then ans else ans.set q (vv th q))) ∧ Hid (Only w5.heap.size g w5 wz)) (fun i _ => n - (intOf i).toNat)
            case atStart => exact ⟨0, Nat.zero_le _, rfl, HZ0, HZO⟩
            case round =>
              obtain ⟨j, hj, rfl, hWz, hOz⟩ := hrel
              obtain ⟨wz, rfl⟩ : ∃ x, x = wr := ⟨_, rfl⟩
              clear HZ0 HZO c6
              have c6 : wz.cell? ⟨w.heap.size, 6, none⟩ = some (.slice A n c) := (X6.out.only hOz.out X6.out.lt (by omega)).c6
              by_cases hlt : j < n
              · have hjl : j < l.length := by rw [HL.out]; exact hlt
                obtain ⟨ka, koff, hAk, hka, hkac⟩ := (Rd.only RA6.out hOz.out (Nat.le_of_lt X6.out.lt) (by omega)).at_ (sv_get l j hjl)
                have hkw : wz.cell? ⟨kb, off + p, none⟩ = some (.string s) := (hOz.out.cell (p := ⟨kb, off + p, none⟩) hk2 (by show kb ≠ g; omega)).trans HKC.out
                have hjq : j ≠ q → l[j] ≠ s := fun h e => h (rise_inj HRI.out hjl hql (e.trans HQS.out.symm))
                subst hA5 hAk
                by_cases hq : j = q
                · subst hq
                  have hqs := HQS.out
                  rw [hqs] at hkac
                  have hyz : wz.cell? ⟨w2.heap.size, j, none⟩ = some (.bool (yv th j)) := (hOz.out.cell (p := ⟨w2.heap.size, j, none⟩) (Nat.lt_of_lt_of_le hY.out.lt (Nat.le_trans hwq4 hw5q)) (by show w2.heap.size ≠ g; omega)).trans HY5.out
                  have hWz1 := hWz.out
                  rw [if_pos (Nat.le_refl _)] at hWz1
                  have HG := Lib.hid (fun W (h : Below wz.heap.size wz W) => got_is (hWz1.next h) (key := s) (yes := yv th j) HGQ.out.1 HGQ.out.2)
                  clear hWz1 hqs hjq
                  generalize hyy : yv th j = y at *
                  clear hyy
                  have i1 : (j : Int) < (n : Int) := by omega
                  have i2 : ((p : Nat) : Int) < (L.length : Int) := by omega
                  have i3 : (0 : Int) < (L.length : Int) := by omega
                  have zz0 : w.heap.size < wz.heap.size := World.block_lt_of_cell? _ _ c6
                  have zz1 : ka < wz.heap.size := World.block_lt_of_cell? _ _ hkac
                  have zz2 : kb < wz.heap.size := World.block_lt_of_cell? _ _ hkw
                  have zz3 : w2.heap.size < wz.heap.size := World.block_lt_of_cell? _ _ hyz
                  go_wp2
                  refine wp_qtail 20 (by kernel_rfl) (by kernel_rfl) ?_
                  intro hcg
                  simp only [List.take_succ_cons, List.take_zero, List.drop_succ_cons, List.drop_zero]
                  repeat (first | go_big_quiet_step (fail) | quiet_step (fail))
                  refine wpQuiet_nil ?_
                  intro wd hbwd hcwd hfwd
                  clear hcg
                  have HBd := Lib.hid hbwd
                  clear hbwd hcwd hfwd
                  go_wp2_with fail
                  refine (HG.out _ HBd.out).mono ?_
                  rintro e w7 ⟨rfl, ho, hW7⟩
                  have HW7 : Hid (WkB w7 lo w2.heap.size b g ⟨nd, nu, 2, ⟨aw, al, ag⟩, A', n, c', l, beat, ⟨pw, pl, pg⟩⟩ (if j + 1 ≤ j then ans else ans.set j (vv th j))) := Lib.hid (by rw [if_neg (by omega)]; exact hW7)
                  have HO7 : Hid (Only w5.heap.size g w5 w7) := Lib.hid ((hOz.out.below HBd.out hOz.out.size).trans (ho.mono (Nat.le_trans hOz.out.size HBd.out.size)))
                  clear ho hW7
                  go_wp2
                  exact ⟨⟨j + 1, by omega, by go_num, HW7, HO7⟩, by simp [intOf]; omega⟩
                · have e0 := ba_ne (hjq hq)
                  have HW7 : Hid (∀ m, WkB (wz.drewN m) lo w2.heap.size b g ⟨nd, nu, 2, ⟨aw, al, ag⟩, A', n, c', l, beat, ⟨pw, pl, pg⟩⟩ (if j + 1 ≤ q then ans else ans.set q (vv th q))) := Lib.hid (fun m => by
                    have h := (hWz.out).next (bel_dn (Below.refl _ _) m)
                    have e1 : (if j + 1 ≤ q then ans else ans.set q (vv th q)) = (if j ≤ q then ans else ans.set q (vv th q)) := by
                      by_cases h2 : j ≤ q
                      · rw [if_pos h2, if_pos (by omega)]
                      · rw [if_neg h2, if_neg (by omega)]
                    rw [e1]
                    exact h)
                  have HO7 : Hid (∀ m, Only w5.heap.size g w5 (wz.drewN m)) := Lib.hid (fun m => hOz.out.drewN m)
                  clear hjq
                  generalize l[j] = t at *
                  go_wp2
                  go_quiet (fail)
                  go_wp2
                  exact ⟨⟨j + 1, by omega, by go_num, HW7.out _, HO7.out _⟩, by simp [intOf]; omega⟩
              · obtain rfl : n = j := by omega
                have hfin := hWz.out
                rw [if_neg (by omega)] at hfin
                have HF := Lib.hid hfin
                clear hfin
                have hcn : cnt0 (ans.set q (vv th q)) + 1 = cnt0 ans := cnt0_set ans q _ HQ0.out (vv_ne th q)
                have hcc : cnt0 ans ≤ n - k := by
                  rcases hC.out with h | h
                  · exfalso
                    have := HND.out h
                    rw [this] at h0
                    simp at h0
                  · exact h
                have HC2 : Hid (doneB (ans.set q (vv th q)) = true ∨ cnt0 (ans.set q (vv th q)) ≤ n - (k + 1)) := Lib.hid (.inr (by omega))
                have hkn : k + 1 ≤ n := by omega
                have HA2 := Lib.hid (okA_set hA.out q)
                have HO2 : Hid (Only w4.heap.size g w4 wz) := Lib.hid ((hO.out.below HB5.out hO.out.size).trans (hOz.out.mono (Nat.le_trans hwq4 hw5q)))
                clear hcn hcc
                go_wp2
                exact ⟨⟨k + 1, _, hkn, by go_num, HA2, HC2, HF, HO2⟩, by simp [intOf]; omega⟩
          · have hd2 : decide (k < no) = false := decide_eq_false hko
            go_wp2_with fail
            refine HWT.out.mono ?_
            rintro e w5 ⟨A5, c5, rfl, hrn, hb⟩
            have HW5 := Lib.hid (hW.out.next hb)
            have X6 := Lib.hid (X5.out.next hb)
            have HRN := Lib.hid hrn
            have hp : 0 < L.length := h0
            obtain ⟨q, hqa, ⟨hql, hqs⟩, hq0⟩ := HWA.out L[0] (List.getElem_mem hp)
            have hgq := HGA.out q hql (by rw [hqs]; exact List.getElem_mem hp) (yv th q)
            rw [hqs, vv_eq] at hgq
            have hqn : q < n := by rw [HL.out] at hql; exact hql
            obtain ⟨kb, off, hA5, hk1, hk2, hkc⟩ := hrn (by intro e; have := congrArg List.length e; rw [sv_length] at this; simp at this; rw [this] at h0; simp at h0)
            have hkc := hkc 0 _ (sv_get L 0 hp)
            have hwq4 : w4.heap.size ≤ wq.heap.size := hO.out.size
            have hw5q : wq.heap.size ≤ w5.heap.size := hb.size
            have hgr : g < w4.heap.size := Nat.lt_of_lt_of_le hghi (Nat.le_of_lt hY.out.lt)
            have hy5 : w5.cell? ⟨w2.heap.size, q, none⟩ = some (.bool (yv th q)) := by
              have h1 := hY.out.ce q hqn
              rw [decide_eq_true hqn, Bool.true_and] at h1
              have h2 := (hO.out.cell (p := ⟨w2.heap.size, q, none⟩) hY.out.lt (by show w2.heap.size ≠ g; omega)).trans h1
              exact (hb.cell (p := ⟨w2.heap.size, q, none⟩) (Nat.lt_of_lt_of_le hY.out.lt hwq4)).trans h2
            have RA4 : Rd w4 w.heap.size A (sv l) := HR.out.keep (fun p hp => HB4.out.cell hp)
            have RA5 : Rd wq w.heap.size A (sv l) := Rd.only RA4 hO.out (Nat.le_of_lt X4.out.lt) (by omega)
            have RA6 : Hid (Rd w5 w.heap.size A (sv l)) := Lib.hid (RA5.keep (fun p hp => hb.cell (Nat.lt_trans hp X5.out.lt)))
            have HB5 := Lib.hid hb
            have HKC := Lib.hid hkc; have HY5 := Lib.hid hy5; have HQS := Lib.hid hqs; have HGQ := Lib.hid hgq; have HQ0 := Lib.hid hq0
            generalize hss : L[0] = s at *
            clear hss hrn hb hkc hy5 RA4 RA5 hqs hgq hq0 c6
            have c6 : w5.cell? ⟨w.heap.size, 6, none⟩ = some (.slice A n c) := X6.out.c6
            go_wp2
            have HZ0 : Hid (WkB w5 lo w2.heap.size b g ⟨nd, nu, 2, ⟨aw, al, ag⟩, A', n, c', l, beat, ⟨pw, pl, pg⟩⟩ (if 0 ≤ q then ans else ans.set q (vv th q))) := Lib.hid (by rw [if_pos (Nat.zero_le _)]; exact HW5.out)
            have HZO : Hid (Only w5.heap.size g w5 w5) := Lib.hid (Only.refl _ _ _)
            go_loopw [15] (fun i wz => ∃ j : Nat, j ≤ n ∧ i = .int .i64 j ∧ Hid (WkB wz lo w2.heap.size b g ⟨nd, nu, 2, ⟨aw, al, ag⟩, A', n, c', l, beat, ⟨pw, pl, pg⟩⟩ (if j ≤ q then ans else ans.set q (vv th q))) ∧ Hid (Only w5.heap.size g w5 wz)) (fun i _ => n - (intOf i).toNat)
            case atStart => exact ⟨0, Nat.zero_le _, rfl, HZ0, HZO⟩
            case round =>
              obtain ⟨j, hj, rfl, hWz, hOz⟩ := hrel
              obtain ⟨wz, rfl⟩ : ∃ x, x = wr := ⟨_, rfl⟩
              clear HZ0 HZO c6
              have c6 : wz.cell? ⟨w.heap.size, 6, none⟩ = some (.slice A n c) := (X6.out.only hOz.out X6.out.lt (by omega)).c6
              by_cases hlt : j < n
              · have hjl : j < l.length := by rw [HL.out]; exact hlt
                obtain ⟨ka, koff, hAk, hka, hkac⟩ := (Rd.only RA6.out hOz.out (Nat.le_of_lt X6.out.lt) (by omega)).at_ (sv_get l j hjl)
                have hkw : wz.cell? ⟨kb, off, none⟩ = some (.string s) := (hOz.out.cell (p := ⟨kb, off, none⟩) hk2 (by show kb ≠ g; omega)).trans HKC.out
                have hjq : j ≠ q → l[j] ≠ s := fun h e => h (rise_inj HRI.out hjl hql (e.trans HQS.out.symm))
                subst hA5 hAk
                by_cases hq : j = q
                · subst hq
                  have hqs := HQS.out
                  rw [hqs] at hkac
                  have hyz : wz.cell? ⟨w2.heap.size, j, none⟩ = some (.bool (yv th j)) := (hOz.out.cell (p := ⟨w2.heap.size, j, none⟩) (Nat.lt_of_lt_of_le hY.out.lt (Nat.le_trans hwq4 hw5q)) (by show w2.heap.size ≠ g; omega)).trans HY5.out
                  have hWz1 := hWz.out
                  rw [if_pos (Nat.le_refl _)] at hWz1
                  have HG := Lib.hid (fun W (h : Below wz.heap.size wz W) => got_is (hWz1.next h) (key := s) (yes := yv th j) HGQ.out.1 HGQ.out.2)
                  clear hWz1 hqs hjq
                  generalize hyy : yv th j = y at *
                  clear hyy
                  have i1 : (j : Int) < (n : Int) := by omega
                  have i2 : ((0 : Nat) : Int) < (L.length : Int) := by omega
                  have i3 : (0 : Int) < (L.length : Int) := by omega
                  have zz0 : w.heap.size < wz.heap.size := World.block_lt_of_cell? _ _ c6
                  have zz1 : ka < wz.heap.size := World.block_lt_of_cell? _ _ hkac
                  have zz2 : kb < wz.heap.size := World.block_lt_of_cell? _ _ hkw
                  have zz3 : w2.heap.size < wz.heap.size := World.block_lt_of_cell? _ _ hyz
                  go_wp2
                  refine wp_qtail 20 (by kernel_rfl) (by kernel_rfl) ?_
                  intro hcg
                  simp only [List.take_succ_cons, List.take_zero, List.drop_succ_cons, List.drop_zero]
                  repeat (first | go_big_quiet_step (fail) | quiet_step (fail))
                  refine wpQuiet_nil ?_
                  intro wd hbwd hcwd hfwd
                  clear hcg
                  have HBd := Lib.hid hbwd
                  clear hbwd hcwd hfwd
                  go_wp2_with fail
                  refine (HG.out _ HBd.out).mono ?_
                  rintro e w7 ⟨rfl, ho, hW7⟩
                  have HW7 : Hid (WkB w7 lo w2.heap.size b g ⟨nd, nu, 2, ⟨aw, al, ag⟩, A', n, c', l, beat, ⟨pw, pl, pg⟩⟩ (if j + 1 ≤ j then ans else ans.set j (vv th j))) := Lib.hid (by rw [if_neg (by omega)]; exact hW7)
                  have HO7 : Hid (Only w5.heap.size g w5 w7) := Lib.hid ((hOz.out.below HBd.out hOz.out.size).trans (ho.mono (Nat.le_trans hOz.out.size HBd.out.size)))
                  clear ho hW7
                  go_wp2
                  exact ⟨⟨j + 1, by omega, by go_num, HW7, HO7⟩, by simp [intOf]; omega⟩
                · have e0 := ba_ne (hjq hq)
                  have HW7 : Hid (∀ m, WkB (wz.drewN m) lo w2.heap.size b g ⟨nd, nu, 2, ⟨aw, al, ag⟩, A', n, c', l, beat, ⟨pw, pl, pg⟩⟩ (if j + 1 ≤ q then ans else ans.set q (vv th q))) := Lib.hid (fun m => by
                    have h := (hWz.out).next (bel_dn (Below.refl _ _) m)
                    have e1 : (if j + 1 ≤ q then ans else ans.set q (vv th q)) = (if j ≤ q then ans else ans.set q (vv th q)) := by
                      by_cases h2 : j ≤ q
                      · rw [if_pos h2, if_pos (by omega)]
                      · rw [if_neg h2, if_neg (by omega)]
                    rw [e1]
                    exact h)
                  have HO7 : Hid (∀ m, Only w5.heap.size g w5 (wz.drewN m)) := Lib.hid (fun m => hOz.out.drewN m)
                  clear hjq
                  generalize l[j] = t at *
                  go_wp2
                  go_quiet (fail)
                  go_wp2
                  exact ⟨⟨j + 1, by omega, by go_num, HW7.out _, HO7.out _⟩, by simp [intOf]; omega⟩
              · obtain rfl : n = j := by omega
                have hfin := hWz.out
                rw [if_neg (by omega)] at hfin
                have HF := Lib.hid hfin
                clear hfin
                have hcn : cnt0 (ans.set q (vv th q)) + 1 = cnt0 ans := cnt0_set ans q _ HQ0.out (vv_ne th q)
                have hcc : cnt0 ans ≤ n - k := by
                  rcases hC.out with h | h
                  · exfalso
                    have := HND.out h
                    rw [this] at h0
                    simp at h0
                  · exact h
                have HC2 : Hid (doneB (ans.set q (vv th q)) = true ∨ cnt0 (ans.set q (vv th q)) ≤ n - (k + 1)) := Lib.hid (.inr (by omega))
                have hkn : k + 1 ≤ n := by omega
                have HA2 := Lib.hid (okA_set hA.out q)
                have HO2 : Hid (Only w4.heap.size g w4 wz) := Lib.hid ((hO.out.below HB5.out hO.out.size).trans (hOz.out.mono (Nat.le_trans hwq4 hw5q)))
                clear hcn hcc
                go_wp2
                exact ⟨⟨k + 1, _, hkn, by go_num, HA2, HC2, HF, HO2⟩, by simp [intOf]; omega⟩
end Go.Proofs.Ythigmjcepbgljaa
