/- The walk of SimnetOnce. -/
import Derived.Test.YtlpdihcgdgkkbaaNi
namespace Go.Proofs.Ytlpdihcgdgkkbaa
open Go.RowKit Go.St
set_option linter.unusedVariables false
set_option linter.unusedSimpArgs false
set_option maxRecDepth 100000

/-- A letter where it lies. -/
structure LtI (W : World) (g o : Nat) (x : Ltr) : Prop where
  d0 : W.cell? ⟨g, o, none⟩ = some (.int .i64 x.k.num)
  d1 : W.cell? ⟨g, o + 1, none⟩ = some (.int .i64 x.k.fr)
  d2 : W.cell? ⟨g, o + 2, none⟩ = some (.int .i64 x.k.to)
  d3 : W.cell? ⟨g, o + 3, none⟩ = some (.slice x.A x.n x.c)
theorem LtI.below {W W' : World} {B g o : Nat} {x : Ltr} (h : LtI W g o x) (hb : Below B W W') (hlt : g < B) : LtI W' g o x :=
  ⟨(hb.cell (p := ⟨g, _, none⟩) hlt).trans h.d0, (hb.cell (p := ⟨g, _, none⟩) hlt).trans h.d1, (hb.cell (p := ⟨g, _, none⟩) hlt).trans h.d2, (hb.cell (p := ⟨g, _, none⟩) hlt).trans h.d3⟩
theorem lti_of {W : World} {base g n c : Nat} {l : List Ltr} (h : W.ownsRow base 51 4 (.slice (some ⟨g, 0, none⟩) n c) n (lv l)) {j : Nat} {x : Ltr} (hx : l[j]? = some x) : LtI W g (j * 4) x := by
  have hc : ∀ (i : Nat) (u : Value), (ltc x)[i]? = some u → W.cell? ⟨g, j * 4 + i, none⟩ = some u := fun i u hu => by
    have h1 := lv_get l j i x u hx hu
    rw [h.cellAt _ (by rw [← h.1]; exact (List.getElem?_eq_some_iff.1 h1).1)]
    exact h1
  exact ⟨hc 0 _ rfl, hc 1 _ rfl, hc 2 _ rfl, hc 3 _ rfl⟩
theorem styB : STy Try.prog 59 4 1 1 (.bool false) := ⟨Try.underlying59, ⟨_, rfl, by kernel_rfl, by kernel_rfl, by kernel_rfl⟩, rfl, by decide⟩
theorem smallB_spec {l : List ActN} (h : smallB l = true) : (∀ x ∈ l, x.z ≤ 40) ∧ l.length ≤ 2600 := by
  unfold smallB at h
  rw [Bool.and_eq_true, List.all_eq_true, decide_eq_true_eq] at h
  exact ⟨fun x hx => by simpa using h.1 x hx, h.2⟩
set_option maxHeartbeats 6400000 in
theorem simnetOnce_walk (w : World) (nodes : Int) (hnd : -9223372036854775808 ≤ nodes ∧ nodes ≤ 9223372036854775807) (A : Option Addr) (n c : Nat) (l : List ActN) (hl : l.length = n) (hnc : n ≤ c) (hc : c ≤ 140737488351232) (hin : ∀ a ∈ l, InAn w a) (hr : Rd w w.heap.size A (l.map anCells).flatten) :
    Calls Try.prog 8 #[.int .i64 nodes, .slice A n c] w fun e w' => e = .returned (.bool true) ∧ Below w.heap.size w w' := by
  have HL := Lib.hid hl
  have HR := Lib.hid hr
  have HIN := Lib.hid hin
  have HSM := Lib.hid (fun W (k : Below w.heap.size w W) => small_any A n c w.heap.size l hl (by omega) (fun x hx => by have := hin x hx; exact Nat.le_trans this.2.2.2.2.1 this.2.2.2.2.2.1) W (hr.below k) k.size)
  obtain ⟨SM, hSM⟩ : ∃ SM, smallB l = SM := ⟨_, rfl⟩
  rw [hSM] at HSM
  clear hl hr hin
  go_enter Try.func8, Try.ntmps8
  go_wp2_with fail
  refine (lives25_any w).mono ?_
  rintro e w1 ⟨rfl, hb1⟩
  have B1 := Lib.hid hb1
  clear hb1
  go_wp2_with fail
  refine (pick_any nodes 7 (by omega) (by omega) hnd w1).mono ?_
  rintro e w' ⟨rfl, rfl⟩
  have p1 : 0 ≤ nodes % 7 := Int.emod_nonneg _ (by omega)
  have p2 : nodes % 7 < 7 := Int.emod_lt_of_pos _ (by omega)
  obtain ⟨r, hr⟩ : ∃ r : Nat, nodes % 7 = r := ⟨(nodes % 7).toNat, by omega⟩
  rw [hr] at p1 p2 ⊢
  clear hr
  go_wp2_with fail
  refine (snew_net (1 + (r : Int)) (by omega) (by omega) w.heap.size w1 B1.out.size).mono ?_
  rintro e w2 ⟨rfl, hP, hb2⟩
  have B2 : Hid (Below w.heap.size w w2) := Lib.hid (B1.out.trans (hb2.mono B1.out.size))
  have HP := Lib.hid hP
  have WF0 := Lib.hid (newWF (1 + (r : Int)) (by omega) (by omega))
  clear hP hb2 B1
  generalize w1.heap.size = b at *
  generalize (1 + (r : Int)) = nd at *
  clear p1 p2
  go_wp2_with fail
  refine (HSM.out _ B2.out).mono ?_
  rintro e w' ⟨rfl, rfl⟩
  cases SM
  · go_wp2_with fail
    go_ret
    exact ⟨rfl, B2.out⟩
  have HZ := Lib.hid (smallB_spec hSM).1
  have hn26 : n ≤ 2600 := by have := (smallB_spec hSM).2; have := HL.out; omega
  clear hSM HSM
  have z2 := HP.out.lt
  go_wp2_with fail
  have M0 : Hid (OnM ((w2.alloc (.cells #[.int .i64 0, .int .i64 0, .int .i64 0, .slice none 0 0] 51)).alloc (.cells #[.bool true] 4)) w.heap.size b (.slice none 0 0) (fun _ => False) ⟨nd, 0, []⟩ 1 1 (.slice (some ⟨w2.heap.size, 0, none⟩) 1 1) (.slice (some ⟨w2.heap.size + 1, 0, none⟩) 1 1) [nilL] [true]) := by
    have b1 : Below w2.heap.size w2 (w2.alloc (.cells #[.int .i64 0, .int .i64 0, .int .i64 0, .slice none 0 0] 51)) := (Below.refl _ _).alloc (Nat.le_refl _) _
    have b2 : Below (w2.alloc (.cells #[.int .i64 0, .int .i64 0, .int .i64 0, .slice none 0 0] 51)).heap.size (w2.alloc (.cells #[.int .i64 0, .int .i64 0, .int .i64 0, .slice none 0 0] 51)) ((w2.alloc (.cells #[.int .i64 0, .int .i64 0, .int .i64 0, .slice none 0 0] 51)).alloc (.cells #[.bool true] 4)) := (Below.refl _ _).alloc (Nat.le_refl _) _
    have o8 := World.ownsRow_lit (base := w.heap.size) (size := 1) (e := 4) (w2.alloc (.cells #[.int .i64 0, .int .i64 0, .int .i64 0, .slice none 0 0] 51)) #[.bool true] 1 (by have := B2.out.size; simp; omega) (by decide) rfl
    rw [show (w2.alloc (.cells #[.int .i64 0, .int .i64 0, .int .i64 0, .slice none 0 0] 51)).heap.size = w2.heap.size + 1 by simp] at o8
    refine Lib.hid ⟨HP.out.next (b1.trans (b2.mono b1.size)), rfl, rfl, own_keep (World.ownsRow_lit (base := w.heap.size) (size := 4) (e := 51) w2 #[.int .i64 0, .int .i64 0, .int .i64 0, .slice none 0 0] 1 B2.out.size (by decide) rfl) b2 (Nat.le_refl _), o8, fun g e => ?_, fun g e => ?_, fun g e e2 => ?_, fun x hx => ?_⟩
    · have e' : some w2.heap.size = some g := e
      injection e' with e'
      exact HP.out.newSf (by omega) (by simp; omega)
    · have e' : some (w2.heap.size + 1) = some g := e
      injection e' with e'
      exact HP.out.newSf (by omega) (by simp; omega)
    · have e' : some w2.heap.size = some g := e
      have e3 : some (w2.heap.size + 1) = some g := e2
      injection e' with e'
      injection e3 with e3
      omega
    · have e' : x = nilL := by simpa using hx
      rw [e']
      exact ⟨rfl, by simp [nilL], Rd.nil⟩
  have B4 : Hid (Below w.heap.size w ((w2.alloc (.cells #[.int .i64 0, .int .i64 0, .int .i64 0, .slice none 0 0] 51)).alloc (.cells #[.bool true] 4))) := Lib.hid ((B2.out.alloc B2.out.size _).alloc (by have := B2.out.size; simp; omega) _)
  have P0 : Hid (PL ⟨nd, 0, []⟩ 0 ([nilL].map Ltr.k) [true]) := Lib.hid ⟨WF0.out, rfl, rfl, rfl, fun k hk => by simp at hk, fun i hi => by
    rw [List.getElem?_eq_none (by simp; omega)]
    simp⟩
  clear WF0 HP B2
  generalize ((w2.alloc (.cells #[.int .i64 0, .int .i64 0, .int .i64 0, .slice none 0 0] 51)).alloc (.cells #[.bool true] 4)) = w4 at *
  generalize w2.heap.size = q2 at *
  go_loopw [7, 8, 9] (fun s7 s8 i wr => ∃ (k T c7 c8 : Nat) (s : Nt) (v : Value) (F : Nat → Prop) (A7 A8 : Option Addr) (ls : List Ltr) (os : List Bool), s7 = .slice A7 (T + 1) c7 ∧ s8 = .slice A8 (T + 1) c8 ∧ i = .int .i64 k ∧ k ≤ n ∧ T ≤ k ∧ Hid (OnM wr w.heap.size b v F s (T + 1) (T + 1) (.slice A7 (T + 1) c7) (.slice A8 (T + 1) c8) ls os) ∧ Hid (PL s T (ls.map Ltr.k) os) ∧ Hid (Below w.heap.size w wr)) (fun _ _ i _ => n - (intOf i).toNat)
  case atStart => exact ⟨0, 0, 1, 1, _, _, _, _, _, _, _, rfl, rfl, rfl, Nat.zero_le _, Nat.le_refl _, M0, P0, B4⟩
  case round =>
    obtain ⟨k, T, c7, c8, s, v, F, A7, A8, ls, os, rfl, rfl, rfl, hk, hT, hM, hP, hB⟩ := hrel
    clear M0 P0 B4
    obtain ⟨w5, rfl⟩ : ∃ x, x = wr := ⟨_, rfl⟩
    by_cases hlt : k < n
    · have hx : l[k]? = some (l[k]'(by rw [HL.out]; exact hlt)) := List.getElem?_eq_getElem _
      obtain ⟨b0, o, rfl, hb, h0⟩ := an_at HR.out hx
      have hzx := HZ.out _ (List.mem_of_getElem? hx)
      have hix := HIN.out _ (List.mem_of_getElem? hx)
      generalize l[k]'(by rw [HL.out]; exact hlt) = x at *
      obtain ⟨xk, -, -, xl, xzc, xc, xr⟩ := hix
      have XR := Lib.hid xr
      obtain ⟨d0, d1, d2, d3⟩ := h0.below hB.out hb
      have i1 : (k : Int) < (n : Int) := by omega
      have i0 : (0 : Int) ≤ (k : Int) := by omega
      clear hx xr h0
      go_upto_region 12 with (fail)
      have bA : Below w5.heap.size w5 (w5.alloc (.cells #[.int .i64 x.k, .int .i64 x.m, .int .i64 x.n, .slice x.A x.z x.c] 61)) := (Below.refl _ _).alloc (Nat.le_refl _) _
      have AB := Lib.hid (abx_new w5 x.k x.m x.n x.A x.z x.c 61)
      have MA := Lib.hid (hM.out.next bA)
      have SQ : Hid (Sf1 (w5.alloc (.cells #[.int .i64 x.k, .int .i64 x.m, .int .i64 x.n, .slice x.A x.z x.c] 61)) b v F w5.heap.size) := Lib.hid (hM.out.net.newSf (Nat.le_refl _) (by simp))
      have q7 : (Value.slice A7 (T + 1) c7).ownBlock ≠ some w5.heap.size := fun e => by have := (hM.out.f7 _ e).lt; omega
      have q8 : (Value.slice A8 (T + 1) c8).ownBlock ≠ some w5.heap.size := fun e => by have := (hM.out.f8 _ e).lt; omega
      have BA : Hid (Below w.heap.size w (w5.alloc (.cells #[.int .i64 x.k, .int .i64 x.m, .int .i64 x.n, .slice x.A x.z x.c] 61))) := Lib.hid (hB.out.trans (bA.mono hB.out.size))
      clear bA hM hB d0 d1 d2 d3
      generalize w5.alloc (.cells #[.int .i64 x.k, .int .i64 x.m, .int .i64 x.n, .slice x.A x.z x.c] 61) = wa at *
      generalize w5.heap.size = q at *
      obtain ⟨al, a0, a1, a2, a3⟩ := AB.out
      obtain ⟨g8, _, hA8, -, hg8⟩ := MA.out.o8.form (by omega)
      obtain ⟨g7, _, hA7, -, hg7⟩ := MA.out.o7.form (by omega)
      injection hA8 with hA8 _ hc8
      injection hA7 with hA7 _ hc7
      subst hA8 hA7 hc8 hc7
      go_cut [11] from 50 to 67 (fun s11 wc => s11 = .bool (thB T os x.n) ∧ wc = wa)
      case first =>
        by_cases t1 : 1 ≤ x.n
        · by_cases t2 : x.n < (T : Int) + 1
          · obtain ⟨j, hj⟩ : ∃ j : Nat, x.n = j := ⟨x.n.toNat, by omega⟩
            have hjl : j < os.length := by have := hP.out.lo; omega
            have h8 := MA.out.o8.cellAt j (by omega)
            rw [ovC, List.getElem?_map, List.getElem?_eq_getElem hjl] at h8
            have hth : thB T os x.n = !os[j] := by
              unfold thB
              rw [hj, decide_eq_true (by omega), decide_eq_true (by omega), Int.toNat_natCast, List.getD_eq_getElem?_getD, List.getElem?_eq_getElem hjl]
              simp
            have HTH := Lib.hid hth
            have t3 : decide ((1 : Int) ≤ (j : Int)) = true := decide_eq_true (by omega)
            have t4 : decide ((j : Int) < ((T + 1 : Nat) : Int)) = true := decide_eq_true (by omega)
            have j0 : (0 : Int) ≤ (j : Int) := by omega
            have j1 : (j : Int) < ((T + 1 : Nat) : Int) := by omega
            have j2 : j < T + 1 := by omega
            rw [hj] at a2
            generalize os[j] = oj at *
            clear t1 t2 hth hjl hj
            cases oj
            all_goals
              go_wp2_with fail
              go_meet
              case rel => exact ⟨by rw [HTH.out]; rfl, rfl⟩
          · have hth : thB T os x.n = false := by unfold thB; rw [decide_eq_false t2]; simp
            have HTH := Lib.hid hth
            clear hth
            have t3 : decide ((1 : Int) ≤ x.n) = true := decide_eq_true t1
            have t4 : decide (x.n < ((T + 1 : Nat) : Int)) = false := decide_eq_false (by omega)
            have t5 : decide (x.n < (T : Int) + 1) = false := decide_eq_false (by omega)
            clear t1 t2
            go_wp2_with fail
            go_meet
            case rel => exact ⟨by rw [HTH.out], rfl⟩
        · have hth : thB T os x.n = false := by unfold thB; rw [decide_eq_false t1]; simp
          have HTH := Lib.hid hth
          clear hth
          have t3 : decide ((1 : Int) ≤ x.n) = false := decide_eq_false t1
          clear t1
          go_wp2_with fail
          go_meet
          case rel => exact ⟨by rw [HTH.out], rfl⟩
      case rest =>
        obtain ⟨rfl, rfl⟩ := hcut
        rw [hP.out.there]
        go_wp2_with fail
        refine (pick_any x.k 4 (by omega) (by omega) xk wc).mono ?_
        rintro e w' ⟨rfl, rfl⟩
        have hls : s.last ≤ 4611686018427387904 := by rw [hP.out.ls]; omega
        rcases (by omega : x.k % 4 = 0 ∨ x.k % 4 = 1 ∨ x.k % 4 = 2 ∨ x.k % 4 = 3) with hk4 | hk4 | hk4 | hk4
        · rw [hk4]
          have hnl := MA.out.net.lt
          have hX : LtB wc (fun k => k ≠ b) ⟨⟨0, x.m, x.n, x.bs⟩, x.A, x.z, x.c⟩ := ltB_below (x := ⟨⟨0, x.m, x.n, x.bs⟩, x.A, x.z, x.c⟩) xl (by show x.z ≤ _; omega) (XR.out.below BA.out) (Nat.le_refl _) hnl.1 hnl.2
          have HS := Lib.hid (ssend_any MA.out.net hP.out.wf hls x.m x.n x.A x.z x.c x.bs hX)
          clear hX hnl
          go_wp2_with fail
          refine HS.out.mono ?_
          rintro e w2 ⟨rfl, ho⟩
          obtain ⟨v2, F2, hM2, hb2, hs2⟩ := MA.out.step ho
          obtain ⟨kq, sq2⟩ := hs2 q SQ.out
          have AB2 := Lib.hid (AB.out.keep ho.1.size kq)
          have B2 : Hid (Below w.heap.size w w2) := Lib.hid (BA.out.trans hb2)
          have M2 := Lib.hid hM2
          have SQ2 := Lib.hid sq2
          clear ho hM2 hb2 hs2 kq sq2 MA SQ AB BA a0 a1 a2 a3 al
          clear HS
          by_cases hE : sendE s x.m x.n = 0
          · obtain ⟨e1, e2⟩ := sendE0 hE
            have e3 : sendS s x.m x.n x.bs = putS s x.m x.n x.bs := by unfold sendS; rw [if_pos hE]
            have e4 : sendV s x.m x.n = (T : Int) + 1 := by unfold sendV; rw [if_pos hE, hP.out.ls]
            rw [e3] at M2
            have PP := Lib.hid (hP.out.send e1 e2 (bs := x.bs) (by omega))
            rw [hE, e4]
            clear hE e1 e2 e3 e4
            have ee : ((T : Int) + 1 != ((T + 1 : Nat) : Int)) = false := by simp
            obtain ⟨al, a0, a1, a2, a3⟩ := AB2.out
            have xr2 := XR.out.below B2.out
            go_upto_region 25 with (at_builtin; refine wpList_app styL (.tmp 103) (.tmp 112) rfl rfl w.heap.size (own_keep M2.out.o7 ((Below.refl _ _).alloc (Nat.le_refl _) _) (Nat.le_refl _)) rfl 1 1 (rd_cells _ _ _) rfl rfl (by intro u hu; simp at hu; rcases hu with rfl | rfl | rfl | rfl <;> rfl) (by unfold maxLen; omega) (by omega) (by have := B2.out.size; simp; omega) ?_; intro v3 w3 own3 gr3 nil3 at3)
            obtain ⟨A3, c3, rfl, -, -⟩ := own_sl own3
            have b7 : Below w2.heap.size w2 (w2.alloc (.cells #[.int .i64 ((T : Int) + 1), .int .i64 x.m, .int .i64 x.n, .slice x.A x.z x.c] 51)) := (Below.refl _ _).alloc (Nat.le_refl _) _
            obtain ⟨m3, h3, -⟩ := (M2.out.next b7).push7 (x := ⟨⟨(T : Int) + 1, x.m, x.n, x.bs⟩, x.A, x.z, x.c⟩) gr3 own3 at3 ⟨xl, by show x.z ≤ _; omega, XR.out.below (B2.out.trans (b7.mono B2.out.size))⟩
            have M3 := Lib.hid m3
            have B3 : Hid (Below w.heap.size w w3) := Lib.hid ((B2.out.trans (b7.mono B2.out.size)).trans h3)
            clear own3 gr3 nil3 at3 m3 h3 b7 M2 B2
            go_wp2_with (at_builtin; refine wpList_app styB (.tmp 114) (.tmp 115) rfl rfl w.heap.size (own_keep M3.out.o8 ((Below.refl _ _).alloc (Nat.le_refl _) _) (Nat.le_refl _)) rfl 1 1 (rd_cells _ _ _) rfl rfl (by intro u hu; simp at hu; subst hu; rfl) (by unfold maxLen; omega) (by omega) (by have := B3.out.size; simp; omega) ?_; intro v4 w4 own4 gr4 nil4 at4; obtain ⟨A4, c4, rfl, -, -⟩ := own_sl own4)
            have b8 : Below w3.heap.size w3 (w3.alloc (.cells #[.bool false] 4)) := (Below.refl _ _).alloc (Nat.le_refl _) _
            obtain ⟨m4, h4⟩ := (M3.out.next b8).push8 (y := false) gr4 own4 at4
            have M4 := Lib.hid m4
            have B4 : Hid (Below w.heap.size w w4) := Lib.hid ((B3.out.trans (b8.mono B3.out.size)).trans h4)
            have P4 : Hid (PL (putS s x.m x.n x.bs) (T + 1) ((ls ++ [(⟨⟨(T : Int) + 1, x.m, x.n, x.bs⟩, x.A, x.z, x.c⟩ : Ltr)]).map Ltr.k) (os ++ [false])) := Lib.hid (by rw [List.map_append]; exact PP.out)
            clear own4 gr4 nil4 at4 m4 h4 b8 M3 B3 PP
            go_roundw
            case rel => exact ⟨k + 1, T + 1, c3, c4, _, v2, F2, A3, A4, _, _, rfl, rfl, by go_num, by omega, by omega, M4, P4, B4⟩
            case measure => simp [intOf]; omega
          · have e3 : sendS s x.m x.n x.bs = s := by unfold sendS; rw [if_neg hE]
            have e4 : sendV s x.m x.n = 0 := by unfold sendV; rw [if_neg hE]
            have ee : (sendE s x.m x.n == 0) = false := by simpa using hE
            rw [e3] at M2
            rw [e4]
            generalize sendE s x.m x.n = E at *
            clear hE e3 e4
            go_wp2_with fail
            go_roundw
            case rel => exact ⟨k + 1, T, c7, c8, _, v2, F2, _, _, _, _, rfl, rfl, by go_num, by omega, by omega, M2, hP, B2⟩
            case measure => simp [intOf]; omega
        · rw [hk4]
          have HS := Lib.hid (sdeliver_any MA.out.net hP.out.wf x.n)
          go_wp2_with fail
          refine HS.out.mono ?_
          rintro e w2 ⟨x1, rfl, hx1k, hx1b, ho⟩
          obtain ⟨v2, F2, hM2, hb2, hs2⟩ := MA.out.step ho
          obtain ⟨kq, sq2⟩ := hs2 q SQ.out
          have AB2 := Lib.hid (AB.out.keep ho.1.size kq)
          have B2 : Hid (Below w.heap.size w w2) := Lib.hid (BA.out.trans hb2)
          have M2 := Lib.hid hM2
          have SQ2 := Lib.hid sq2
          clear ho hM2 hb2 hs2 kq sq2 MA SQ AB BA a0 a1 a2 a3 al
          have XB := Lib.hid hx1b
          clear HS hx1b
          unfold ltV
          cases hh : hitB s x.n
          · have e1 : hitE s x.n = 4 := by unfold hitE; rw [hh]; rfl
            have e2 : outS s x.n = s := by unfold outS; rw [hh]; rfl
            rw [e1]
            rw [e2] at M2
            clear e1 e2 hh hx1k
            obtain ⟨al, a0, a1, a2, a3⟩ := AB2.out
            go_upto_region 28 with (fail)
            have bX : Below w2.heap.size w2 (w2.alloc (.cells #[.int .i64 x1.k.num, .int .i64 x1.k.fr, .int .i64 x1.k.to, .slice x1.A x1.n x1.c] 51)) := (Below.refl _ _).alloc (Nat.le_refl _) _
            have M3 := Lib.hid (M2.out.next bX)
            have B3 : Hid (Below w.heap.size w (w2.alloc (.cells #[.int .i64 x1.k.num, .int .i64 x1.k.fr, .int .i64 x1.k.to, .slice x1.A x1.n x1.c] 51))) := Lib.hid (B2.out.trans (bX.mono B2.out.size))
            have AB3 := Lib.hid (AB2.out.keep bX.size (bX.block q SQ2.out.lt))
            have XB3 := Lib.hid (XB.out.keep (W' := w2.alloc (.cells #[.int .i64 x1.k.num, .int .i64 x1.k.fr, .int .i64 x1.k.to, .slice x1.A x1.n x1.c] 51)) bX.size (fun i _ hi => bX.block i hi))
            have cx := fun i => World.cell?_alloc_mark w2 #[.int .i64 x1.k.num, .int .i64 x1.k.fr, .int .i64 x1.k.to, .slice x1.A x1.n x1.c] 51 (0, 0) i
            have hpl : w2.heap.size < (w2.alloc (.cells #[.int .i64 x1.k.num, .int .i64 x1.k.fr, .int .i64 x1.k.to, .slice x1.A x1.n x1.c] 51)).heap.size := by simp
            have x0 := cx 0; have x1' := cx 1; have x2 := cx 2; have x3 := cx 3
            simp only [List.getElem?_toArray, List.getElem?_cons_zero, List.getElem?_cons_succ] at x0 x1' x2 x3
            have HXB : Hid (LtI (w2.alloc (.cells #[.int .i64 x1.k.num, .int .i64 x1.k.fr, .int .i64 x1.k.to, .slice x1.A x1.n x1.c] 51)) w2.heap.size 0 x1) := Lib.hid ⟨x0, x1', x2, x3⟩
            have hql : q < (w2.alloc (.cells #[.int .i64 x1.k.num, .int .i64 x1.k.fr, .int .i64 x1.k.to, .slice x1.A x1.n x1.c] 51)).heap.size := Nat.lt_of_lt_of_le SQ2.out.lt bX.size
            clear bX cx x0 x1' x2 x3 M2 B2 AB2 XB
            generalize w2.alloc (.cells #[.int .i64 x1.k.num, .int .i64 x1.k.fr, .int .i64 x1.k.to, .slice x1.A x1.n x1.c] 51) = w3 at *
            generalize w2.heap.size = p at *
            clear al a0 a1 a2 a3
            obtain ⟨al, a0, a1, a2, a3⟩ := AB3.out
            refine wp_qall (by kernel_rfl) (by kernel_rfl) ?_
            intro hcg
            repeat (first | go_big_quiet_step ((fail)) | quiet_step ((fail)))
            refine wpQuiet_nil ?_
            intro wq hbwq hcwq hfwq
            clear hcg
            have M4 := Lib.hid (M3.out.next hbwq)
            have B4 : Hid (Below w.heap.size w wq) := Lib.hid (B3.out.trans (hbwq.mono B3.out.size))
            clear hbwq hcwq hfwq M3 B3
            go_wp2_with fail
            go_roundw
            case rel => exact ⟨k + 1, T, c7, c8, _, v2, F2, _, _, _, _, rfl, rfl, by go_num, by omega, by omega, M4, hP, B4⟩
            case measure => simp [intOf]; omega
          · have e1 : hitE s x.n = 0 := by unfold hitE; rw [hh]; rfl
            rw [e1]
            have hth := hP.out.there x.n
            rw [hh] at hth
            obtain ⟨j, hj⟩ : ∃ j : Nat, x.n = j := by
              unfold thB at hth
              simp only [Bool.and_eq_true, decide_eq_true_eq] at hth
              exact ⟨x.n.toNat, by omega⟩
            clear hth
            rw [hj] at hh
            obtain ⟨kj, j1, j2⟩ := hP.out.key hh
            obtain ⟨y, hy, hyk⟩ : ∃ y, ls[j]? = some y ∧ y.k = hitK s j := by
              rw [List.getElem?_map] at kj
              cases hy : ls[j]? with
              | none => rw [hy] at kj; cases kj
              | some y => rw [hy] at kj; exact ⟨y, rfl, by injection kj⟩
            have HY : Hid (LtI w2 g7 (j * 4) y) := Lib.hid (lti_of M2.out.o7 hy)
            have HYm := Lib.hid (List.mem_of_getElem? hy)
            have hkk : x1.k = y.k := by rw [hx1k, hyk]; unfold outK; rw [hj, if_pos hh]
            rw [hj] at M2
            have PP := Lib.hid (hP.out.out j1 hh)
            have i3 : (0 : Int) ≤ (j : Int) := by omega
            have i4 : (j : Int) < ((T + 1 : Nat) : Int) := by omega
            have i5 : j < T + 1 := by omega
            have i6 : (j : Int) < (T : Int) + 1 := by omega
            have i7 : (j : Int) ≤ (T : Int) + 1 := by omega
            have i8 : (j : Int) + 1 ≤ (T : Int) + 1 := by omega
            have i9 : (j : Int) ≤ (j : Int) + 1 := by omega
            have i10 : (0 : Int) ≤ (j : Int) + 1 := by omega
            obtain ⟨hc1, hc2⟩ := own_capLe M2.out.o7
            have i11 : ¬ (c7 = j) := by omega
            have i12 : j ≤ c7 := by omega
            have i13 : j + 1 ≤ c7 := by omega
            have i14 : (j : Int) ≤ ((T + 1 : Nat) : Int) := by omega
            have i15 : (j : Int) + 1 ≤ ((T + 1 : Nat) : Int) := by omega
            have i16 : j ≤ 2600 := by omega
            have i17 : (j : Int) + 1 ≤ (c7 : Int) := by omega
            have i18 : (j : Int) ≤ 2600 := by omega
            have hwr : IntKind.i64.wrap ((j : Int) + 1) = (j : Int) + 1 := IntWalk.i64_in _ (by omega)
            have SN : Hid (x.n = (j : Int)) := Lib.hid hj
            have XY := Lib.hid hkk
            clear hh e1 kj hyk hx1k hkk hj
            obtain ⟨al, a0, a1, a2, a3⟩ := AB2.out
            have hg72 := (M2.out.f7 g7 rfl).lt
            have HY3 := Lib.hid (HY.out.below (((Below.refl _ _).alloc (Nat.le_refl _) _) : Below w2.heap.size w2 (w2.alloc (.cells #[.int .i64 x1.k.num, .int .i64 x1.k.fr, .int .i64 x1.k.to, .slice x1.A x1.n x1.c] 51))) hg72)
            go_upto_region 28 with (fail)
            have bX : Below w2.heap.size w2 (w2.alloc (.cells #[.int .i64 x1.k.num, .int .i64 x1.k.fr, .int .i64 x1.k.to, .slice x1.A x1.n x1.c] 51)) := (Below.refl _ _).alloc (Nat.le_refl _) _
            have M3 := Lib.hid (M2.out.next bX)
            have B3 : Hid (Below w.heap.size w (w2.alloc (.cells #[.int .i64 x1.k.num, .int .i64 x1.k.fr, .int .i64 x1.k.to, .slice x1.A x1.n x1.c] 51))) := Lib.hid (B2.out.trans (bX.mono B2.out.size))
            have AB3 := Lib.hid (AB2.out.keep bX.size (bX.block q SQ2.out.lt))
            have XB3 := Lib.hid (XB.out.keep (W' := w2.alloc (.cells #[.int .i64 x1.k.num, .int .i64 x1.k.fr, .int .i64 x1.k.to, .slice x1.A x1.n x1.c] 51)) bX.size (fun i _ hi => bX.block i hi))
            have cx := fun i => World.cell?_alloc_mark w2 #[.int .i64 x1.k.num, .int .i64 x1.k.fr, .int .i64 x1.k.to, .slice x1.A x1.n x1.c] 51 (0, 0) i
            have hpl : w2.heap.size < (w2.alloc (.cells #[.int .i64 x1.k.num, .int .i64 x1.k.fr, .int .i64 x1.k.to, .slice x1.A x1.n x1.c] 51)).heap.size := by simp
            have x0 := cx 0; have x1' := cx 1; have x2 := cx 2; have x3 := cx 3
            simp only [List.getElem?_toArray, List.getElem?_cons_zero, List.getElem?_cons_succ] at x0 x1' x2 x3
            have HXB : Hid (LtI (w2.alloc (.cells #[.int .i64 x1.k.num, .int .i64 x1.k.fr, .int .i64 x1.k.to, .slice x1.A x1.n x1.c] 51)) w2.heap.size 0 x1) := Lib.hid ⟨x0, x1', x2, x3⟩
            have hql : q < (w2.alloc (.cells #[.int .i64 x1.k.num, .int .i64 x1.k.fr, .int .i64 x1.k.to, .slice x1.A x1.n x1.c] 51)).heap.size := Nat.lt_of_lt_of_le SQ2.out.lt bX.size
            clear bX cx x0 x1' x2 x3 M2 B2 AB2 XB
            have hg73 : g7 < (w2.alloc (.cells #[.int .i64 x1.k.num, .int .i64 x1.k.fr, .int .i64 x1.k.to, .slice x1.A x1.n x1.c] 51)).heap.size := Nat.lt_of_lt_of_le hg72 (by simp)
            have hq3 : q < (w2.alloc (.cells #[.int .i64 x1.k.num, .int .i64 x1.k.fr, .int .i64 x1.k.to, .slice x1.A x1.n x1.c] 51)).heap.size := hql
            generalize w2.alloc (.cells #[.int .i64 x1.k.num, .int .i64 x1.k.fr, .int .i64 x1.k.to, .slice x1.A x1.n x1.c] 51) = w3 at *
            generalize w2.heap.size = p at *
            clear al a0 a1 a2 a3 HY
            refine wp_heldall (S := fun X => Below w3.heap.size w3 X) 20 (by kernel_rfl) rfl (Below.drew (Below.refl _ _)) (fun hHeld => ?_)
            refine takeL (i := 0) (v := ?_) rfl (by kernel_rfl) (by kernel_rfl) (by kernel_rfl) (fun _ _ _ h => h) ⟨by rfl, ?_⟩ (by first | assumption | trivial) ?_
            rotate_left
            · intro W9 hSw
              (try dsimp only at hSw)
              (obtain ⟨al, a0, a1, a2, a3⟩ := AB3.out.keep hSw.size (hSw.block q hq3); rw [SN.out] at a2; obtain ⟨y0, y1, y2, y3⟩ := HXB.out.below hSw hpl)
              go_simp
              try with_reducible rfl
            (try simp only [Act.put, List.setIfInBounds_toArray, List.set_cons_zero, List.set_cons_succ])
            refine takeL (i := 1) (v := ?_) rfl (by kernel_rfl) (by kernel_rfl) (by kernel_rfl) (fun _ _ _ h => h) ⟨by rfl, ?_⟩ (by first | assumption | trivial) ?_
            rotate_left
            · intro W9 hSw
              (try dsimp only at hSw)
              (obtain ⟨al, a0, a1, a2, a3⟩ := AB3.out.keep hSw.size (hSw.block q hq3); rw [SN.out] at a2; obtain ⟨y0, y1, y2, y3⟩ := HXB.out.below hSw hpl)
              go_simp
              try with_reducible rfl
            (try simp only [Act.put, List.setIfInBounds_toArray, List.set_cons_zero, List.set_cons_succ])
            refine takeL (i := 2) (v := ?_) rfl (by kernel_rfl) (by kernel_rfl) (by kernel_rfl) (fun _ _ _ h => h) ⟨by rfl, ?_⟩ (by first | assumption | trivial) ?_
            rotate_left
            · intro W9 hSw
              (try dsimp only at hSw)
              (obtain ⟨al, a0, a1, a2, a3⟩ := AB3.out.keep hSw.size (hSw.block q hq3); rw [SN.out] at a2; obtain ⟨y0, y1, y2, y3⟩ := HXB.out.below hSw hpl)
              go_simp
              try with_reducible rfl
            (try simp only [Act.put, List.setIfInBounds_toArray, List.set_cons_zero, List.set_cons_succ])
            refine takeL (i := 3) (v := ?_) rfl (by kernel_rfl) (by kernel_rfl) (by kernel_rfl) (fun _ _ _ h => h) ⟨by rfl, ?_⟩ (by first | assumption | trivial) ?_
            rotate_left
            · intro W9 hSw
              (try dsimp only at hSw)
              (obtain ⟨al, a0, a1, a2, a3⟩ := AB3.out.keep hSw.size (hSw.block q hq3); rw [SN.out] at a2; obtain ⟨y0, y1, y2, y3⟩ := HXB.out.below hSw hpl)
              go_simp
              try with_reducible rfl
            (try simp only [Act.put, List.setIfInBounds_toArray, List.set_cons_zero, List.set_cons_succ])
            refine takeL (i := 4) (v := ?_) rfl (by kernel_rfl) (by kernel_rfl) (by kernel_rfl) (fun _ _ _ h => h) ⟨by rfl, ?_⟩ (by first | assumption | trivial) ?_
            rotate_left
            · intro W9 hSw
              (try dsimp only at hSw)
              (obtain ⟨al, a0, a1, a2, a3⟩ := AB3.out.keep hSw.size (hSw.block q hq3); rw [SN.out] at a2; obtain ⟨y0, y1, y2, y3⟩ := HXB.out.below hSw hpl)
              go_simp
              try with_reducible rfl
            (try simp only [Act.put, List.setIfInBounds_toArray, List.set_cons_zero, List.set_cons_succ])
            refine takeL (i := 5) (v := ?_) rfl (by kernel_rfl) (by kernel_rfl) (by kernel_rfl) (fun _ _ _ h => h) ⟨by rfl, ?_⟩ (by first | assumption | trivial) ?_
            rotate_left
            · intro W9 hSw
              (try dsimp only at hSw)
              (obtain ⟨al, a0, a1, a2, a3⟩ := AB3.out.keep hSw.size (hSw.block q hq3); rw [SN.out] at a2; obtain ⟨y0, y1, y2, y3⟩ := HXB.out.below hSw hpl)
              go_simp
              try with_reducible rfl
            (try simp only [Act.put, List.setIfInBounds_toArray, List.set_cons_zero, List.set_cons_succ])
            refine takeL (i := 6) (v := ?_) rfl (by kernel_rfl) (by kernel_rfl) (by kernel_rfl) (fun _ _ _ h => h) ⟨by rfl, ?_⟩ (by first | assumption | trivial) ?_
            rotate_left
            · intro W9 hSw
              (try dsimp only at hSw)
              (obtain ⟨al, a0, a1, a2, a3⟩ := AB3.out.keep hSw.size (hSw.block q hq3); rw [SN.out] at a2; obtain ⟨y0, y1, y2, y3⟩ := HXB.out.below hSw hpl)
              go_simp
              try with_reducible rfl
            (try simp only [Act.put, List.setIfInBounds_toArray, List.set_cons_zero, List.set_cons_succ])
            refine takeL (i := 7) (v := ?_) rfl (by kernel_rfl) (by kernel_rfl) (by kernel_rfl) (fun _ _ _ h => h) ⟨by rfl, ?_⟩ (by first | assumption | trivial) ?_
            rotate_left
            · intro W9 hSw
              (try dsimp only at hSw)
              (obtain ⟨al, a0, a1, a2, a3⟩ := AB3.out.keep hSw.size (hSw.block q hq3); rw [SN.out] at a2; obtain ⟨y0, y1, y2, y3⟩ := HXB.out.below hSw hpl)
              go_simp
              try with_reducible rfl
            (try simp only [Act.put, List.setIfInBounds_toArray, List.set_cons_zero, List.set_cons_succ])
            refine takeL (i := 9) (v := ?_) rfl (by kernel_rfl) (by kernel_rfl) (by kernel_rfl) (fun _ _ _ h => h) ⟨by rfl, ?_⟩ (by first | assumption | trivial) ?_
            rotate_left
            · intro W9 hSw
              (try dsimp only at hSw)
              (obtain ⟨al, a0, a1, a2, a3⟩ := AB3.out.keep hSw.size (hSw.block q hq3); rw [SN.out] at a2; obtain ⟨y0, y1, y2, y3⟩ := HXB.out.below hSw hpl)
              go_simp
              try with_reducible rfl
            (try simp only [Act.put, List.setIfInBounds_toArray, List.set_cons_zero, List.set_cons_succ])
            refine takeL (i := 10) (v := ?_) rfl (by kernel_rfl) (by kernel_rfl) (by kernel_rfl) (fun _ _ _ h => h) ⟨by rfl, ?_⟩ (by first | assumption | trivial) ?_
            rotate_left
            · intro W9 hSw
              (try dsimp only at hSw)
              (obtain ⟨al, a0, a1, a2, a3⟩ := AB3.out.keep hSw.size (hSw.block q hq3); rw [SN.out] at a2; obtain ⟨y0, y1, y2, y3⟩ := HXB.out.below hSw hpl)
              go_simp
              try with_reducible rfl
            (try simp only [Act.put, List.setIfInBounds_toArray, List.set_cons_zero, List.set_cons_succ])
            refine takeL (i := 11) (v := ?_) rfl (by kernel_rfl) (by kernel_rfl) (by kernel_rfl) (fun _ _ _ h => h) ⟨by rfl, ?_⟩ (by first | assumption | trivial) ?_
            rotate_left
            · intro W9 hSw
              (try dsimp only at hSw)
              (obtain ⟨al, a0, a1, a2, a3⟩ := AB3.out.keep hSw.size (hSw.block q hq3); rw [SN.out] at a2; obtain ⟨y0, y1, y2, y3⟩ := HXB.out.below hSw hpl)
              go_simp
              try with_reducible rfl
            (try simp only [Act.put, List.setIfInBounds_toArray, List.set_cons_zero, List.set_cons_succ])
            refine takeL (i := 12) (v := ?_) rfl (by kernel_rfl) (by kernel_rfl) (by kernel_rfl) (fun _ _ _ h => h) ⟨by rfl, ?_⟩ (by first | assumption | trivial) ?_
            rotate_left
            · intro W9 hSw
              (try dsimp only at hSw)
              (obtain ⟨al, a0, a1, a2, a3⟩ := AB3.out.keep hSw.size (hSw.block q hq3); rw [SN.out] at a2; obtain ⟨y0, y1, y2, y3⟩ := HXB.out.below hSw hpl)
              go_simp
              try with_reducible rfl
            (try simp only [Act.put, List.setIfInBounds_toArray, List.set_cons_zero, List.set_cons_succ])
            refine takeL (i := 13) (v := ?_) rfl (by kernel_rfl) (by kernel_rfl) (by kernel_rfl) (fun _ _ _ h => h) ⟨by rfl, ?_⟩ (by first | assumption | trivial) ?_
            rotate_left
            · intro W9 hSw
              (try dsimp only at hSw)
              (obtain ⟨al, a0, a1, a2, a3⟩ := AB3.out.keep hSw.size (hSw.block q hq3); rw [SN.out] at a2; obtain ⟨y0, y1, y2, y3⟩ := HXB.out.below hSw hpl)
              go_simp
              try with_reducible rfl
            (try simp only [Act.put, List.setIfInBounds_toArray, List.set_cons_zero, List.set_cons_succ])
            refine takeL (i := 14) (v := ?_) rfl (by kernel_rfl) (by kernel_rfl) (by kernel_rfl) (fun _ _ _ h => h) ⟨by rfl, ?_⟩ (by first | assumption | trivial) ?_
            rotate_left
            · intro W9 hSw
              (try dsimp only at hSw)
              (obtain ⟨al, a0, a1, a2, a3⟩ := AB3.out.keep hSw.size (hSw.block q hq3); rw [SN.out] at a2; obtain ⟨y0, y1, y2, y3⟩ := HXB.out.below hSw hpl)
              go_simp
              try with_reducible rfl
            (try simp only [Act.put, List.setIfInBounds_toArray, List.set_cons_zero, List.set_cons_succ])
            refine takeL (i := 15) (v := ?_) rfl (by kernel_rfl) (by kernel_rfl) (by kernel_rfl) (fun _ _ _ h => h) ⟨by rfl, ?_⟩ (by first | assumption | trivial) ?_
            rotate_left
            · intro W9 hSw
              (try dsimp only at hSw)
              (obtain ⟨al, a0, a1, a2, a3⟩ := AB3.out.keep hSw.size (hSw.block q hq3); rw [SN.out] at a2; obtain ⟨y0, y1, y2, y3⟩ := HXB.out.below hSw hpl)
              go_simp
              try with_reducible rfl
            (try simp only [Act.put, List.setIfInBounds_toArray, List.set_cons_zero, List.set_cons_succ])
            generalize w3.drew = X at *
            refine wpAnyH_ready (rs := [8]) (by kernel_rfl) (by simp) ?_
            refine consL rfl (by rfl) (fun K hK => ?_) ?_
            · go_simp
              have h6 : Below w3.heap.size w3 (X.alloc (.cells #[.int .i64 x1.k.num, .int .i64 x1.k.fr, .int .i64 x1.k.to, .slice x1.A x1.n x1.c] 51)) := hHeld.alloc hHeld.size _
              refine hK.out _ _ h6 (fun _ => ?_)
              clear hK K
              have r1 := rd_fr X #[.int .i64 x1.k.num, .int .i64 x1.k.fr, .int .i64 x1.k.to, .slice x1.A x1.n x1.c] 51 (0, 0)
              have L1 : RdL (X.alloc (.cells #[.int .i64 x1.k.num, .int .i64 x1.k.fr, .int .i64 x1.k.to, .slice x1.A x1.n x1.c] 51)) (some ⟨X.heap.size, 0, none⟩) [x1] := ⟨by simpa [lv, ltc] using r1, fun a ha => by
                have e : a = x1 := by simpa using ha
                rw [e]
                have := XB3.out.keep (W' := X.alloc (.cells #[.int .i64 x1.k.num, .int .i64 x1.k.fr, .int .i64 x1.k.to, .slice x1.A x1.n x1.c] 51)) h6.size (fun i _ hi => h6.block i hi)
                exact ⟨this.len, this.bnd, this.read⟩⟩
              have hyl := (HY3.out.below h6 hg73)
              have L2 : RdL (X.alloc (.cells #[.int .i64 x1.k.num, .int .i64 x1.k.fr, .int .i64 x1.k.to, .slice x1.A x1.n x1.c] 51)) (some ⟨g7, j * 4, none⟩) [y] := ⟨fun _ => ⟨g7, j * 4, rfl, Nat.lt_of_lt_of_le hg73 h6.size, fun i u hu => by
                simp [lv, ltc] at hu
                match i, hu with
                | 0, hu => cases hu; exact hyl.d0
                | 1, hu => cases hu; exact hyl.d1
                | 2, hu => cases hu; exact hyl.d2
                | 3, hu => cases hu; exact hyl.d3
                | i + 4, hu => simp at hu⟩, fun a ha => by
                have e : a = y := by simpa using ha
                rw [e]
                have := M3.out.sb y HYm.out
                have hbB := B3.out.size
                exact ⟨this.1, this.2.1, ((this.2.2.below (h6.mono hbB)).more (by have := h6.size; omega))⟩⟩
              generalize X.alloc (.cells #[.int .i64 x1.k.num, .int .i64 x1.k.fr, .int .i64 x1.k.to, .slice x1.A x1.n x1.c] 51) = X2 at *
              generalize X.heap.size = r2 at *
              (try simp only [Act.put, List.setIfInBounds_toArray, List.set_cons_zero, List.set_cons_succ])
              refine wpAnyH_ready (rs := [16]) (by kernel_rfl) (by simp) ?_
              refine consL rfl (by rfl) (fun K hK => ?_) ?_
              · go_simp
                go_at_call 41
                refine (flights_yes (some ⟨r2, 0, none⟩) (some ⟨g7, j * 4, none⟩) 1 (c7 - j) 1 [x1] [y] rfl (by decide) (by simp [XY.out]) _ L1 L2).mono ?_
                rintro e w6 ⟨rfl, hb6⟩
                have h7 : Below w3.heap.size w3 w6 := h6.trans (hb6.mono h6.size)
                refine hK.out _ _ h7 (fun _ => ?_)
                have M7 := Lib.hid (M3.out.next h7)
                have B7 : Hid (Below w.heap.size w w6) := Lib.hid (B3.out.trans (h7.mono B3.out.size))
                have AB7 := Lib.hid (AB3.out.keep h7.size (h7.block q hq3))
                clear hK K L1 L2 hyl h6 h7 hb6 M3 B3 AB3 XB3 HXB HY3 hHeld r1
                (try simp only [Act.put, List.setIfInBounds_toArray, List.set_cons_zero, List.set_cons_succ])
                refine takeL (i := 17) (v := ?_) rfl (by kernel_rfl) (by kernel_rfl) (by kernel_rfl) (fun _ _ _ h => h) ⟨by rfl, ?_⟩ (by first | assumption | trivial) ?_
                rotate_left
                · intro W9 hSw
                  (try dsimp only at hSw)
                  go_simp
                  try with_reducible rfl
                (try simp only [Act.put, List.setIfInBounds_toArray, List.set_cons_zero, List.set_cons_succ])
                refine takeL (i := 18) (v := ?_) rfl (by kernel_rfl) (by kernel_rfl) (by kernel_rfl) (fun _ _ _ h => h) ⟨by rfl, ?_⟩ (by first | assumption | trivial) ?_
                rotate_left
                · intro W9 hSw
                  (try dsimp only at hSw)
                  go_simp
                  try with_reducible rfl
                (try simp only [Act.put, List.setIfInBounds_toArray, List.set_cons_zero, List.set_cons_succ])
                refine takeL (i := 19) (v := ?_) rfl (by kernel_rfl) (by kernel_rfl) (by kernel_rfl) (fun _ _ _ h => h) ⟨by rfl, ?_⟩ (by first | assumption | trivial) ?_
                rotate_left
                · intro W9 hSw
                  (try dsimp only at hSw)
                  go_simp
                  try with_reducible rfl
                (try simp only [Act.put, List.setIfInBounds_toArray, List.set_cons_zero, List.set_cons_succ])
                refine wpAnyH_done (by kernel_rfl) ?_ _
                obtain ⟨m8, h8⟩ := M7.out.set8 j
                have M8 := Lib.hid m8
                have B8 : Hid (Below w.heap.size w (w6.setCell ⟨g8, j, none⟩ (.bool true))) := Lib.hid (B7.out.trans h8)
                have hjl : j < os.length := by have := hP.out.lo; omega
                have c8j := M7.out.o8.cellAt j (by omega)
                rw [ovC, List.getElem?_map, List.getElem?_eq_getElem hjl] at c8j
                have fz8 := M7.out.o8.frozenAt j
                obtain ⟨al, a0, a1, a2, a3⟩ := AB7.out
                rw [SN.out] at a2
                generalize os[j] = oj at *
                clear m8 h8 hjl M7 B7
                go_wp2_with fail
                go_roundw
                case rel => exact ⟨k + 1, T, c7, c8, _, v2, F2, _, _, _, _, rfl, rfl, by go_num, by omega, by omega, M8, PP, B8⟩
                case measure => simp [intOf]; omega
              exact AllReadyH.nil
            exact AllReadyH.nil
        · rw [hk4]
          have HS := Lib.hid (stwice_any MA.out.net hP.out.wf hls x.n)
          go_wp2_with fail
          refine HS.out.mono ?_
          rintro e w2 ⟨rfl, ho⟩
          obtain ⟨v2, F2, hM2, hb2, hs2⟩ := MA.out.step ho
          obtain ⟨kq, sq2⟩ := hs2 q SQ.out
          have AB2 := Lib.hid (AB.out.keep ho.1.size kq)
          have B2 : Hid (Below w.heap.size w w2) := Lib.hid (BA.out.trans hb2)
          have M2 := Lib.hid hM2
          have SQ2 := Lib.hid sq2
          clear ho hM2 hb2 hs2 kq sq2 MA SQ AB BA a0 a1 a2 a3 al
          clear HS
          by_cases hE : againE s x.n = 0
          · obtain ⟨hh, e2⟩ := againE0 hE
            have e3 : againS s x.n = putS s (hitK s x.n).fr (hitK s x.n).to (hitK s x.n).bs := by unfold againS; rw [if_pos hE]
            have e4 : againV s x.n = (T : Int) + 1 := by unfold againV; rw [if_pos hE, hP.out.ls]
            have hok := hP.out.wf.ks _ (hit_mem hh)
            rw [e3] at M2
            rw [hE, e4, hh]
            clear hE e3 e4
            have hth := hP.out.there x.n
            rw [hh] at hth
            obtain ⟨j, hj⟩ : ∃ j : Nat, x.n = j := by
              unfold thB at hth
              simp only [Bool.and_eq_true, decide_eq_true_eq] at hth
              exact ⟨x.n.toNat, by omega⟩
            clear hth
            rw [hj] at hh
            obtain ⟨kj, j1, j2⟩ := hP.out.key hh
            obtain ⟨y, hy, hyk⟩ : ∃ y, ls[j]? = some y ∧ y.k = hitK s j := by
              rw [List.getElem?_map] at kj
              cases hy : ls[j]? with
              | none => rw [hy] at kj; cases kj
              | some y => rw [hy] at kj; exact ⟨y, rfl, by injection kj⟩
            have HY : Hid (LtI w2 g7 (j * 4) y) := Lib.hid (lti_of M2.out.o7 hy)
            have HYm := Lib.hid (List.mem_of_getElem? hy)
            rw [hj, ← hyk] at M2 hok
            have PP := Lib.hid (hP.out.send hok.2.2.1 e2 (bs := y.k.bs) hok.2.2.2)
            have ee : ((T : Int) + 1 != ((T + 1 : Nat) : Int)) = false := by simp
            have i3 : (0 : Int) ≤ (j : Int) := by omega
            have i4 : (j : Int) < ((T + 1 : Nat) : Int) := by omega
            have i5 : j < T + 1 := by omega
            have i6 : (j : Int) < (T : Int) + 1 := by omega
            have SN : Hid (x.n = (j : Int)) := Lib.hid hj
            have hnq := SQ2.out.lt
            clear hh e2 hok kj hyk hy hj
            go_upto_region 37 with (fail)
            refine wp_heldcut (S := fun X => Below w2.heap.size w2 X) 22 (by kernel_rfl) (by kernel_rfl) (Below.drew (Below.refl _ _)) (fun hHeld => ?_)
            simp only [List.take_succ_cons, List.take_zero]
            refine takeL (i := 0) (v := ?_) rfl (by kernel_rfl) (by kernel_rfl) (by kernel_rfl) (fun _ _ _ h => h) ⟨by rfl, ?_⟩ (by first | assumption | trivial) ?_
            rotate_left
            · intro W9 hSw
              (try dsimp only at hSw)
              (obtain ⟨al, a0, a1, a2, a3⟩ := AB2.out.keep hSw.size (hSw.block q hnq); rw [SN.out] at a2; obtain ⟨y0, y1, y2, y3⟩ := HY.out.below hSw (M2.out.f7 g7 rfl).lt)
              go_simp
              try with_reducible rfl
            (try simp only [Act.put, List.setIfInBounds_toArray, List.set_cons_zero, List.set_cons_succ])
            refine takeL (i := 1) (v := ?_) rfl (by kernel_rfl) (by kernel_rfl) (by kernel_rfl) (fun _ _ _ h => h) ⟨by rfl, ?_⟩ (by first | assumption | trivial) ?_
            rotate_left
            · intro W9 hSw
              (try dsimp only at hSw)
              (obtain ⟨al, a0, a1, a2, a3⟩ := AB2.out.keep hSw.size (hSw.block q hnq); rw [SN.out] at a2; obtain ⟨y0, y1, y2, y3⟩ := HY.out.below hSw (M2.out.f7 g7 rfl).lt)
              go_simp
              try with_reducible rfl
            (try simp only [Act.put, List.setIfInBounds_toArray, List.set_cons_zero, List.set_cons_succ])
            refine takeL (i := 2) (v := ?_) rfl (by kernel_rfl) (by kernel_rfl) (by kernel_rfl) (fun _ _ _ h => h) ⟨by rfl, ?_⟩ (by first | assumption | trivial) ?_
            rotate_left
            · intro W9 hSw
              (try dsimp only at hSw)
              (obtain ⟨al, a0, a1, a2, a3⟩ := AB2.out.keep hSw.size (hSw.block q hnq); rw [SN.out] at a2; obtain ⟨y0, y1, y2, y3⟩ := HY.out.below hSw (M2.out.f7 g7 rfl).lt)
              go_simp
              try with_reducible rfl
            (try simp only [Act.put, List.setIfInBounds_toArray, List.set_cons_zero, List.set_cons_succ])
            refine takeL (i := 3) (v := ?_) rfl (by kernel_rfl) (by kernel_rfl) (by kernel_rfl) (fun _ _ _ h => h) ⟨by rfl, ?_⟩ (by first | assumption | trivial) ?_
            rotate_left
            · intro W9 hSw
              (try dsimp only at hSw)
              (obtain ⟨al, a0, a1, a2, a3⟩ := AB2.out.keep hSw.size (hSw.block q hnq); rw [SN.out] at a2; obtain ⟨y0, y1, y2, y3⟩ := HY.out.below hSw (M2.out.f7 g7 rfl).lt)
              go_simp
              try with_reducible rfl
            (try simp only [Act.put, List.setIfInBounds_toArray, List.set_cons_zero, List.set_cons_succ])
            refine takeL (i := 4) (v := ?_) rfl (by kernel_rfl) (by kernel_rfl) (by kernel_rfl) (fun _ _ _ h => h) ⟨by rfl, ?_⟩ (by first | assumption | trivial) ?_
            rotate_left
            · intro W9 hSw
              (try dsimp only at hSw)
              (obtain ⟨al, a0, a1, a2, a3⟩ := AB2.out.keep hSw.size (hSw.block q hnq); rw [SN.out] at a2; obtain ⟨y0, y1, y2, y3⟩ := HY.out.below hSw (M2.out.f7 g7 rfl).lt)
              go_simp
              try with_reducible rfl
            (try simp only [Act.put, List.setIfInBounds_toArray, List.set_cons_zero, List.set_cons_succ])
            refine takeL (i := 5) (v := ?_) rfl (by kernel_rfl) (by kernel_rfl) (by kernel_rfl) (fun _ _ _ h => h) ⟨by rfl, ?_⟩ (by first | assumption | trivial) ?_
            rotate_left
            · intro W9 hSw
              (try dsimp only at hSw)
              (obtain ⟨al, a0, a1, a2, a3⟩ := AB2.out.keep hSw.size (hSw.block q hnq); rw [SN.out] at a2; obtain ⟨y0, y1, y2, y3⟩ := HY.out.below hSw (M2.out.f7 g7 rfl).lt)
              go_simp
              try with_reducible rfl
            (try simp only [Act.put, List.setIfInBounds_toArray, List.set_cons_zero, List.set_cons_succ])
            refine takeL (i := 6) (v := ?_) rfl (by kernel_rfl) (by kernel_rfl) (by kernel_rfl) (fun _ _ _ h => h) ⟨by rfl, ?_⟩ (by first | assumption | trivial) ?_
            rotate_left
            · intro W9 hSw
              (try dsimp only at hSw)
              (obtain ⟨al, a0, a1, a2, a3⟩ := AB2.out.keep hSw.size (hSw.block q hnq); rw [SN.out] at a2; obtain ⟨y0, y1, y2, y3⟩ := HY.out.below hSw (M2.out.f7 g7 rfl).lt)
              go_simp
              try with_reducible rfl
            (try simp only [Act.put, List.setIfInBounds_toArray, List.set_cons_zero, List.set_cons_succ])
            refine takeL (i := 7) (v := ?_) rfl (by kernel_rfl) (by kernel_rfl) (by kernel_rfl) (fun _ _ _ h => h) ⟨by rfl, ?_⟩ (by first | assumption | trivial) ?_
            rotate_left
            · intro W9 hSw
              (try dsimp only at hSw)
              (obtain ⟨al, a0, a1, a2, a3⟩ := AB2.out.keep hSw.size (hSw.block q hnq); rw [SN.out] at a2; obtain ⟨y0, y1, y2, y3⟩ := HY.out.below hSw (M2.out.f7 g7 rfl).lt)
              go_simp
              try with_reducible rfl
            (try simp only [Act.put, List.setIfInBounds_toArray, List.set_cons_zero, List.set_cons_succ])
            refine takeL (i := 8) (v := ?_) rfl (by kernel_rfl) (by kernel_rfl) (by kernel_rfl) (fun _ _ _ h => h) ⟨by rfl, ?_⟩ (by first | assumption | trivial) ?_
            rotate_left
            · intro W9 hSw
              (try dsimp only at hSw)
              (obtain ⟨al, a0, a1, a2, a3⟩ := AB2.out.keep hSw.size (hSw.block q hnq); rw [SN.out] at a2; obtain ⟨y0, y1, y2, y3⟩ := HY.out.below hSw (M2.out.f7 g7 rfl).lt)
              go_simp
              try with_reducible rfl
            (try simp only [Act.put, List.setIfInBounds_toArray, List.set_cons_zero, List.set_cons_succ])
            refine takeL (i := 9) (v := ?_) rfl (by kernel_rfl) (by kernel_rfl) (by kernel_rfl) (fun _ _ _ h => h) ⟨by rfl, ?_⟩ (by first | assumption | trivial) ?_
            rotate_left
            · intro W9 hSw
              (try dsimp only at hSw)
              (obtain ⟨al, a0, a1, a2, a3⟩ := AB2.out.keep hSw.size (hSw.block q hnq); rw [SN.out] at a2; obtain ⟨y0, y1, y2, y3⟩ := HY.out.below hSw (M2.out.f7 g7 rfl).lt)
              go_simp
              try with_reducible rfl
            (try simp only [Act.put, List.setIfInBounds_toArray, List.set_cons_zero, List.set_cons_succ])
            refine takeL (i := 10) (v := ?_) rfl (by kernel_rfl) (by kernel_rfl) (by kernel_rfl) (fun _ _ _ h => h) ⟨by rfl, ?_⟩ (by first | assumption | trivial) ?_
            rotate_left
            · intro W9 hSw
              (try dsimp only at hSw)
              (obtain ⟨al, a0, a1, a2, a3⟩ := AB2.out.keep hSw.size (hSw.block q hnq); rw [SN.out] at a2; obtain ⟨y0, y1, y2, y3⟩ := HY.out.below hSw (M2.out.f7 g7 rfl).lt)
              go_simp
              try with_reducible rfl
            (try simp only [Act.put, List.setIfInBounds_toArray, List.set_cons_zero, List.set_cons_succ])
            refine takeL (i := 11) (v := ?_) rfl (by kernel_rfl) (by kernel_rfl) (by kernel_rfl) (fun _ _ _ h => h) ⟨by rfl, ?_⟩ (by first | assumption | trivial) ?_
            rotate_left
            · intro W9 hSw
              (try dsimp only at hSw)
              (obtain ⟨al, a0, a1, a2, a3⟩ := AB2.out.keep hSw.size (hSw.block q hnq); rw [SN.out] at a2; obtain ⟨y0, y1, y2, y3⟩ := HY.out.below hSw (M2.out.f7 g7 rfl).lt)
              go_simp
              try with_reducible rfl
            (try simp only [Act.put, List.setIfInBounds_toArray, List.set_cons_zero, List.set_cons_succ])
            refine takeL (i := 12) (v := ?_) rfl (by kernel_rfl) (by kernel_rfl) (by kernel_rfl) (fun _ _ _ h => h) ⟨by rfl, ?_⟩ (by first | assumption | trivial) ?_
            rotate_left
            · intro W9 hSw
              (try dsimp only at hSw)
              (obtain ⟨al, a0, a1, a2, a3⟩ := AB2.out.keep hSw.size (hSw.block q hnq); rw [SN.out] at a2; obtain ⟨y0, y1, y2, y3⟩ := HY.out.below hSw (M2.out.f7 g7 rfl).lt)
              go_simp
              try with_reducible rfl
            (try simp only [Act.put, List.setIfInBounds_toArray, List.set_cons_zero, List.set_cons_succ])
            refine takeL (i := 13) (v := ?_) rfl (by kernel_rfl) (by kernel_rfl) (by kernel_rfl) (fun _ _ _ h => h) ⟨by rfl, ?_⟩ (by first | assumption | trivial) ?_
            rotate_left
            · intro W9 hSw
              (try dsimp only at hSw)
              (obtain ⟨al, a0, a1, a2, a3⟩ := AB2.out.keep hSw.size (hSw.block q hnq); rw [SN.out] at a2; obtain ⟨y0, y1, y2, y3⟩ := HY.out.below hSw (M2.out.f7 g7 rfl).lt)
              go_simp
              try with_reducible rfl
            (try simp only [Act.put, List.setIfInBounds_toArray, List.set_cons_zero, List.set_cons_succ])
            refine takeL (i := 14) (v := ?_) rfl (by kernel_rfl) (by kernel_rfl) (by kernel_rfl) (fun _ _ _ h => h) ⟨by rfl, ?_⟩ (by first | assumption | trivial) ?_
            rotate_left
            · intro W9 hSw
              (try dsimp only at hSw)
              (obtain ⟨al, a0, a1, a2, a3⟩ := AB2.out.keep hSw.size (hSw.block q hnq); rw [SN.out] at a2; obtain ⟨y0, y1, y2, y3⟩ := HY.out.below hSw (M2.out.f7 g7 rfl).lt)
              go_simp
              try with_reducible rfl
            (try simp only [Act.put, List.setIfInBounds_toArray, List.set_cons_zero, List.set_cons_succ])
            refine takeL (i := 15) (v := ?_) rfl (by kernel_rfl) (by kernel_rfl) (by kernel_rfl) (fun _ _ _ h => h) ⟨by rfl, ?_⟩ (by first | assumption | trivial) ?_
            rotate_left
            · intro W9 hSw
              (try dsimp only at hSw)
              (obtain ⟨al, a0, a1, a2, a3⟩ := AB2.out.keep hSw.size (hSw.block q hnq); rw [SN.out] at a2; obtain ⟨y0, y1, y2, y3⟩ := HY.out.below hSw (M2.out.f7 g7 rfl).lt)
              go_simp
              try with_reducible rfl
            (try simp only [Act.put, List.setIfInBounds_toArray, List.set_cons_zero, List.set_cons_succ])
            refine takeL (i := 16) (v := ?_) rfl (by kernel_rfl) (by kernel_rfl) (by kernel_rfl) (fun _ _ _ h => h) ⟨by rfl, ?_⟩ (by first | assumption | trivial) ?_
            rotate_left
            · intro W9 hSw
              (try dsimp only at hSw)
              (obtain ⟨al, a0, a1, a2, a3⟩ := AB2.out.keep hSw.size (hSw.block q hnq); rw [SN.out] at a2; obtain ⟨y0, y1, y2, y3⟩ := HY.out.below hSw (M2.out.f7 g7 rfl).lt)
              go_simp
              try with_reducible rfl
            (try simp only [Act.put, List.setIfInBounds_toArray, List.set_cons_zero, List.set_cons_succ])
            refine takeL (i := 17) (v := ?_) rfl (by kernel_rfl) (by kernel_rfl) (by kernel_rfl) (fun _ _ _ h => h) ⟨by rfl, ?_⟩ (by first | assumption | trivial) ?_
            rotate_left
            · intro W9 hSw
              (try dsimp only at hSw)
              (obtain ⟨al, a0, a1, a2, a3⟩ := AB2.out.keep hSw.size (hSw.block q hnq); rw [SN.out] at a2; obtain ⟨y0, y1, y2, y3⟩ := HY.out.below hSw (M2.out.f7 g7 rfl).lt)
              go_simp
              try with_reducible rfl
            (try simp only [Act.put, List.setIfInBounds_toArray, List.set_cons_zero, List.set_cons_succ])
            refine takeL (i := 18) (v := ?_) rfl (by kernel_rfl) (by kernel_rfl) (by kernel_rfl) (fun _ _ _ h => h) ⟨by rfl, ?_⟩ (by first | assumption | trivial) ?_
            rotate_left
            · intro W9 hSw
              (try dsimp only at hSw)
              (obtain ⟨al, a0, a1, a2, a3⟩ := AB2.out.keep hSw.size (hSw.block q hnq); rw [SN.out] at a2; obtain ⟨y0, y1, y2, y3⟩ := HY.out.below hSw (M2.out.f7 g7 rfl).lt)
              go_simp
              try with_reducible rfl
            (try simp only [Act.put, List.setIfInBounds_toArray, List.set_cons_zero, List.set_cons_succ])
            refine takeL (i := 19) (v := ?_) rfl (by kernel_rfl) (by kernel_rfl) (by kernel_rfl) (fun _ _ _ h => h) ⟨by rfl, ?_⟩ (by first | assumption | trivial) ?_
            rotate_left
            · intro W9 hSw
              (try dsimp only at hSw)
              (obtain ⟨al, a0, a1, a2, a3⟩ := AB2.out.keep hSw.size (hSw.block q hnq); rw [SN.out] at a2; obtain ⟨y0, y1, y2, y3⟩ := HY.out.below hSw (M2.out.f7 g7 rfl).lt)
              go_simp
              try with_reducible rfl
            (try simp only [Act.put, List.setIfInBounds_toArray, List.set_cons_zero, List.set_cons_succ])
            refine takeL (i := 20) (v := ?_) rfl (by kernel_rfl) (by kernel_rfl) (by kernel_rfl) (fun _ _ _ h => h) ⟨by rfl, ?_⟩ (by first | assumption | trivial) ?_
            rotate_left
            · intro W9 hSw
              (try dsimp only at hSw)
              (obtain ⟨al, a0, a1, a2, a3⟩ := AB2.out.keep hSw.size (hSw.block q hnq); rw [SN.out] at a2; obtain ⟨y0, y1, y2, y3⟩ := HY.out.below hSw (M2.out.f7 g7 rfl).lt)
              go_simp
              try with_reducible rfl
            (try simp only [Act.put, List.setIfInBounds_toArray, List.set_cons_zero, List.set_cons_succ])
            have MX := Lib.hid (M2.out.next (Below.drew (Below.refl _ _)))
            have BX : Hid (Below w.heap.size w w2.drew) := Lib.hid (B2.out.trans ((Below.drew (Below.refl _ _)).mono B2.out.size))
            generalize w2.drew = X at *
            refine wpAnyH_ready (rs := [21]) (by kernel_rfl) (by simp) ?_
            refine consL rfl (by rfl) (fun K hK => ?_) ?_
            · go_simp
              have hxx : Below w2.heap.size w2 (X.alloc (.cells #[.int .i64 ((T : Int) + 1), .int .i64 y.k.fr, .int .i64 y.k.to, .slice y.A y.n y.c] 51)) := hHeld.alloc hHeld.size _
              refine hK.out _ _ hxx (fun _ => ?_)
              clear hK K hxx hHeld
              refine wpAnyH_done (by kernel_rfl) ?_ _
              simp only [tailPost, List.drop_succ_cons, List.drop_zero]
              go_upto_region 38 with (at_builtin; refine wpList_app styL (.tmp 170) (.tmp 191) rfl rfl w.heap.size (own_keep MX.out.o7 ((Below.refl _ _).alloc (Nat.le_refl _) _) (Nat.le_refl _)) rfl 1 1 (rd_cells _ _ _) rfl rfl (by intro u hu; simp at hu; rcases hu with rfl | rfl | rfl | rfl <;> rfl) (by unfold maxLen; omega) (by omega) (by have := BX.out.size; simp; omega) ?_; intro v3 w3 own3 gr3 nil3 at3)
              obtain ⟨A3, c3, rfl, -, -⟩ := own_sl own3
              have b7 : Below X.heap.size X (X.alloc (.cells #[.int .i64 ((T : Int) + 1), .int .i64 y.k.fr, .int .i64 y.k.to, .slice y.A y.n y.c] 51)) := (Below.refl _ _).alloc (Nat.le_refl _) _
              obtain ⟨m3, h3, -⟩ := (MX.out.next b7).push7 (x := ⟨⟨(T : Int) + 1, y.k.fr, y.k.to, y.k.bs⟩, y.A, y.n, y.c⟩) gr3 own3 at3 ((MX.out.next b7).sb y HYm.out) 
              have M3 := Lib.hid m3
              have B3 : Hid (Below w.heap.size w w3) := Lib.hid ((BX.out.trans (b7.mono BX.out.size)).trans h3)
              clear own3 gr3 nil3 at3 m3 h3 b7 M2 B2 MX BX HY
              go_wp2_with (at_builtin; refine wpList_app styB (.tmp 193) (.tmp 194) rfl rfl w.heap.size (own_keep M3.out.o8 ((Below.refl _ _).alloc (Nat.le_refl _) _) (Nat.le_refl _)) rfl 1 1 (rd_cells _ _ _) rfl rfl (by intro u hu; simp at hu; subst hu; rfl) (by unfold maxLen; omega) (by omega) (by have := B3.out.size; simp; omega) ?_; intro v4 w4 own4 gr4 nil4 at4; obtain ⟨A4, c4, rfl, -, -⟩ := own_sl own4)
              have b8 : Below w3.heap.size w3 (w3.alloc (.cells #[.bool false] 4)) := (Below.refl _ _).alloc (Nat.le_refl _) _
              obtain ⟨m4, h4⟩ := (M3.out.next b8).push8 (y := false) gr4 own4 at4
              have M4 := Lib.hid m4
              have B4 : Hid (Below w.heap.size w w4) := Lib.hid ((B3.out.trans (b8.mono B3.out.size)).trans h4)
              have P4 : Hid (PL (putS s y.k.fr y.k.to y.k.bs) (T + 1) ((ls ++ [(⟨⟨(T : Int) + 1, y.k.fr, y.k.to, y.k.bs⟩, y.A, y.n, y.c⟩ : Ltr)]).map Ltr.k) (os ++ [false])) := Lib.hid (by rw [List.map_append]; exact PP.out)
              clear own4 gr4 nil4 at4 m4 h4 b8 M3 B3 PP
              go_roundw
              case rel => exact ⟨k + 1, T + 1, c3, c4, _, v2, F2, A3, A4, _, _, rfl, rfl, by go_num, by omega, by omega, M4, P4, B4⟩
              case measure => simp [intOf]; omega
            exact AllReadyH.nil
          · have e3 : againS s x.n = s := by unfold againS; rw [if_neg hE]
            have e4 : againV s x.n = 0 := by unfold againV; rw [if_neg hE]
            have ee : (againE s x.n == 0) = false := by simpa using hE
            rw [e3] at M2
            rw [e4]
            generalize againE s x.n = E at *
            clear hE e3 e4
            go_wp2_with fail
            go_roundw
            case rel => exact ⟨k + 1, T, c7, c8, _, v2, F2, _, _, _, _, rfl, rfl, by go_num, by omega, by omega, M2, hP, B2⟩
            case measure => simp [intOf]; omega
        · rw [hk4]
          have HS := Lib.hid (sdrop_any MA.out.net hP.out.wf x.n)
          go_wp2_with fail
          refine HS.out.mono ?_
          rintro e w2 ⟨rfl, ho⟩
          obtain ⟨v2, F2, hM2, hb2, hs2⟩ := MA.out.step ho
          obtain ⟨kq, sq2⟩ := hs2 q SQ.out
          have AB2 := Lib.hid (AB.out.keep ho.1.size kq)
          have B2 : Hid (Below w.heap.size w w2) := Lib.hid (BA.out.trans hb2)
          have M2 := Lib.hid hM2
          have SQ2 := Lib.hid sq2
          clear ho hM2 hb2 hs2 kq sq2 MA SQ AB BA a0 a1 a2 a3 al
          clear HS
          cases hh : hitB s x.n
          · have e1 : hitE s x.n = 4 := by unfold hitE; rw [hh]; rfl
            have e2 : outS s x.n = s := by unfold outS; rw [hh]; rfl
            rw [e1]
            rw [e2] at M2
            clear e1 e2 hh
            go_wp2_with fail
            go_roundw
            case rel => exact ⟨k + 1, T, c7, c8, _, v2, F2, _, _, _, _, rfl, rfl, by go_num, by omega, by omega, M2, hP, B2⟩
            case measure => simp [intOf]; omega
          · have e1 : hitE s x.n = 0 := by unfold hitE; rw [hh]; rfl
            rw [e1]
            have hth := hP.out.there x.n
            rw [hh] at hth
            obtain ⟨j, hj⟩ : ∃ j : Nat, x.n = j := by
              unfold thB at hth
              simp only [Bool.and_eq_true, decide_eq_true_eq] at hth
              exact ⟨x.n.toNat, by omega⟩
            rw [hj] at hh M2
            obtain ⟨-, j1, j2⟩ := hP.out.key hh
            have PP := Lib.hid (hP.out.out j1 hh)
            obtain ⟨m3, h3⟩ := M2.out.set8 j
            have M3 := Lib.hid m3
            have B3 : Hid (Below w.heap.size w (w2.setCell ⟨g8, j, none⟩ (.bool true))) := Lib.hid (B2.out.trans h3)
            have hjl : j < os.length := by have := hP.out.lo; omega
            have c8j := M2.out.o8.cellAt j (by omega)
            rw [ovC, List.getElem?_map, List.getElem?_eq_getElem hjl] at c8j
            have fz8 := M2.out.o8.frozenAt j
            obtain ⟨al, a0, a1, a2, a3⟩ := AB2.out
            rw [hj] at a2
            generalize os[j] = oj at *
            have i3 : (0 : Int) ≤ (j : Int) := by omega
            have i4 : (j : Int) < ((T + 1 : Nat) : Int) := by omega
            have i5 : j < T + 1 := by omega
            clear hth hh e1 hj m3 h3 hjl M2 B2
            go_wp2_with fail
            go_roundw
            case rel => exact ⟨k + 1, T, c7, c8, _, v2, F2, _, _, _, _, rfl, rfl, by go_num, by omega, by omega, M3, PP, B3⟩
            case measure => simp [intOf]; omega
    · obtain rfl : k = n := by omega
      go_wp2_with fail
      go_ret
      exact ⟨rfl, hB.out⟩
end Go.Proofs.Ytlpdihcgdgkkbaa
