/- The walk of the law: a clock never goes back. -/
import Derived.Test.YthijpcbblmcfiaaHm
import Derived.Test.YthijpcbblmcfiaaHn
namespace Go.Proofs.Ythijpcbblmcfiaa
open Go.RowKit Go.St
set_option linter.unusedVariables false
set_option linter.unusedSimpArgs false
set_option maxRecDepth 100000

theorem max_assoc (a b c : Stp) : maxS (maxS a b) c = maxS a (maxS b c) := by
  unfold maxS
  by_cases h1 : less a b = true
  · by_cases h2 : less b c = true
    · have h3 := less_trans h1 h2
      simp [h1, h2, h3]
    · simp [h1, h2]
  · by_cases h2 : less b c = true
    · simp [h1, h2]
    · by_cases h3 : less a c = true
      · exfalso
        rw [less_iff] at h1 h2 h3
        omega
      · simp [h1, h2, h3]

/-- A stamp in a block that may be written. -/
structure LB (w : World) (b : Nat) (s : Stp) : Prop where
  bx : Bx w b s
  f : ∀ i, w.frozen? ⟨b, i, none⟩ = false
theorem LB.keep {w w' : World} {b : Nat} {s : Stp} (h : LB w b s) (hc : ∀ i, w'.cell? ⟨b, i, none⟩ = w.cell? ⟨b, i, none⟩) (hf : ∀ i, w'.frozen? ⟨b, i, none⟩ = w.frozen? ⟨b, i, none⟩) (hs : w.heap.size ≤ w'.heap.size) : LB w' b s :=
  ⟨h.bx.keep hc hs, fun i => (hf i).trans (h.f i)⟩
theorem LB.below {w w' : World} {b B : Nat} {s : Stp} (h : LB w b s) (hb : Below B w w') (hB : b < B) : LB w' b s := h.keep (fun i => hb.cell (p := ⟨b, i, none⟩) hB) (fun i => hb.frozen (p := ⟨b, i, none⟩) hB) hb.size
theorem LB.only {w w' : World} {b x B : Nat} {s : Stp} (h : LB w b s) (hb : Only B x w w') (hB : b < B) (hx : b ≠ x) : LB w' b s := h.keep (fun i => hb.cell (p := ⟨b, i, none⟩) hB hx) (fun i => hb.frozen (p := ⟨b, i, none⟩) hB hx) hb.size
theorem LB.set {w : World} {b : Nat} {s t : Stp} (h : LB w b s) : LB (((w.setCell ⟨b, 0, none⟩ (.int .i64 t.wall)).setCell ⟨b, 1, none⟩ (.int .i32 t.logic)).setCell ⟨b, 2, none⟩ (.int .i32 t.tag)) b t := by
  obtain ⟨⟨c0, c1, c2, hl⟩, f⟩ := h
  refine ⟨⟨?_, ?_, ?_, ?_⟩, fun i => ?_⟩ <;> first | go_simp | (simp; exact hl)
theorem lb_new (w : World) (s : Stp) (t : TypeId) : LB (w.alloc (.cells #[.int .i64 s.wall, .int .i32 s.logic, .int .i32 s.tag] t)) w.heap.size s :=
  ⟨bx_new w s t, fun i => by simp [go_sem]⟩
/-- A store of a stamp into one block leaves the others. -/
theorem only_set (w : World) (b : Nat) (x y z : Value) : Only w.heap.size b w (((w.setCell ⟨b, 0, none⟩ x).setCell ⟨b, 1, none⟩ y).setCell ⟨b, 2, none⟩ z) := by
  refine Only.setCell ?_ (.inl (by rfl)) _
  refine Only.setCell ?_ (.inl (by rfl)) _
  refine Only.setCell ?_ (.inl (by rfl)) _
  exact Only.refl _ _ _

/-- The clock and the last stamp that the law has kept agree. -/
structure Rise (base : Nat) (b bl : Nat) (o : Int) (w : World) : Prop where
  ex : ∃ s, Clk w b o s ∧ LB w bl s ∧ okS s = true ∧ s.tag = 0

theorem now_rise {s : Stp} {t : Int} (h : okS s = true) (h0 : s.tag = 0) : (nowE s t ≠ 0 ∧ nowL s t = s) ∨
    (nowE s t = 0 ∧ nowL s t = nowS s t ∧ less s (nowS s t) = true ∧ (nowS s t).tag = 0 ∧ t ≤ (nowS s t).wall ∧ okS (nowS s t) = true) := by
  have hk := (okS_iff s).1 h
  rcases now_cases s t with ⟨h1, hE, hS, hL⟩ | ⟨h1, h2, h3, hE, hS, hL⟩ | ⟨h1, h2, h3, h4, hE, hS, hL⟩ | ⟨h1, h2, h3, h4, hE, hS, hL⟩
  · exact .inl ⟨by rw [hE]; decide, hL⟩
  · refine .inr ⟨hE, by rw [hL, hS], ?_, by rw [hS], by rw [hS]; exact Int.le_refl _, ?_⟩
    · rw [hS, less_iff]; exact .inl h3
    · rw [hS, okS_iff]; simp only; omega
  · exact .inl ⟨by rw [hE]; decide, hL⟩
  · refine .inr ⟨hE, by rw [hL, hS], ?_, by rw [hS], by rw [hS]; exact h3, ?_⟩
    · rw [hS, less_iff]; exact .inr ⟨rfl, .inl (by simp only; omega)⟩
    · rw [hS, okS_iff]; simp only; omega

set_option maxHeartbeats 6400000 in
theorem hlcRises_walk (w : World) (off : Int) (low : Stp) (A : Option Addr) (n c : Nat) (l : List ActL) (hl : l.length = n) (hc : n ≤ c) (hn : c ≤ 140737488351232) (hin : ∀ a ∈ l, InA a) (hr : Rd w w.heap.size A (l.map actCells).flatten) :
    Calls Try.prog 8 #[.int .i64 off, .agg #[.int .i64 low.wall, .int .i32 low.logic, .int .i32 low.tag], .slice A n c] w fun e w' => e = .returned (.bool true) ∧ Below w.heap.size w w' := by
  have HL := Lib.hid hl; have HR := Lib.hid hr; have HI := Lib.hid hin
  clear hl hr hin
  go_enter Try.func8, Try.ntmps8
  go_wp2_with fail
  refine (lives20_any _).mono ?_
  rintro e w1 ⟨rfl, hb⟩
  obtain ⟨hcw1, hfw1⟩ := bcell hb
  have HBw1 : Hid (Below w.heap.size w w1) := Below.go (by go_grown) hb (by go_size)
  have hzw10 : w.heap.size < w1.heap.size := by have := hb.size; simp at this; omega
  have HEw1 := Lib.hid hb
  clear hb
  have L1 := Lib.hid ((bx_new w low 23).below HEw1.out (by simp))
  have fr1 : ∀ i, w1.frozen? ⟨w.heap.size, i, none⟩ = false := fun i => by rw [hfw1 _ _ (by simp)]; go_simp
  clear hcw1 hfw1 HEw1
  by_cases hE : newE off low = 0
  · obtain ⟨z1, z2, z3⟩ := new_zero hE
    have hu := ok_untag z3
    have HU := Lib.hid hu; have Z3 := Lib.hid z3
    obtain ⟨x0, x1, x2, xl⟩ := L1.out
    clear hE hu z3
    go_wp2_with fail
    refine (hnew_ok off low _ z1 z2 Z3.out).mono ?_
    rintro e w2 ⟨b, rfl, hb1, hk1, hbe⟩
    have HB2 : Hid (Below w.heap.size w w2) := Below.go HBw1.out hbe HBw1.out.size
    have L2 := L1.out.below hbe L1.out.lt
    have fr2 : ∀ i, w2.frozen? ⟨w.heap.size, i, none⟩ = false := fun i => (hbe.frozen (p := ⟨w.heap.size, i, none⟩) hzw10).trans (fr1 i)
    have K1 := Lib.hid hk1
    have l1 := hk1.lt
    have s1 := HBw1.out.size
    have hz2 : w.heap.size < w2.heap.size := by have := hbe.size; omega
    have hgb : w.heap.size ≤ b := by omega
    have hbn : b ≠ w.heap.size := by omega
    clear hbe hk1 x0 x1 x2 xl L1 fr1 hzw10
    obtain ⟨x0, x1, x2, xl⟩ := L2
    by_cases h200 : n ≤ 200
    · go_wp2_with fail
      have K3 : Hid (Clk ((w2.setCell ⟨w.heap.size, 2, none⟩ (.int .i32 0)).alloc (.cells #[.int .i64 low.wall, .int .i32 low.logic, .int .i32 0] 23)) b off ⟨low.wall, low.logic, 0⟩) :=
        (K1.out.only (show Only w2.heap.size w.heap.size w2 _ from Only.setCell (Only.refl _ _ _) (.inl (by rfl)) (.int .i32 0)) l1 hbn).below ((Below.refl (w2.setCell ⟨w.heap.size, 2, none⟩ (.int .i32 0)).heap.size _).alloc (Nat.le_refl _) _) (by simp; exact l1)
      have LB3 : Hid (LB ((w2.setCell ⟨w.heap.size, 2, none⟩ (.int .i32 0)).alloc (.cells #[.int .i64 low.wall, .int .i32 low.logic, .int .i32 0] 23)) w2.heap.size ⟨low.wall, low.logic, 0⟩) := by
        have h := lb_new (w2.setCell ⟨w.heap.size, 2, none⟩ (.int .i32 0)) ⟨low.wall, low.logic, 0⟩ 23
        rw [World.size_setCell] at h
        exact h
      have HB3 : Hid (Below w.heap.size w ((w2.setCell ⟨w.heap.size, 2, none⟩ (.int .i32 0)).alloc (.cells #[.int .i64 low.wall, .int .i32 low.logic, .int .i32 0] 23))) := by
        have h := HB2.out
        have hs := h.size
        unfold Hid
        go_grown
      have hbl : b ≠ w2.heap.size := by omega
      have hgl : w.heap.size ≤ w2.heap.size := by omega
      generalize w2.heap.size = bl at *
      clear K1 HB2 x0 x1 x2 xl fr2 l1 s1 hz2 hbn z1 z2 Z3 HBw1 hb1
      go_loopw [10] (fun i wr => ∃ (j : Nat) (s : Stp), j ≤ n ∧ i = .int .i64 j ∧ Hid (Clk wr b off s) ∧ Hid (LB wr bl s) ∧ Hid (okS s = true ∧ s.tag = 0) ∧ Hid (Below w.heap.size w wr)) (fun i _ => n - (intOf i).toNat)
      case atStart => exact ⟨0, _, Nat.zero_le _, rfl, K3, LB3, ⟨HU.out, rfl⟩, HB3⟩
      case round =>
        obtain ⟨j, s, hj, rfl, K4, L4, S4, B4⟩ := hrel
        clear K3 LB3 HB3 HU
        by_cases hlt : j < n
        · have hjl : j < l.length := by rw [HL.out]; exact hlt
          obtain ⟨b', off', rfl, hb', d0, d1, d2, d3, d4⟩ := act_cells (HR.out.below B4.out) j l[j] (List.getElem?_eq_getElem hjl)
          have hia := HI.out l[j] (List.getElem_mem hjl)
          generalize l[j] = a at *
          have hwk := hia.1
          have hbs := B4.out.size
          have A1 := Lib.hid (abx_new wr a 45)
          have hab : Below wr.heap.size wr (wr.alloc (.cells #[.int .i64 a.k, .int .i64 a.wl, .int .i64 a.s.wall, .int .i32 a.s.logic, .int .i32 a.s.tag] 45)) := (Below.refl wr.heap.size wr).alloc (Nat.le_refl _) _
          have K5 := Lib.hid (K4.out.below hab K4.out.lt)
          have L5 := Lib.hid (L4.out.below hab L4.out.bx.lt)
          have B5 : Hid (Below w.heap.size w (wr.alloc (.cells #[.int .i64 a.k, .int .i64 a.wl, .int .i64 a.s.wall, .int .i32 a.s.logic, .int .i32 a.s.tag] 45))) := B4.out.alloc B4.out.size _
          have fa : ∀ i, (wr.alloc (.cells #[.int .i64 a.k, .int .i64 a.wl, .int .i64 a.s.wall, .int .i32 a.s.logic, .int .i32 a.s.tag] 45)).frozen? ⟨wr.heap.size, i, none⟩ = false := fun i => by go_simp
          have hnb : wr.heap.size ≠ b := by have := K4.out.lt; omega
          have hnl : wr.heap.size ≠ bl := by have := L4.out.bx.lt; omega
          have FA := Lib.hid fa
          clear hia K4 L4 hab fa
          go_wp2_with fail
          refine (pick_any a.k 2 (by omega) (by omega) hwk _).mono ?_
          rintro e w' ⟨rfl, rfl⟩
          clear d0 d1 d2 d3 d4
          have z4 : wr.heap.size < (wr.alloc (.cells #[.int .i64 a.k, .int .i64 a.wl, .int .i64 a.s.wall, .int .i32 a.s.logic, .int .i32 a.s.tag] 45)).heap.size := by rw [World.size_alloc]; omega
          obtain ⟨W, hW⟩ : ∃ W, W = wr.alloc (.cells #[.int .i64 a.k, .int .i64 a.wl, .int .i64 a.s.wall, .int .i32 a.s.logic, .int .i32 a.s.tag] 45) := ⟨_, rfl⟩
          rw [← hW] at A1 K5 L5 B5 FA z4 ⊢
          clear hW hwk
          obtain ⟨c0, c1, c2, c3, c4⟩ := A1.out
          generalize hk2 : a.k % 2 = kk
          have hkk : kk = 0 ∨ kk = 1 := by omega
          clear hk2
          rcases hkk with rfl | rfl
          · go_wp2_with fail
            refine (hnow_any b off s a.wl _ K5.out S4.out.1).mono ?_
            rintro e v2 ⟨rfl, ho, hk⟩
            have L6 := Lib.hid (L5.out.only ho L5.out.bx.lt (Ne.symm hbl))
            have A2 := Lib.hid (A1.out.only ho z4 hnb)
            have K6 := Lib.hid hk
            have BV2 : Hid (Below w.heap.size w v2) := Below.onto B5.out ho hgb B5.out.size
            have z2 : wr.heap.size < v2.heap.size := by have := ho.size; omega
            have hrise := now_rise (t := a.wl) S4.out.1 S4.out.2
            have HRI := Lib.hid hrise
            clear ho hk hrise c0 c1 c2 c3 c4
            generalize nowS s a.wl = x at *
            generalize nowE s a.wl = ne at *
            generalize nowL s a.wl = ss at *
            have hax : Below v2.heap.size v2 (v2.alloc (.cells #[.int .i64 x.wall, .int .i32 x.logic, .int .i32 x.tag] 23)) := (Below.refl v2.heap.size v2).alloc (Nat.le_refl _) _
            have K7 := Lib.hid (K6.out.below hax K6.out.lt)
            have L7 := Lib.hid (L6.out.below hax L6.out.bx.lt)
            have X7 := Lib.hid (bx_new v2 x 23)
            have A7 := Lib.hid (A2.out.below hax z2)
            have B7 : Hid (Below w.heap.size w (v2.alloc (.cells #[.int .i64 x.wall, .int .i32 x.logic, .int .i32 x.tag] 23))) := BV2.out.alloc BV2.out.size _
            obtain ⟨l0, l1, l2, ll⟩ := L6.out.bx
            obtain ⟨c0, c1, c2, c3, c4⟩ := A2.out
            have lx : bl < v2.heap.size + 1 := by omega
            clear hax
            rcases HRI.out with ⟨n1, n2⟩ | ⟨n1, n2, n3, n4, n5, n6⟩
            · have hne : (ne == 0) = false := by simpa using n1
              subst n2
              have K8 := K7
              have L8 := L7
              have B8 := B7
              have S8 := S4
              clear n1 HRI
              go_wp2_with fail
              refine wp_qall (by kernel_rfl) (by kernel_rfl) ?_
              intro hcg
              repeat (first | go_big_quiet_step ((first | exact Calls.reg (hlast_any b off ss _ (K8.out.below (below_regrown _ _ _) K8.out.lt)))) | quiet_step ((first | exact Calls.reg (hlast_any b off ss _ (K8.out.below (below_regrown _ _ _) K8.out.lt)))))
              refine wpQuiet_nil ?_
              intro vq hbvq hcvq hfvq
              clear hcg
              have K9 := Lib.hid (K8.out.below hbvq K8.out.lt)
              have L9 := Lib.hid (L8.out.below hbvq L8.out.bx.lt)
              have HB9 : Hid (Below w.heap.size w vq) := Below.go B8.out hbvq B8.out.size
              clear hbvq hcvq hfvq
              go_wp2
              exact ⟨⟨j + 1, ss, by omega, by go_num, K9, L9, S8, HB9⟩, by simp [intOf]; omega⟩
            · subst n1
              have CM : Hid (CmpIs x s 1) := cmpIs (cmp_gt n3)
              have e4 : (x.tag != 0) = false := by simpa using n4
              have S8 : Hid (okS x = true ∧ x.tag = 0) := ⟨n6, n4⟩
              have K7' : Hid (Clk (v2.alloc (.cells #[.int .i64 x.wall, .int .i32 x.logic, .int .i32 x.tag] 23)) b off x) := by have h := K7.out; rw [n2] at h; exact h
              clear n2 n3 n4 n6 HRI K7
              go_wp2_with fail
              refine (CM.out _).mono ?_
              rintro e v3 ⟨rfl, hb⟩
              have K3 := Lib.hid (K7'.out.below hb K7'.out.lt)
              have L3 := Lib.hid (L7.out.below hb L7.out.bx.lt)
              have X3 := Lib.hid (X7.out.below hb X7.out.lt)
              have A3 := Lib.hid (A7.out.below hb A7.out.lt)
              have B3 : Hid (Below w.heap.size w v3) := Below.go B7.out hb B7.out.size
              clear hb l0 l1 l2 ll c0 c1 c2 c3 c4 lx
              obtain ⟨l0, l1, l2, ll⟩ := L3.out.bx
              obtain ⟨c0, c1, c2, c3, c4⟩ := A3.out
              obtain ⟨x0, x1, x2, xl⟩ := X3.out
              have lf := L3.out.f
              go_wp2_with fail
              have K8 : Hid (Clk (((v3.setCell ⟨bl, 0, none⟩ (.int .i64 x.wall)).setCell ⟨bl, 1, none⟩ (.int .i32 x.logic)).setCell ⟨bl, 2, none⟩ (.int .i32 x.tag)) b off x) := K3.out.only (only_set v3 bl _ _ _) K3.out.lt hbl
              have L8 : Hid (LB (((v3.setCell ⟨bl, 0, none⟩ (.int .i64 x.wall)).setCell ⟨bl, 1, none⟩ (.int .i32 x.logic)).setCell ⟨bl, 2, none⟩ (.int .i32 x.tag)) bl x) := L3.out.set
              have B8 : Hid (Below w.heap.size w (((v3.setCell ⟨bl, 0, none⟩ (.int .i64 x.wall)).setCell ⟨bl, 1, none⟩ (.int .i32 x.logic)).setCell ⟨bl, 2, none⟩ (.int .i32 x.tag))) := Below.onto B3.out (only_set v3 bl _ _ _) hgl B3.out.size
              generalize (((v3.setCell ⟨bl, 0, none⟩ (.int .i64 x.wall)).setCell ⟨bl, 1, none⟩ (.int .i32 x.logic)).setCell ⟨bl, 2, none⟩ (.int .i32 x.tag)) = V8 at *
              clear l0 l1 l2 ll c0 c1 c2 c3 c4 x0 x1 x2 xl lf
              obtain ⟨l0, l1, l2, ll⟩ := L8.out.bx
              refine wp_qall (by kernel_rfl) (by kernel_rfl) ?_
              intro hcg
              repeat (first | go_big_quiet_step ((first | exact Calls.reg (hlast_any b off x _ (K8.out.below (below_regrown _ _ _) K8.out.lt)))) | quiet_step ((first | exact Calls.reg (hlast_any b off x _ (K8.out.below (below_regrown _ _ _) K8.out.lt)))))
              refine wpQuiet_nil ?_
              intro vq hbvq hcvq hfvq
              clear hcg
              have K9 := Lib.hid (K8.out.below hbvq K8.out.lt)
              have L9 := Lib.hid (L8.out.below hbvq L8.out.bx.lt)
              have HB9 : Hid (Below w.heap.size w vq) := Below.go B8.out hbvq B8.out.size
              clear hbvq hcvq hfvq
              go_wp2
              exact ⟨⟨j + 1, x, by omega, by go_num, K9, L9, S8, HB9⟩, by simp [intOf]; omega⟩
          · go_wp2_with fail
            refine (hhear_any b off s a.s a.wl _ K5.out).mono ?_
            rintro e v2 ⟨rfl, ho, hk⟩
            have L6 := Lib.hid (L5.out.only ho L5.out.bx.lt (Ne.symm hbl))
            have A2 := Lib.hid (A1.out.only ho z4 hnb)
            have FA2 : Hid (∀ i, v2.frozen? ⟨wr.heap.size, i, none⟩ = false) := fun i => (ho.frozen (p := ⟨wr.heap.size, i, none⟩) z4 hnb).trans (FA.out i)
            have K6 := Lib.hid hk
            have BV2 : Hid (Below w.heap.size w v2) := Below.onto B5.out ho hgb B5.out.size
            have z2 : wr.heap.size < v2.heap.size := by have := ho.size; omega
            have hhk := hear_ok (o := off) (s := a.s) (t := a.wl) S4.out.1 S4.out.2
            have HHK := Lib.hid hhk
            clear ho hk hhk c0 c1 c2 c3 c4
            obtain ⟨l0, l1, l2, ll⟩ := L6.out.bx
            obtain ⟨c0, c1, c2, c3, c4⟩ := A2.out
            by_cases hE : hearE off a.s a.wl = 0
            · have hcs : okS a.s = true ∧ 0 ≤ a.wl ∧ a.wl ≤ 1099511627776 ∧ a.s.wall - a.wl ≤ off ∧ hearL off s a.s a.wl = maxS s (maxS ⟨a.s.wall, a.s.logic, 0⟩ ⟨a.wl, 0, 0⟩) := by
                rcases hear_cases off s a.s a.wl with ⟨-, h, -⟩ | ⟨-, -, h, -⟩ | ⟨-, -, -, -, h, -⟩ | ⟨h1, h2, h3, h4, -, h5⟩
                · rw [h] at hE; cases hE
                · rw [h] at hE; cases hE
                · rw [h] at hE; cases hE
                · exact ⟨h1, h2, h3, h4, by rw [h5, max_assoc]⟩
              obtain ⟨k1, k2, k3, k4, k5⟩ := hcs
              obtain ⟨o1, o2, -, -, -, -⟩ := (okS_iff a.s).1 k1
              have hgt : ¬ off < a.s.wall - a.wl := by omega
              obtain ⟨mx, hmx⟩ : ∃ mx, mx = maxS ⟨a.s.wall, a.s.logic, 0⟩ ⟨a.wl, 0, 0⟩ := ⟨_, rfl⟩
              obtain ⟨my, hmy⟩ : ∃ my, my = maxS s mx := ⟨_, rfl⟩
              have M1 : Hid (MaxIs ⟨a.s.wall, a.s.logic, 0⟩ ⟨a.wl, 0, 0⟩ mx) := maxIs hmx.symm
              have M2 : Hid (MaxIs s mx my) := maxIs hmy.symm
              rw [k5, ← hmx, ← hmy] at K6 HHK
              have S8 : Hid (okS my = true ∧ my.tag = 0) := HHK.out
              rw [hE]
              have fa := FA2.out
              clear k1 k4 k5 hmx hmy hE HHK
              go_wp2_with fail
              have oV : Only v2.heap.size wr.heap.size v2 (v2.setCell ⟨wr.heap.size, 4, none⟩ (.int .i32 0)) := Only.setCell (Only.refl _ _ _) (.inl (by rfl)) _
              have K7 := Lib.hid (K6.out.only oV K6.out.lt (Ne.symm hnb))
              have L7 := Lib.hid (L6.out.only oV L6.out.bx.lt (Ne.symm hnl))
              have B7 : Hid (Below w.heap.size w (v2.setCell ⟨wr.heap.size, 4, none⟩ (.int .i32 0))) := Below.onto BV2.out oV hbs BV2.out.size
              have d1 : (v2.setCell ⟨wr.heap.size, 4, none⟩ (.int .i32 0)).cell? ⟨wr.heap.size, 1, none⟩ = some (.int .i64 a.wl) := by go_simp
              have d2 : (v2.setCell ⟨wr.heap.size, 4, none⟩ (.int .i32 0)).cell? ⟨wr.heap.size, 2, none⟩ = some (.int .i64 a.s.wall) := by go_simp
              have d3 : (v2.setCell ⟨wr.heap.size, 4, none⟩ (.int .i32 0)).cell? ⟨wr.heap.size, 3, none⟩ = some (.int .i32 a.s.logic) := by go_simp
              have d4 : (v2.setCell ⟨wr.heap.size, 4, none⟩ (.int .i32 0)).cell? ⟨wr.heap.size, 4, none⟩ = some (.int .i32 0) := by go_simp
              have z3 : wr.heap.size < (v2.setCell ⟨wr.heap.size, 4, none⟩ (.int .i32 0)).heap.size := by rw [World.size_setCell]; exact z2
              clear l0 l1 l2 ll c0 c1 c2 c3 c4 fa oV
              generalize (v2.setCell ⟨wr.heap.size, 4, none⟩ (.int .i32 0)) = V7 at *
              obtain ⟨l0, l1, l2, ll⟩ := L7.out.bx
              refine wp_qtail 8 (by kernel_rfl) (by kernel_rfl) ?_
              intro hcg
              simp only [List.take_succ_cons, List.take_zero, List.drop_succ_cons, List.drop_zero]
              repeat (first | go_big_quiet_step ((with_reducible (first | exact Calls.reg (hst_any _ _ _ _) | exact Calls.reg (M1.out _) | exact Calls.reg (M2.out _)))) | quiet_step ((with_reducible (first | exact Calls.reg (hst_any _ _ _ _) | exact Calls.reg (M1.out _) | exact Calls.reg (M2.out _)))))
              refine wpQuiet_nil ?_
              intro vr hbvr hcvr hfvr
              clear hcg
              have K3 := Lib.hid (K7.out.below hbvr K7.out.lt)
              have L3 := Lib.hid (L7.out.below hbvr L7.out.bx.lt)
              have B3 : Hid (Below w.heap.size w vr) := Below.go B7.out hbvr B7.out.size
              clear hbvr hcvr hfvr l0 l1 l2 ll d1 d2 d3 d4
              obtain ⟨l0, l1, l2, ll⟩ := L3.out.bx
              have lf := L3.out.f
              go_wp2_with fail
              have K8 : Hid (Clk (((vr.setCell ⟨bl, 0, none⟩ (.int .i64 my.wall)).setCell ⟨bl, 1, none⟩ (.int .i32 my.logic)).setCell ⟨bl, 2, none⟩ (.int .i32 my.tag)) b off my) := K3.out.only (only_set vr bl _ _ _) K3.out.lt hbl
              have L8 : Hid (LB (((vr.setCell ⟨bl, 0, none⟩ (.int .i64 my.wall)).setCell ⟨bl, 1, none⟩ (.int .i32 my.logic)).setCell ⟨bl, 2, none⟩ (.int .i32 my.tag)) bl my) := L3.out.set
              have B8 : Hid (Below w.heap.size w (((vr.setCell ⟨bl, 0, none⟩ (.int .i64 my.wall)).setCell ⟨bl, 1, none⟩ (.int .i32 my.logic)).setCell ⟨bl, 2, none⟩ (.int .i32 my.tag))) := Below.onto B3.out (only_set vr bl _ _ _) hgl B3.out.size
              generalize (((vr.setCell ⟨bl, 0, none⟩ (.int .i64 my.wall)).setCell ⟨bl, 1, none⟩ (.int .i32 my.logic)).setCell ⟨bl, 2, none⟩ (.int .i32 my.tag)) = V8 at *
              clear l0 l1 l2 ll lf
              obtain ⟨l0, l1, l2, ll⟩ := L8.out.bx
              refine wp_qall (by kernel_rfl) (by kernel_rfl) ?_
              intro hcg
              repeat (first | go_big_quiet_step ((first | exact Calls.reg (hlast_any b off my _ (K8.out.below (below_regrown _ _ _) K8.out.lt)))) | quiet_step ((first | exact Calls.reg (hlast_any b off my _ (K8.out.below (below_regrown _ _ _) K8.out.lt)))))
              refine wpQuiet_nil ?_
              intro vq hbvq hcvq hfvq
              clear hcg
              have K9 := Lib.hid (K8.out.below hbvq K8.out.lt)
              have L9 := Lib.hid (L8.out.below hbvq L8.out.bx.lt)
              have HB9 : Hid (Below w.heap.size w vq) := Below.go B8.out hbvq B8.out.size
              clear hbvq hcvq hfvq
              go_wp2
              exact ⟨⟨j + 1, my, by omega, by go_num, K9, L9, S8, HB9⟩, by simp [intOf]; omega⟩
            · have hne : (hearE off a.s a.wl == 0) = false := by simpa using hE
              have hLs : hearL off s a.s a.wl = s := by unfold hearL; rw [if_neg hE]
              rw [hLs] at K6
              have K8 := K6
              have L8 := L6
              have B8 := BV2
              have S8 := S4
              generalize hearE off a.s a.wl = he at *
              clear hE hLs HHK
              go_wp2_with fail
              refine wp_qall (by kernel_rfl) (by kernel_rfl) ?_
              intro hcg
              repeat (first | go_big_quiet_step ((first | exact Calls.reg (hlast_any b off s _ (K8.out.below (below_regrown _ _ _) K8.out.lt)))) | quiet_step ((first | exact Calls.reg (hlast_any b off s _ (K8.out.below (below_regrown _ _ _) K8.out.lt)))))
              refine wpQuiet_nil ?_
              intro vq hbvq hcvq hfvq
              clear hcg
              have K9 := Lib.hid (K8.out.below hbvq K8.out.lt)
              have L9 := Lib.hid (L8.out.below hbvq L8.out.bx.lt)
              have HB9 : Hid (Below w.heap.size w vq) := Below.go B8.out hbvq B8.out.size
              clear hbvq hcvq hfvq
              go_wp2
              exact ⟨⟨j + 1, s, by omega, by go_num, K9, L9, S8, HB9⟩, by simp [intOf]; omega⟩
        · obtain rfl : j = n := by omega
          go_wp2
          go_ret
          exact ⟨rfl, B4.out⟩
    · have h7 : (200 : Int) < (n : Int) := by omega
      clear h200
      go_wp2
      go_ret
      exact ⟨rfl, HB2.out⟩
  · obtain ⟨x0, x1, x2, xl⟩ := L1.out
    go_wp2_with fail
    refine (hnew_no off low _ hE).mono ?_
    rintro e w2 ⟨rfl, hbe⟩
    have HB2 : Hid (Below w.heap.size w w2) := Below.go HBw1.out hbe HBw1.out.size
    clear hbe x0 x1 x2 xl L1 hE
    go_wp2
    go_ret
    exact ⟨rfl, HB2.out⟩

theorem hlcRises_law (w : World) (off : Int) (_ : (Lit.int .i64 off).wf = true) (low : Stp) (_ : InS low) (x : ActsArg w) (_ : True) :
    Calls Try.prog 8 #[.int .i64 off, .agg #[.int .i64 low.wall, .int .i32 low.logic, .int .i32 low.tag], .slice x.A x.n x.c] w fun e w' => e = .returned (.bool true) ∧ Below w.heap.size w w' :=
  hlcRises_walk w off low x.A x.n x.c x.l x.hl x.hc x.hn x.hin x.rd
end Go.Proofs.Ythijpcbblmcfiaa
