/- The walk of the law on clocks, call by call: what the document says. -/
import Derived.Test.YthijpcbblmcfiaaHm
import Derived.Deep.RegionHeld3
namespace Go.Proofs.Ythijpcbblmcfiaa
open Go.RowKit Go.St
set_option linter.unusedVariables false
set_option linter.unusedSimpArgs false
set_option maxRecDepth 100000

theorem abx_after {W V v : World} {b x : Nat} {a : ActL} (h : ABx W b a) (hc : ∀ i, V.cell? ⟨b, i, none⟩ = W.cell? ⟨b, i, none⟩) (ho : Only V.heap.size x V v) (hx : b ≠ x) : ABx v b a := (h.keep hc).only ho (h.keep hc).lt hx
theorem clk_after {W V v : World} {b x : Nat} {o : Int} {s : Stp} (h : Clk W b o s) (hc : ∀ i, V.cell? ⟨b, i, none⟩ = W.cell? ⟨b, i, none⟩) (hf : ∀ i, V.frozen? ⟨b, i, none⟩ = W.frozen? ⟨b, i, none⟩) (ho : Only V.heap.size x V v) (hx : b ≠ x) : Clk v b o s := (h.keep hc hf).only ho (h.keep hc hf).lt hx

set_option maxHeartbeats 6400000 in
theorem hlcScript_walk (w : World) (off : Int) (hoff : -9223372036854775808 ≤ off ∧ off ≤ 9223372036854775807) (low : Stp) (A : Option Addr) (n c : Nat) (l : List ActL) (hl : l.length = n) (hc : n ≤ c) (hn : c ≤ 140737488351232) (hin : ∀ a ∈ l, InA a) (hr : Rd w w.heap.size A (l.map actCells).flatten) :
    Calls Try.prog 6 #[.int .i64 off, .agg #[.int .i64 low.wall, .int .i32 low.logic, .int .i32 low.tag], .slice A n c] w fun e w' => e = .returned (.bool true) ∧ Below w.heap.size w w' := by
  have HL := Lib.hid hl; have HR := Lib.hid hr; have HI := Lib.hid hin
  clear hl hr hin
  go_enter Try.func6, Try.ntmps6
  go_wp2_with fail
  refine (lives20_any _).mono ?_
  rintro e w1 ⟨rfl, hb⟩
  obtain ⟨hcw1, hfw1⟩ := bcell hb
  have HBw1 : Hid (Below w.heap.size w w1) := Below.go (by go_grown) hb (by go_size)
  have hzw10 : w.heap.size < w1.heap.size := by have := hb.size; simp at this; omega
  have HEw1 := Lib.hid hb
  clear hb
  have L1 := Lib.hid ((bx_new w low 23).below HEw1.out (by simp))
  clear hcw1 hfw1 HEw1 hoff
  by_cases h200 : n ≤ 200
  · obtain ⟨p, q, s, o, e1, w3, hpq⟩ : ∃ (p q : Value) (s : Stp) (o : Int) (e1 : Int) (w3 : World), True := ⟨.pointer none, .pointer none, zeroS, 0, 0, w, trivial⟩
    clear p q s o e1 w3 hpq
    by_cases hE : newE off low = 0
    · obtain ⟨z1, z2, z3⟩ := new_zero hE
      have hu := ok_untag z3
      have HU := Lib.hid hu
      obtain ⟨x0, x1, x2, xl⟩ := L1.out
      clear hE hu
      go_wp2_with fail
      refine (hnew_ok off low _ z1 z2 z3).mono ?_
      rintro e w2 ⟨b1, rfl, hb1, hk1, hbe⟩
      have HB2 : Hid (Below w.heap.size w w2) := Below.go HBw1.out hbe HBw1.out.size
      have L2 := L1.out.below hbe L1.out.lt
      have K1 := Lib.hid hk1
      have l1 := hk1.lt
      have s1 := HBw1.out.size
      clear hbe hk1 x0 x1 x2 xl L1
      obtain ⟨x0, x1, x2, xl⟩ := L2
      go_wp2_with fail
      refine (rnew_ok off low _ z1 z2 z3).mono ?_
      rintro e w3 ⟨b2, rfl, hb2, hk2, hbe⟩
      have HB3 : Hid (Below w.heap.size w w3) := Below.go HB2.out hbe HB2.out.size
      have TC : Hid (TwoC w.heap.size off ⟨low.wall, low.logic, 0⟩ (.pointer (some ⟨b1, 0, none⟩)) (.pointer (some ⟨b2, 0, none⟩)) w3) :=
        .inr ⟨b1, b2, rfl, rfl, by omega, by omega, by omega, K1.out.below hbe l1, hk2, HU.out, rfl⟩
      clear hbe hk2 x0 x1 x2 xl K1 z1 z2 z3 HU l1 s1 hb1 hb2
      go_wp2
      go_loopw [7, 9, 11] (fun p q i wr => ∃ (j : Nat) (o : Int) (s : Stp), j ≤ n ∧ i = .int .i64 j ∧ Hid (TwoC w.heap.size o s p q wr) ∧ Hid (Below w.heap.size w wr)) (fun _ _ i _ => n - (intOf i).toNat)
      case atStart => exact ⟨0, _, _, Nat.zero_le _, rfl, TC, HB3⟩
      case round =>
        obtain ⟨j, o, s, hj, rfl, T3, B3⟩ := hrel
        clear TC HB3
        by_cases hlt : j < n
        · have hjl : j < l.length := by rw [HL.out]; exact hlt
          obtain ⟨b', off', rfl, hb', d0, d1, d2, d3, d4⟩ := act_cells (HR.out.below B3.out) j l[j] (List.getElem?_eq_getElem hjl)
          have hia := HI.out l[j] (List.getElem_mem hjl)
          generalize l[j] = a at *
          have hwk := hia.1
          have hbs := B3.out.size
          have A1 := Lib.hid (abx_new wr a 45)
          have T4 := Lib.hid (T3.out.below ((Below.refl wr.heap.size wr).alloc (Nat.le_refl _) (.cells #[.int .i64 a.k, .int .i64 a.wl, .int .i64 a.s.wall, .int .i32 a.s.logic, .int .i32 a.s.tag] 45)))
          have B4 : Hid (Below w.heap.size w (wr.alloc (.cells #[.int .i64 a.k, .int .i64 a.wl, .int .i64 a.s.wall, .int .i32 a.s.logic, .int .i32 a.s.tag] 45))) := B3.out.alloc B3.out.size _
          clear hia T3
          go_wp2_with fail
          refine (pick_any a.k 3 (by omega) (by omega) hwk _).mono ?_
          rintro e w' ⟨rfl, rfl⟩
          clear d0 d1 d2 d3 d4
          have hs4 : (wr.alloc (.cells #[.int .i64 a.k, .int .i64 a.wl, .int .i64 a.s.wall, .int .i32 a.s.logic, .int .i32 a.s.tag] 45)).heap.size = wr.heap.size + 1 := World.size_alloc _ _
          have z4 : wr.heap.size < (wr.alloc (.cells #[.int .i64 a.k, .int .i64 a.wl, .int .i64 a.s.wall, .int .i32 a.s.logic, .int .i32 a.s.tag] 45)).heap.size := by omega
          obtain ⟨W, hW⟩ : ∃ W, W = wr.alloc (.cells #[.int .i64 a.k, .int .i64 a.wl, .int .i64 a.s.wall, .int .i32 a.s.logic, .int .i32 a.s.tag] 45) := ⟨_, rfl⟩
          rw [← hW] at A1 T4 B4 z4 ⊢
          clear hW hs4 hwk
          obtain ⟨c0, c1, c2, c3, c4⟩ := A1.out
          generalize hk3 : a.k % 3 = kk
          have hkk : kk = 0 ∨ kk = 1 ∨ kk = 2 := by omega
          clear hk3
          rcases hkk with rfl | rfl | rfl
          · -- Now
            rcases T4.out with ⟨rfl, rfl, hz⟩ | ⟨b1, b2, rfl, rfl, g1, g2, g3, k1, k2, g6, g7⟩
            · go_wp2_with fail
              refine (hnow_nil _ a.wl _ (.inl rfl)).mono ?_
              rintro e v2 ⟨rfl, hb⟩
              have HV2 : Hid (Below W.heap.size W v2) := hb
              have hz2 : wr.heap.size < v2.heap.size := by have := hb.size; omega
              clear hb c0 c1 c2 c3 c4
              obtain ⟨c0, c1, c2, c3, c4⟩ := A1.out.below HV2.out z4
              go_wp2_with fail
              refine (rnow_nil a.wl _).mono ?_
              rintro e v3 ⟨rfl, hb⟩
              have HV3 : Hid (Below W.heap.size W v3) := Below.go (by have h := HV2.out; have hs := h.size; go_grown) hb (by have hs := HV2.out.size; go_size)
              have X3 := (bx_new v2 zeroS 23).below hb (by simp)
              clear hb c0 c1 c2 c3 c4
              obtain ⟨x0, x1, x2, xl⟩ := X3
              unfold zeroS at x0 x1 x2
              have TN : Hid (TwoC w.heap.size o s (.pointer none) (.pointer none) (v3.alloc (.cells #[.int .i64 0, .int .i32 0, .int .i32 0] 23))) := .inl ⟨rfl, rfl, hz⟩
              have HN : Hid (Below w.heap.size w (v3.alloc (.cells #[.int .i64 0, .int .i32 0, .int .i32 0] 23))) := (Below.go B4.out HV3.out B4.out.size).alloc (by have h1 := B4.out.size; have h2 := HV3.out.size; omega) _
              go_wp2_with fail
              refine (hlast_nil _ _ (.inl rfl)).mono ?_
              rintro e v8 ⟨rfl, hb8⟩
              have HB8 : Hid (Below w.heap.size w v8) := Below.go HN.out hb8 HN.out.size
              have T8 := Lib.hid (TN.out.below hb8)
              clear hb8
              go_wp2_with fail
              refine (rlast_nil _).mono ?_
              rintro e v9 ⟨rfl, hb9⟩
              have HB9 : Hid (Below w.heap.size w v9) := Below.go HB8.out hb9 HB8.out.size
              have T9 := Lib.hid (T8.out.below hb9)
              clear hb9
              go_wp2
              exact ⟨⟨j + 1, _, _, by omega, by go_num, T9, HB9⟩, by simp [intOf]; omega⟩
            · have lt1 := k1.lt
              have K1 := Lib.hid k1; have K2 := Lib.hid k2; have G6 := Lib.hid g6; have G7 := Lib.hid g7
              have hne1 : wr.heap.size ≠ b1 := by
                intro e
                have h1 := k1.c0
                rw [← e, c0] at h1
                cases h1
              have hne2 : wr.heap.size ≠ b2 := by
                intro e
                have h1 := k2.c0
                rw [← e, c0] at h1
                cases h1
              have l2 := k2.lt
              have hnk := now_ok (t := a.wl) g6 g7
              have HNK := Lib.hid hnk
              clear k1 k2 g6 g7 hnk
              go_wp2_with fail
              refine (hnow_any b1 o s a.wl _ K1.out G6.out).mono ?_
              rintro e v2 ⟨rfl, ho, hk⟩
              have A2 := Lib.hid (A1.out.only ho z4 hne1)
              have K22 := Lib.hid (K2.out.only ho l2 (Ne.symm g3))
              have K12 := Lib.hid hk
              have s2 := ho.size
              have BV2 : Hid (Below w.heap.size w v2) := Below.onto B4.out ho g1 B4.out.size
              have hz2 : wr.heap.size < v2.heap.size := by omega
              clear ho hk c0 c1 c2 c3 c4
              obtain ⟨c0, c1, c2, c3, c4⟩ := A2.out
              go_wp2_with fail
              refine (rnow_any b2 o s a.wl _ ?_ G6.out G7.out).mono ?_
              · exact K22.out.below (show Below v2.heap.size v2 _ by go_grown) K22.out.lt
              rintro e v3 ⟨rfl, ho, hk⟩
              have l3 := K22.out.lt
              have X3 := (bx_new v2 (nowS s a.wl) 23).only ho (by simp) (by omega)
              have K13 := Lib.hid ((K12.out.below ((Below.refl v2.heap.size v2).alloc (Nat.le_refl _) (.cells #[.int .i64 (nowS s a.wl).wall, .int .i32 (nowS s a.wl).logic, .int .i32 (nowS s a.wl).tag] 23)) K12.out.lt).only ho (by have := K12.out.lt; go_size) g3)
              have K23 := Lib.hid hk
              have BV3 : Hid (Below w.heap.size w v3) := Below.onto (BV2.out.alloc BV2.out.size _) ho g2 (by have := BV2.out.size; go_size)
              clear ho hk c0 c1 c2 c3 c4
              obtain ⟨x0, x1, x2, xl⟩ := X3
              have HNK' := HNK.out
              have HNK2 := Lib.hid HNK'
              clear HNK'
              generalize nowS s a.wl = nn at *
              generalize nowE s a.wl = ne at *
              generalize nowL s a.wl = ss at *
              have K1N : Hid (Clk (v3.alloc (.cells #[.int .i64 nn.wall, .int .i32 nn.logic, .int .i32 nn.tag] 23)) b1 o ss) := K13.out.below ((Below.refl v3.heap.size v3).alloc (Nat.le_refl _) _) K13.out.lt
              have K2N : Hid (Clk (v3.alloc (.cells #[.int .i64 nn.wall, .int .i32 nn.logic, .int .i32 nn.tag] 23)) b2 o ss) := K23.out.below ((Below.refl v3.heap.size v3).alloc (Nat.le_refl _) _) K23.out.lt
              have TN : Hid (TwoC w.heap.size o ss (.pointer (some ⟨b1, 0, none⟩)) (.pointer (some ⟨b2, 0, none⟩)) (v3.alloc (.cells #[.int .i64 nn.wall, .int .i32 nn.logic, .int .i32 nn.tag] 23))) :=
                .inr ⟨b1, b2, rfl, rfl, g1, g2, g3, K1N.out, K2N.out, HNK2.out.1, HNK2.out.2⟩
              have HN : Hid (Below w.heap.size w (v3.alloc (.cells #[.int .i64 nn.wall, .int .i32 nn.logic, .int .i32 nn.tag] 23))) := BV3.out.alloc BV3.out.size _
              go_wp2_with fail
              refine (hlast_any b1 o ss _ K1N.out).mono ?_
              rintro e v8 ⟨rfl, hb8⟩
              have HB8 : Hid (Below w.heap.size w v8) := Below.go HN.out hb8 HN.out.size
              have T8 := Lib.hid (TN.out.below hb8)
              have K28 := Lib.hid (K2N.out.below hb8 K2N.out.lt)
              clear hb8
              go_wp2_with fail
              refine (rlast_any b2 o ss _ K28.out).mono ?_
              rintro e v9 ⟨rfl, hb9⟩
              have HB9 : Hid (Below w.heap.size w v9) := Below.go HB8.out hb9 HB8.out.size
              have T9 := Lib.hid (T8.out.below hb9)
              clear hb9
              go_wp2
              exact ⟨⟨j + 1, _, _, by omega, by go_num, T9, HB9⟩, by simp [intOf]; omega⟩
          · -- Hear
            rcases T4.out with ⟨rfl, rfl, hz⟩ | ⟨b1, b2, rfl, rfl, g1, g2, g3, k1, k2, g6, g7⟩
            · go_wp2_with fail
              refine wp_qall (by kernel_rfl) (by kernel_rfl) ?_
              intro hcg
              repeat (first | go_big_quiet_step ((first | exact Calls.reg (hhear_nil _ a.s a.wl _ (.inl rfl)) | exact Calls.reg (rhear_nil a.s a.wl _))) | quiet_step ((first | exact Calls.reg (hhear_nil _ a.s a.wl _ (.inl rfl)) | exact Calls.reg (rhear_nil a.s a.wl _))))
              refine wpQuiet_nil ?_
              intro vq hbvq hcvq hfvq
              clear hcg
              have TN : Hid (TwoC w.heap.size o s (.pointer none) (.pointer none) vq) := .inl ⟨rfl, rfl, hz⟩
              have HN : Hid (Below w.heap.size w vq) := Below.go B4.out hbvq B4.out.size
              clear hbvq hcvq hfvq c0 c1 c2 c3 c4
              go_wp2_with fail
              refine (hlast_nil _ _ (.inl rfl)).mono ?_
              rintro e v8 ⟨rfl, hb8⟩
              have HB8 : Hid (Below w.heap.size w v8) := Below.go HN.out hb8 HN.out.size
              have T8 := Lib.hid (TN.out.below hb8)
              clear hb8
              go_wp2_with fail
              refine (rlast_nil _).mono ?_
              rintro e v9 ⟨rfl, hb9⟩
              have HB9 : Hid (Below w.heap.size w v9) := Below.go HB8.out hb9 HB8.out.size
              have T9 := Lib.hid (T8.out.below hb9)
              clear hb9
              go_wp2
              exact ⟨⟨j + 1, _, _, by omega, by go_num, T9, HB9⟩, by simp [intOf]; omega⟩
            · have lt1 := k1.lt
              have K1 := Lib.hid k1; have K2 := Lib.hid k2; have G6 := Lib.hid g6; have G7 := Lib.hid g7
              have hne1 : wr.heap.size ≠ b1 := by
                intro e
                have h1 := k1.c0
                rw [← e, c0] at h1
                cases h1
              have hne2 : wr.heap.size ≠ b2 := by
                intro e
                have h1 := k2.c0
                rw [← e, c0] at h1
                cases h1
              have l2 := k2.lt
              have hhk := hear_ok (o := o) (s := a.s) (t := a.wl) g6 g7
              have HHK := Lib.hid hhk
              clear k1 k2 g6 g7 hhk
              go_wp2_with fail
              go_region_held3 (fun V => V.cell? ⟨wr.heap.size, 1, none⟩ = some (.int .i64 a.wl) ∧ V.cell? ⟨wr.heap.size, 2, none⟩ = some (.int .i64 a.s.wall) ∧ V.cell? ⟨wr.heap.size, 3, none⟩ = some (.int .i32 a.s.logic) ∧ V.cell? ⟨wr.heap.size, 4, none⟩ = some (.int .i32 a.s.tag)) (first | exact ⟨c1, c2, c3, c4⟩ | exact ⟨m1, m2, m3, m4⟩ | exact ⟨r1, r2, r3, r4⟩) (first | (go_at_call 25; refine (hhear_any b1 o s a.s a.wl _ ?_).mono ?_; (exact K1.out.keep (fun _ => rfl) (fun _ => rfl)); rintro e v2 ⟨rfl, ho2, hk2⟩; have q2 := abx_after A1.out (by intro _; rfl) ho2 hne1; have Q2 := Lib.hid q2; obtain ⟨-, m1, m2, m3, m4⟩ := q2; have K22 := Lib.hid (clk_after K2.out (by intro _; rfl) (by intro _; rfl) ho2 (Ne.symm g3)); have HV2 : Hid (Below w.heap.size w v2) := Below.onto B4.out.drew ho2 g1 B4.out.size; have K12 := Lib.hid hk2; clear ho2 hk2) | (go_at_call 30; refine (rhear_any b2 o s a.s a.wl _ K22.out).mono ?_; rintro e v3 ⟨rfl, ho3, hk3⟩; have q3 := abx_after Q2.out (by intro _; rfl) ho3 hne2; obtain ⟨-, r1, r2, r3, r4⟩ := q3; have K13 := Lib.hid (clk_after K12.out (by intro _; rfl) (by intro _; rfl) ho3 g3); have HV3 : Hid (Below w.heap.size w v3) := Below.onto HV2.out ho3 g2 HV2.out.size; have K23 := Lib.hid hk3; clear ho3 hk3))
              have TN : Hid (TwoC w.heap.size o (hearL o s a.s a.wl) (.pointer (some ⟨b1, 0, none⟩)) (.pointer (some ⟨b2, 0, none⟩)) v3) := .inr ⟨b1, b2, rfl, rfl, g1, g2, g3, K13.out, K23.out, HHK.out.1, HHK.out.2⟩
              have K1N : Hid (Clk v3 b1 o (hearL o s a.s a.wl)) := K13.out
              have K2N : Hid (Clk v3 b2 o (hearL o s a.s a.wl)) := K23.out
              have HN := HV3
              have hee : ((hearE o a.s a.wl) != hearE o a.s a.wl) = false := by simp
              go_wp2_with fail
              refine (hlast_any b1 o (hearL o s a.s a.wl) _ K1N.out).mono ?_
              rintro e v8 ⟨rfl, hb8⟩
              have HB8 : Hid (Below w.heap.size w v8) := Below.go HN.out hb8 HN.out.size
              have T8 := Lib.hid (TN.out.below hb8)
              have K28 := Lib.hid (K2N.out.below hb8 K2N.out.lt)
              clear hb8
              go_wp2_with fail
              refine (rlast_any b2 o (hearL o s a.s a.wl) _ K28.out).mono ?_
              rintro e v9 ⟨rfl, hb9⟩
              have HB9 : Hid (Below w.heap.size w v9) := Below.go HB8.out hb9 HB8.out.size
              have T9 := Lib.hid (T8.out.below hb9)
              clear hb9
              go_wp2
              exact ⟨⟨j + 1, _, _, by omega, by go_num, T9, HB9⟩, by simp [intOf]; omega⟩
          · -- New
            by_cases hE : newE a.wl a.s = 0
            · obtain ⟨y1, y2, y3⟩ := new_zero hE
              have hu := ok_untag y3
              have HU := Lib.hid hu
              have Y3 := Lib.hid y3
              clear hE hu y3
              go_wp2_with fail
              refine (hnew_ok a.wl a.s _ y1 y2 Y3.out).mono ?_
              rintro e v2 ⟨b1, rfl, hb1, hk1, hbe⟩
              have HV2 : Hid (Below w.heap.size w v2) := Below.go B4.out hbe B4.out.size
              have A2 := Lib.hid (A1.out.below hbe z4)
              have K1 := Lib.hid hk1
              have l1 := hk1.lt
              have s1 := B4.out.size
              have s2 := hbe.size
              clear hbe hk1 c0 c1 c2 c3 c4
              obtain ⟨c0, c1, c2, c3, c4⟩ := A2.out
              go_wp2_with fail
              refine (rnew_ok a.wl a.s _ y1 y2 Y3.out).mono ?_
              rintro e v3 ⟨b2, rfl, hb2, hk2, hbe⟩
              have HN : Hid (Below w.heap.size w v3) := Below.go HV2.out hbe HV2.out.size
              have K1N : Hid (Clk v3 b1 a.wl ⟨a.s.wall, a.s.logic, 0⟩) := K1.out.below hbe l1
              have K2N : Hid (Clk v3 b2 a.wl ⟨a.s.wall, a.s.logic, 0⟩) := hk2
              have TN : Hid (TwoC w.heap.size a.wl ⟨a.s.wall, a.s.logic, 0⟩ (.pointer (some ⟨b1, 0, none⟩)) (.pointer (some ⟨b2, 0, none⟩)) v3) :=
                .inr ⟨b1, b2, rfl, rfl, by omega, by omega, by omega, K1N.out, K2N.out, HU.out, rfl⟩
              clear hbe hk2 c0 c1 c2 c3 c4 y1 y2 HU l1 s1 s2 hb1 hb2
              go_wp2_with fail
              refine (hlast_any b1 a.wl ⟨a.s.wall, a.s.logic, 0⟩ _ K1N.out).mono ?_
              rintro e v8 ⟨rfl, hb8⟩
              have HB8 : Hid (Below w.heap.size w v8) := Below.go HN.out hb8 HN.out.size
              have T8 := Lib.hid (TN.out.below hb8)
              have K28 := Lib.hid (K2N.out.below hb8 K2N.out.lt)
              clear hb8
              go_wp2_with fail
              refine (rlast_any b2 a.wl ⟨a.s.wall, a.s.logic, 0⟩ _ K28.out).mono ?_
              rintro e v9 ⟨rfl, hb9⟩
              have HB9 : Hid (Below w.heap.size w v9) := Below.go HB8.out hb9 HB8.out.size
              have T9 := Lib.hid (T8.out.below hb9)
              clear hb9
              go_wp2
              exact ⟨⟨j + 1, _, _, by omega, by go_num, T9, HB9⟩, by simp [intOf]; omega⟩
            · go_wp2_with fail
              refine (hnew_no a.wl a.s _ hE).mono ?_
              rintro e v2 ⟨rfl, hbe⟩
              have HV2 : Hid (Below w.heap.size w v2) := Below.go B4.out hbe B4.out.size
              have A2 := Lib.hid (A1.out.below hbe z4)
              have T5 := Lib.hid (T4.out.below hbe)
              clear hbe c0 c1 c2 c3 c4
              obtain ⟨c0, c1, c2, c3, c4⟩ := A2.out
              go_wp2_with fail
              refine (rnew_no a.wl a.s _ hE).mono ?_
              rintro e v3 ⟨rfl, hbe⟩
              have HN : Hid (Below w.heap.size w v3) := Below.go HV2.out hbe HV2.out.size
              have TN := Lib.hid (T5.out.below hbe)
              clear hbe c0 c1 c2 c3 c4 hE
              rcases TN.out with ⟨rfl, rfl, hz⟩ | ⟨b1, b2, rfl, rfl, g1, g2, g3, k1, k2, g6, g7⟩
              · go_wp2_with fail
                refine (hlast_nil _ _ (.inl rfl)).mono ?_
                rintro e v8 ⟨rfl, hb8⟩
                have HB8 : Hid (Below w.heap.size w v8) := Below.go HN.out hb8 HN.out.size
                have T8 := Lib.hid (TN.out.below hb8)
                clear hb8
                go_wp2_with fail
                refine (rlast_nil _).mono ?_
                rintro e v9 ⟨rfl, hb9⟩
                have HB9 : Hid (Below w.heap.size w v9) := Below.go HB8.out hb9 HB8.out.size
                have T9 := Lib.hid (T8.out.below hb9)
                clear hb9
                go_wp2
                exact ⟨⟨j + 1, _, _, by omega, by go_num, T9, HB9⟩, by simp [intOf]; omega⟩
              · have K1N := Lib.hid k1; have K2N := Lib.hid k2
                clear k1 k2 g6 g7
                go_wp2_with fail
                refine (hlast_any b1 o s _ K1N.out).mono ?_
                rintro e v8 ⟨rfl, hb8⟩
                have HB8 : Hid (Below w.heap.size w v8) := Below.go HN.out hb8 HN.out.size
                have T8 := Lib.hid (TN.out.below hb8)
                have K28 := Lib.hid (K2N.out.below hb8 K2N.out.lt)
                clear hb8
                go_wp2_with fail
                refine (rlast_any b2 o s _ K28.out).mono ?_
                rintro e v9 ⟨rfl, hb9⟩
                have HB9 : Hid (Below w.heap.size w v9) := Below.go HB8.out hb9 HB8.out.size
                have T9 := Lib.hid (T8.out.below hb9)
                clear hb9
                go_wp2
                exact ⟨⟨j + 1, _, _, by omega, by go_num, T9, HB9⟩, by simp [intOf]; omega⟩
        · obtain rfl : j = n := by omega
          go_wp2
          go_ret
          exact ⟨rfl, B3.out⟩
    · obtain ⟨x0, x1, x2, xl⟩ := L1.out
      go_wp2_with fail
      refine (hnew_no off low _ hE).mono ?_
      rintro e w2 ⟨rfl, hbe⟩
      have HB2 : Hid (Below w.heap.size w w2) := Below.go HBw1.out hbe HBw1.out.size
      have L2 := L1.out.below hbe L1.out.lt
      clear hbe x0 x1 x2 xl L1
      obtain ⟨x0, x1, x2, xl⟩ := L2
      go_wp2_with fail
      refine (rnew_no off low _ hE).mono ?_
      rintro e w3 ⟨rfl, hbe⟩
      have HB3 : Hid (Below w.heap.size w w3) := Below.go HB2.out hbe HB2.out.size
      have TC : Hid (TwoC w.heap.size off zeroS (.pointer none) (.pointer none) w3) := .inl ⟨rfl, rfl, rfl⟩
      clear hbe x0 x1 x2 xl hE
      go_wp2
      go_loopw [7, 9, 11] (fun p q i wr => ∃ (j : Nat) (o : Int) (s : Stp), j ≤ n ∧ i = .int .i64 j ∧ Hid (TwoC w.heap.size o s p q wr) ∧ Hid (Below w.heap.size w wr)) (fun _ _ i _ => n - (intOf i).toNat)
      case atStart => exact ⟨0, _, _, Nat.zero_le _, rfl, TC, HB3⟩
      case round =>
        obtain ⟨j, o, s, hj, rfl, T3, B3⟩ := hrel
        clear TC HB3
        by_cases hlt : j < n
        · have hjl : j < l.length := by rw [HL.out]; exact hlt
          obtain ⟨b', off', rfl, hb', d0, d1, d2, d3, d4⟩ := act_cells (HR.out.below B3.out) j l[j] (List.getElem?_eq_getElem hjl)
          have hia := HI.out l[j] (List.getElem_mem hjl)
          generalize l[j] = a at *
          have hwk := hia.1
          have hbs := B3.out.size
          have A1 := Lib.hid (abx_new wr a 45)
          have T4 := Lib.hid (T3.out.below ((Below.refl wr.heap.size wr).alloc (Nat.le_refl _) (.cells #[.int .i64 a.k, .int .i64 a.wl, .int .i64 a.s.wall, .int .i32 a.s.logic, .int .i32 a.s.tag] 45)))
          have B4 : Hid (Below w.heap.size w (wr.alloc (.cells #[.int .i64 a.k, .int .i64 a.wl, .int .i64 a.s.wall, .int .i32 a.s.logic, .int .i32 a.s.tag] 45))) := B3.out.alloc B3.out.size _
          clear hia T3
          go_wp2_with fail
          refine (pick_any a.k 3 (by omega) (by omega) hwk _).mono ?_
          rintro e w' ⟨rfl, rfl⟩
          clear d0 d1 d2 d3 d4
          have hs4 : (wr.alloc (.cells #[.int .i64 a.k, .int .i64 a.wl, .int .i64 a.s.wall, .int .i32 a.s.logic, .int .i32 a.s.tag] 45)).heap.size = wr.heap.size + 1 := World.size_alloc _ _
          have z4 : wr.heap.size < (wr.alloc (.cells #[.int .i64 a.k, .int .i64 a.wl, .int .i64 a.s.wall, .int .i32 a.s.logic, .int .i32 a.s.tag] 45)).heap.size := by omega
          obtain ⟨W, hW⟩ : ∃ W, W = wr.alloc (.cells #[.int .i64 a.k, .int .i64 a.wl, .int .i64 a.s.wall, .int .i32 a.s.logic, .int .i32 a.s.tag] 45) := ⟨_, rfl⟩
          rw [← hW] at A1 T4 B4 z4 ⊢
          clear hW hs4 hwk
          obtain ⟨c0, c1, c2, c3, c4⟩ := A1.out
          generalize hk3 : a.k % 3 = kk
          have hkk : kk = 0 ∨ kk = 1 ∨ kk = 2 := by omega
          clear hk3
          rcases hkk with rfl | rfl | rfl
          · -- Now
            rcases T4.out with ⟨rfl, rfl, hz⟩ | ⟨b1, b2, rfl, rfl, g1, g2, g3, k1, k2, g6, g7⟩
            · go_wp2_with fail
              refine (hnow_nil _ a.wl _ (.inl rfl)).mono ?_
              rintro e v2 ⟨rfl, hb⟩
              have HV2 : Hid (Below W.heap.size W v2) := hb
              have hz2 : wr.heap.size < v2.heap.size := by have := hb.size; omega
              clear hb c0 c1 c2 c3 c4
              obtain ⟨c0, c1, c2, c3, c4⟩ := A1.out.below HV2.out z4
              go_wp2_with fail
              refine (rnow_nil a.wl _).mono ?_
              rintro e v3 ⟨rfl, hb⟩
              have HV3 : Hid (Below W.heap.size W v3) := Below.go (by have h := HV2.out; have hs := h.size; go_grown) hb (by have hs := HV2.out.size; go_size)
              have X3 := (bx_new v2 zeroS 23).below hb (by simp)
              clear hb c0 c1 c2 c3 c4
              obtain ⟨x0, x1, x2, xl⟩ := X3
              unfold zeroS at x0 x1 x2
              have TN : Hid (TwoC w.heap.size o s (.pointer none) (.pointer none) (v3.alloc (.cells #[.int .i64 0, .int .i32 0, .int .i32 0] 23))) := .inl ⟨rfl, rfl, hz⟩
              have HN : Hid (Below w.heap.size w (v3.alloc (.cells #[.int .i64 0, .int .i32 0, .int .i32 0] 23))) := (Below.go B4.out HV3.out B4.out.size).alloc (by have h1 := B4.out.size; have h2 := HV3.out.size; omega) _
              go_wp2_with fail
              refine (hlast_nil _ _ (.inl rfl)).mono ?_
              rintro e v8 ⟨rfl, hb8⟩
              have HB8 : Hid (Below w.heap.size w v8) := Below.go HN.out hb8 HN.out.size
              have T8 := Lib.hid (TN.out.below hb8)
              clear hb8
              go_wp2_with fail
              refine (rlast_nil _).mono ?_
              rintro e v9 ⟨rfl, hb9⟩
              have HB9 : Hid (Below w.heap.size w v9) := Below.go HB8.out hb9 HB8.out.size
              have T9 := Lib.hid (T8.out.below hb9)
              clear hb9
              go_wp2
              exact ⟨⟨j + 1, _, _, by omega, by go_num, T9, HB9⟩, by simp [intOf]; omega⟩
            · have lt1 := k1.lt
              have K1 := Lib.hid k1; have K2 := Lib.hid k2; have G6 := Lib.hid g6; have G7 := Lib.hid g7
              have hne1 : wr.heap.size ≠ b1 := by
                intro e
                have h1 := k1.c0
                rw [← e, c0] at h1
                cases h1
              have hne2 : wr.heap.size ≠ b2 := by
                intro e
                have h1 := k2.c0
                rw [← e, c0] at h1
                cases h1
              have l2 := k2.lt
              have hnk := now_ok (t := a.wl) g6 g7
              have HNK := Lib.hid hnk
              clear k1 k2 g6 g7 hnk
              go_wp2_with fail
              refine (hnow_any b1 o s a.wl _ K1.out G6.out).mono ?_
              rintro e v2 ⟨rfl, ho, hk⟩
              have A2 := Lib.hid (A1.out.only ho z4 hne1)
              have K22 := Lib.hid (K2.out.only ho l2 (Ne.symm g3))
              have K12 := Lib.hid hk
              have s2 := ho.size
              have BV2 : Hid (Below w.heap.size w v2) := Below.onto B4.out ho g1 B4.out.size
              have hz2 : wr.heap.size < v2.heap.size := by omega
              clear ho hk c0 c1 c2 c3 c4
              obtain ⟨c0, c1, c2, c3, c4⟩ := A2.out
              go_wp2_with fail
              refine (rnow_any b2 o s a.wl _ ?_ G6.out G7.out).mono ?_
              · exact K22.out.below (show Below v2.heap.size v2 _ by go_grown) K22.out.lt
              rintro e v3 ⟨rfl, ho, hk⟩
              have l3 := K22.out.lt
              have X3 := (bx_new v2 (nowS s a.wl) 23).only ho (by simp) (by omega)
              have K13 := Lib.hid ((K12.out.below ((Below.refl v2.heap.size v2).alloc (Nat.le_refl _) (.cells #[.int .i64 (nowS s a.wl).wall, .int .i32 (nowS s a.wl).logic, .int .i32 (nowS s a.wl).tag] 23)) K12.out.lt).only ho (by have := K12.out.lt; go_size) g3)
              have K23 := Lib.hid hk
              have BV3 : Hid (Below w.heap.size w v3) := Below.onto (BV2.out.alloc BV2.out.size _) ho g2 (by have := BV2.out.size; go_size)
              clear ho hk c0 c1 c2 c3 c4
              obtain ⟨x0, x1, x2, xl⟩ := X3
              have HNK' := HNK.out
              have HNK2 := Lib.hid HNK'
              clear HNK'
              generalize nowS s a.wl = nn at *
              generalize nowE s a.wl = ne at *
              generalize nowL s a.wl = ss at *
              have K1N : Hid (Clk (v3.alloc (.cells #[.int .i64 nn.wall, .int .i32 nn.logic, .int .i32 nn.tag] 23)) b1 o ss) := K13.out.below ((Below.refl v3.heap.size v3).alloc (Nat.le_refl _) _) K13.out.lt
              have K2N : Hid (Clk (v3.alloc (.cells #[.int .i64 nn.wall, .int .i32 nn.logic, .int .i32 nn.tag] 23)) b2 o ss) := K23.out.below ((Below.refl v3.heap.size v3).alloc (Nat.le_refl _) _) K23.out.lt
              have TN : Hid (TwoC w.heap.size o ss (.pointer (some ⟨b1, 0, none⟩)) (.pointer (some ⟨b2, 0, none⟩)) (v3.alloc (.cells #[.int .i64 nn.wall, .int .i32 nn.logic, .int .i32 nn.tag] 23))) :=
                .inr ⟨b1, b2, rfl, rfl, g1, g2, g3, K1N.out, K2N.out, HNK2.out.1, HNK2.out.2⟩
              have HN : Hid (Below w.heap.size w (v3.alloc (.cells #[.int .i64 nn.wall, .int .i32 nn.logic, .int .i32 nn.tag] 23))) := BV3.out.alloc BV3.out.size _
              go_wp2_with fail
              refine (hlast_any b1 o ss _ K1N.out).mono ?_
              rintro e v8 ⟨rfl, hb8⟩
              have HB8 : Hid (Below w.heap.size w v8) := Below.go HN.out hb8 HN.out.size
              have T8 := Lib.hid (TN.out.below hb8)
              have K28 := Lib.hid (K2N.out.below hb8 K2N.out.lt)
              clear hb8
              go_wp2_with fail
              refine (rlast_any b2 o ss _ K28.out).mono ?_
              rintro e v9 ⟨rfl, hb9⟩
              have HB9 : Hid (Below w.heap.size w v9) := Below.go HB8.out hb9 HB8.out.size
              have T9 := Lib.hid (T8.out.below hb9)
              clear hb9
              go_wp2
              exact ⟨⟨j + 1, _, _, by omega, by go_num, T9, HB9⟩, by simp [intOf]; omega⟩
          · -- Hear
            rcases T4.out with ⟨rfl, rfl, hz⟩ | ⟨b1, b2, rfl, rfl, g1, g2, g3, k1, k2, g6, g7⟩
            · go_wp2_with fail
              refine wp_qall (by kernel_rfl) (by kernel_rfl) ?_
              intro hcg
              repeat (first | go_big_quiet_step ((first | exact Calls.reg (hhear_nil _ a.s a.wl _ (.inl rfl)) | exact Calls.reg (rhear_nil a.s a.wl _))) | quiet_step ((first | exact Calls.reg (hhear_nil _ a.s a.wl _ (.inl rfl)) | exact Calls.reg (rhear_nil a.s a.wl _))))
              refine wpQuiet_nil ?_
              intro vq hbvq hcvq hfvq
              clear hcg
              have TN : Hid (TwoC w.heap.size o s (.pointer none) (.pointer none) vq) := .inl ⟨rfl, rfl, hz⟩
              have HN : Hid (Below w.heap.size w vq) := Below.go B4.out hbvq B4.out.size
              clear hbvq hcvq hfvq c0 c1 c2 c3 c4
              go_wp2_with fail
              refine (hlast_nil _ _ (.inl rfl)).mono ?_
              rintro e v8 ⟨rfl, hb8⟩
              have HB8 : Hid (Below w.heap.size w v8) := Below.go HN.out hb8 HN.out.size
              have T8 := Lib.hid (TN.out.below hb8)
              clear hb8
              go_wp2_with fail
              refine (rlast_nil _).mono ?_
              rintro e v9 ⟨rfl, hb9⟩
              have HB9 : Hid (Below w.heap.size w v9) := Below.go HB8.out hb9 HB8.out.size
              have T9 := Lib.hid (T8.out.below hb9)
              clear hb9
              go_wp2
              exact ⟨⟨j + 1, _, _, by omega, by go_num, T9, HB9⟩, by simp [intOf]; omega⟩
            · have lt1 := k1.lt
              have K1 := Lib.hid k1; have K2 := Lib.hid k2; have G6 := Lib.hid g6; have G7 := Lib.hid g7
              have hne1 : wr.heap.size ≠ b1 := by
                intro e
                have h1 := k1.c0
                rw [← e, c0] at h1
                cases h1
              have hne2 : wr.heap.size ≠ b2 := by
                intro e
                have h1 := k2.c0
                rw [← e, c0] at h1
                cases h1
              have l2 := k2.lt
              have hhk := hear_ok (o := o) (s := a.s) (t := a.wl) g6 g7
              have HHK := Lib.hid hhk
              clear k1 k2 g6 g7 hhk
              go_wp2_with fail
              go_region_held3 (fun V => V.cell? ⟨wr.heap.size, 1, none⟩ = some (.int .i64 a.wl) ∧ V.cell? ⟨wr.heap.size, 2, none⟩ = some (.int .i64 a.s.wall) ∧ V.cell? ⟨wr.heap.size, 3, none⟩ = some (.int .i32 a.s.logic) ∧ V.cell? ⟨wr.heap.size, 4, none⟩ = some (.int .i32 a.s.tag)) (first | exact ⟨c1, c2, c3, c4⟩ | exact ⟨m1, m2, m3, m4⟩ | exact ⟨r1, r2, r3, r4⟩) (first | (go_at_call 25; refine (hhear_any b1 o s a.s a.wl _ ?_).mono ?_; (exact K1.out.keep (fun _ => rfl) (fun _ => rfl)); rintro e v2 ⟨rfl, ho2, hk2⟩; have q2 := abx_after A1.out (by intro _; rfl) ho2 hne1; have Q2 := Lib.hid q2; obtain ⟨-, m1, m2, m3, m4⟩ := q2; have K22 := Lib.hid (clk_after K2.out (by intro _; rfl) (by intro _; rfl) ho2 (Ne.symm g3)); have HV2 : Hid (Below w.heap.size w v2) := Below.onto B4.out.drew ho2 g1 B4.out.size; have K12 := Lib.hid hk2; clear ho2 hk2) | (go_at_call 30; refine (rhear_any b2 o s a.s a.wl _ K22.out).mono ?_; rintro e v3 ⟨rfl, ho3, hk3⟩; have q3 := abx_after Q2.out (by intro _; rfl) ho3 hne2; obtain ⟨-, r1, r2, r3, r4⟩ := q3; have K13 := Lib.hid (clk_after K12.out (by intro _; rfl) (by intro _; rfl) ho3 g3); have HV3 : Hid (Below w.heap.size w v3) := Below.onto HV2.out ho3 g2 HV2.out.size; have K23 := Lib.hid hk3; clear ho3 hk3))
              have TN : Hid (TwoC w.heap.size o (hearL o s a.s a.wl) (.pointer (some ⟨b1, 0, none⟩)) (.pointer (some ⟨b2, 0, none⟩)) v3) := .inr ⟨b1, b2, rfl, rfl, g1, g2, g3, K13.out, K23.out, HHK.out.1, HHK.out.2⟩
              have K1N : Hid (Clk v3 b1 o (hearL o s a.s a.wl)) := K13.out
              have K2N : Hid (Clk v3 b2 o (hearL o s a.s a.wl)) := K23.out
              have HN := HV3
              have hee : ((hearE o a.s a.wl) != hearE o a.s a.wl) = false := by simp
              go_wp2_with fail
              refine (hlast_any b1 o (hearL o s a.s a.wl) _ K1N.out).mono ?_
              rintro e v8 ⟨rfl, hb8⟩
              have HB8 : Hid (Below w.heap.size w v8) := Below.go HN.out hb8 HN.out.size
              have T8 := Lib.hid (TN.out.below hb8)
              have K28 := Lib.hid (K2N.out.below hb8 K2N.out.lt)
              clear hb8
              go_wp2_with fail
              refine (rlast_any b2 o (hearL o s a.s a.wl) _ K28.out).mono ?_
              rintro e v9 ⟨rfl, hb9⟩
              have HB9 : Hid (Below w.heap.size w v9) := Below.go HB8.out hb9 HB8.out.size
              have T9 := Lib.hid (T8.out.below hb9)
              clear hb9
              go_wp2
              exact ⟨⟨j + 1, _, _, by omega, by go_num, T9, HB9⟩, by simp [intOf]; omega⟩
          · -- New
            by_cases hE : newE a.wl a.s = 0
            · obtain ⟨y1, y2, y3⟩ := new_zero hE
              have hu := ok_untag y3
              have HU := Lib.hid hu
              have Y3 := Lib.hid y3
              clear hE hu y3
              go_wp2_with fail
              refine (hnew_ok a.wl a.s _ y1 y2 Y3.out).mono ?_
              rintro e v2 ⟨b1, rfl, hb1, hk1, hbe⟩
              have HV2 : Hid (Below w.heap.size w v2) := Below.go B4.out hbe B4.out.size
              have A2 := Lib.hid (A1.out.below hbe z4)
              have K1 := Lib.hid hk1
              have l1 := hk1.lt
              have s1 := B4.out.size
              have s2 := hbe.size
              clear hbe hk1 c0 c1 c2 c3 c4
              obtain ⟨c0, c1, c2, c3, c4⟩ := A2.out
              go_wp2_with fail
              refine (rnew_ok a.wl a.s _ y1 y2 Y3.out).mono ?_
              rintro e v3 ⟨b2, rfl, hb2, hk2, hbe⟩
              have HN : Hid (Below w.heap.size w v3) := Below.go HV2.out hbe HV2.out.size
              have K1N : Hid (Clk v3 b1 a.wl ⟨a.s.wall, a.s.logic, 0⟩) := K1.out.below hbe l1
              have K2N : Hid (Clk v3 b2 a.wl ⟨a.s.wall, a.s.logic, 0⟩) := hk2
              have TN : Hid (TwoC w.heap.size a.wl ⟨a.s.wall, a.s.logic, 0⟩ (.pointer (some ⟨b1, 0, none⟩)) (.pointer (some ⟨b2, 0, none⟩)) v3) :=
                .inr ⟨b1, b2, rfl, rfl, by omega, by omega, by omega, K1N.out, K2N.out, HU.out, rfl⟩
              clear hbe hk2 c0 c1 c2 c3 c4 y1 y2 HU l1 s1 s2 hb1 hb2
              go_wp2_with fail
              refine (hlast_any b1 a.wl ⟨a.s.wall, a.s.logic, 0⟩ _ K1N.out).mono ?_
              rintro e v8 ⟨rfl, hb8⟩
              have HB8 : Hid (Below w.heap.size w v8) := Below.go HN.out hb8 HN.out.size
              have T8 := Lib.hid (TN.out.below hb8)
              have K28 := Lib.hid (K2N.out.below hb8 K2N.out.lt)
              clear hb8
              go_wp2_with fail
              refine (rlast_any b2 a.wl ⟨a.s.wall, a.s.logic, 0⟩ _ K28.out).mono ?_
              rintro e v9 ⟨rfl, hb9⟩
              have HB9 : Hid (Below w.heap.size w v9) := Below.go HB8.out hb9 HB8.out.size
              have T9 := Lib.hid (T8.out.below hb9)
              clear hb9
              go_wp2
              exact ⟨⟨j + 1, _, _, by omega, by go_num, T9, HB9⟩, by simp [intOf]; omega⟩
            · go_wp2_with fail
              refine (hnew_no a.wl a.s _ hE).mono ?_
              rintro e v2 ⟨rfl, hbe⟩
              have HV2 : Hid (Below w.heap.size w v2) := Below.go B4.out hbe B4.out.size
              have A2 := Lib.hid (A1.out.below hbe z4)
              have T5 := Lib.hid (T4.out.below hbe)
              clear hbe c0 c1 c2 c3 c4
              obtain ⟨c0, c1, c2, c3, c4⟩ := A2.out
              go_wp2_with fail
              refine (rnew_no a.wl a.s _ hE).mono ?_
              rintro e v3 ⟨rfl, hbe⟩
              have HN : Hid (Below w.heap.size w v3) := Below.go HV2.out hbe HV2.out.size
              have TN := Lib.hid (T5.out.below hbe)
              clear hbe c0 c1 c2 c3 c4 hE
              rcases TN.out with ⟨rfl, rfl, hz⟩ | ⟨b1, b2, rfl, rfl, g1, g2, g3, k1, k2, g6, g7⟩
              · go_wp2_with fail
                refine (hlast_nil _ _ (.inl rfl)).mono ?_
                rintro e v8 ⟨rfl, hb8⟩
                have HB8 : Hid (Below w.heap.size w v8) := Below.go HN.out hb8 HN.out.size
                have T8 := Lib.hid (TN.out.below hb8)
                clear hb8
                go_wp2_with fail
                refine (rlast_nil _).mono ?_
                rintro e v9 ⟨rfl, hb9⟩
                have HB9 : Hid (Below w.heap.size w v9) := Below.go HB8.out hb9 HB8.out.size
                have T9 := Lib.hid (T8.out.below hb9)
                clear hb9
                go_wp2
                exact ⟨⟨j + 1, _, _, by omega, by go_num, T9, HB9⟩, by simp [intOf]; omega⟩
              · have K1N := Lib.hid k1; have K2N := Lib.hid k2
                clear k1 k2 g6 g7
                go_wp2_with fail
                refine (hlast_any b1 o s _ K1N.out).mono ?_
                rintro e v8 ⟨rfl, hb8⟩
                have HB8 : Hid (Below w.heap.size w v8) := Below.go HN.out hb8 HN.out.size
                have T8 := Lib.hid (TN.out.below hb8)
                have K28 := Lib.hid (K2N.out.below hb8 K2N.out.lt)
                clear hb8
                go_wp2_with fail
                refine (rlast_any b2 o s _ K28.out).mono ?_
                rintro e v9 ⟨rfl, hb9⟩
                have HB9 : Hid (Below w.heap.size w v9) := Below.go HB8.out hb9 HB8.out.size
                have T9 := Lib.hid (T8.out.below hb9)
                clear hb9
                go_wp2
                exact ⟨⟨j + 1, _, _, by omega, by go_num, T9, HB9⟩, by simp [intOf]; omega⟩
        · obtain rfl : j = n := by omega
          go_wp2
          go_ret
          exact ⟨rfl, B3.out⟩
  · have h7 : (200 : Int) < (n : Int) := by omega
    clear h200
    go_wp2
    go_ret
    exact ⟨rfl, HBw1.out⟩
end Go.Proofs.Ythijpcbblmcfiaa
