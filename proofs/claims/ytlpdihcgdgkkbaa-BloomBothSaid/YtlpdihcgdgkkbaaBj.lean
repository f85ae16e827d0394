/- The walk of the law: two filters together have what either has. -/
import Derived.Test.YtlpdihcgdgkkbaaBf
import Derived.Test.YtlpdihcgdgkkbaaBi
import Derived.Test.YtlpdihcgdgkkbaaOstr
namespace Go.Proofs.Ytlpdihcgdgkkbaa
open Go.RowKit Go.St
set_option linter.unusedVariables false
set_option linter.unusedSimpArgs false
set_option maxRecDepth 100000

theorem sv_take (l : List ByteArray) (n : Nat) : (sv l).take n = sv (l.take n) := by simp [sv, List.map_take]

set_option maxHeartbeats 3200000 in
theorem bloomBoth_walk (w : World) (A0 : Option Addr) (n0 c0 : Nat) (k0 : List ByteArray) (hl0 : k0.length = n0) (hc0 : n0 ≤ c0) (hn0 : c0 ≤ 140737488351232) (hks0 : ∀ s ∈ k0, s.size ≤ 140737488351232) (hr0 : Rd w w.heap.size A0 (sv k0))
    (A1 : Option Addr) (n1 c1 : Nat) (k1 : List ByteArray) (hl1 : k1.length = n1) (hc1 : n1 ≤ c1) (hn1 : c1 ≤ 140737488351232) (hks1 : ∀ s ∈ k1, s.size ≤ 140737488351232) (hr1 : Rd w w.heap.size A1 (sv k1))
    (bits : Int) (hb : -9223372036854775808 ≤ bits ∧ bits ≤ 9223372036854775807) (key : ByteArray) (hkey : key.size ≤ 140737488351232) :
    Calls Try.prog 6 #[.slice A0 n0 c0, .slice A1 n1 c1, .int .i64 bits, .string key] w fun e w' => e = .returned (.bool true) ∧ Below w.heap.size w w' := by
  obtain ⟨n, hnn⟩ : ∃ n, n = min n0 n1 := ⟨_, rfl⟩
  have hmin : ∀ w : World, (Builtin.min_ #[3, 3] 3 #[.int .i64 (n0 : Int), .int .i64 (n1 : Int)]).run Try.prog w = .ok (.int .i64 (n : Int)) w := fun w => by
    rw [run_min_int2]
    congr 2
    split <;> omega
  have a0 : n ≤ n0 := by omega
  have a1 : n ≤ n1 := by omega
  have HL0 := Lib.hid hl0; have HR0 := Lib.hid hr0; have HK0 := Lib.hid hks0
  have HL1 := Lib.hid hl1; have HR1 := Lib.hid hr1; have HK1 := Lib.hid hks1
  clear hl0 hr0 hks0 hl1 hr1 hks1 hnn
  go_enter Try.func6, Try.ntmps6
  go_wp2_with fail
  refine (lives08_any _).mono ?_
  rintro e w1 ⟨rfl, hb1⟩
  have HB1 := Lib.hid hb1
  have P1 := Lib.hid (HR0.out.below hb1)
  have Q1 := Lib.hid (HR1.out.below hb1)
  clear hb1
  have hs0 := small08_any A0 n0 c0 _ k0 HL0.out (by omega) (fun s h => by have := HK0.out s h; omega) w1 P1.out
  have hs1 := small08_any A1 n1 c1 _ k1 HL1.out (by omega) (fun s h => by have := HK1.out s h; omega) w1 Q1.out
  by_cases h0 : smallB k0 = true
  · rw [h0] at hs0
    have HS0 := Lib.hid hs0; clear hs0
    by_cases h1 : smallB k1 = true
    · rw [h1] at hs1
      have HS1 := Lib.hid hs1; clear hs1
      have m0 : n0 ≤ 200 := by
        unfold smallB at h0
        rw [Bool.and_eq_true] at h0
        rw [← HL0.out]
        exact of_decide_eq_true h0.2
      have m1 : n1 ≤ 200 := by
        unfold smallB at h1
        rw [Bool.and_eq_true] at h1
        rw [← HL1.out]
        exact of_decide_eq_true h1.2
      clear h0 h1
      by_cases h6 : key.size ≤ 600
      · go_wp2_with fail
        refine HS0.out.mono ?_
        rintro e w' ⟨rfl, rfl⟩
        go_wp2_with fail
        refine HS1.out.mono ?_
        rintro e w' ⟨rfl, rfl⟩
        have i0 : (0 : Int) ≤ (n : Int) := by omega
        have i1 : (n : Int) ≤ (c0 : Int) := by omega
        have i2 : (n : Int) ≤ (c1 : Int) := by omega
        by_cases hbits : bits < 1 ∨ 16 < bits
        · have o0 := of_arg A0 n c0 (by omega) bits hbits w1
          have o1 := of_arg A1 n c1 (by omega) bits hbits w1
          have O0 := Lib.hid o0; have O1 := Lib.hid o1; clear o0 o1 hbits
          go_wp2_with fail
          refine O0.out.mono ?_
          rintro e w' ⟨rfl, rfl⟩
          go_wp2_with fail
          refine O1.out.mono ?_
          rintro e w' ⟨rfl, rfl⟩
          go_wp2
          go_ret
          exact ⟨rfl, HB1.out⟩
        · obtain ⟨b, rfl⟩ := Int.eq_ofNat_of_zero_le (show 0 ≤ bits by omega)
          have b1 : 1 ≤ b := by omega
          have b2 : b ≤ 16 := by omega
          clear hbits
          have e0 : (k0.take n).length = n := by rw [List.length_take, HL0.out]; omega
          have e1 : (k1.take n).length = n := by rw [List.length_take, HL1.out]; omega
          have p1 : Rd w1 w.heap.size A0 (sv (k0.take n)) := by rw [← sv_take]; exact P1.out.take n
          have q1 : Rd w1 w.heap.size A1 (sv (k1.take n)) := by rw [← sv_take]; exact Q1.out.take n
          have o0 := of_any A0 n c0 _ (k0.take n) e0 (by omega) (fun s h => by have := HK0.out s (List.mem_of_mem_take h); omega) b b1 b2 w1 p1 HB1.out.size
          have O0 := Lib.hid o0
          have E1 := Lib.hid e1; have E0 := Lib.hid e0; have Q1' := Lib.hid q1
          clear o0 e0 e1 p1 q1
          go_wp2_with fail
          refine O0.out.mono ?_
          rintro e w2 ⟨v, rfl, own2, hb2⟩
          have HB2 : Hid (Below w.heap.size w w2) := Below.go HB1.out hb2 HB1.out.size
          have o1 := of_any A1 n c1 _ (k1.take n) E1.out (by omega) (fun s h => by have := HK1.out s (List.mem_of_mem_take h); omega) b b1 b2 w2 (Q1'.out.below (hb2.mono HB1.out.size)) HB2.out.size
          have O1 := Lib.hid o1
          obtain ⟨A2, c2, rfl, hc2, hm2, rd2⟩ := own_rd4 own2
          have RD2 := Lib.hid rd2
          clear o1 own2 hb2 rd2 O0
          go_wp2_with fail
          refine O1.out.mono ?_
          rintro e w3 ⟨v, rfl, own3, hb3⟩
          have HB3 : Hid (Below w.heap.size w w3) := Below.go HB2.out hb3 HB2.out.size
          obtain ⟨A3, c3, rfl, hc3, hm3, rd3⟩ := own_rd4 own3
          have hs := bsize_bd n b (by omega) b2
          have ka := bof_chk n b (by omega) b1 b2 (bl (k0.take n))
          have kb := bof_chk n b (by omega) b1 b2 (bl (k1.take n))
          have la := bof_length (brounds b) (bsize n b) (bl (k0.take n))
          have lb := bof_length (brounds b) (bsize n b) (bl (k1.take n))
          have alla := bof_all (brounds b) (bsize n b) hs.1 (bl (k0.take n))
          have allb := bof_all (brounds b) (bsize n b) hs.1 (bl (k1.take n))
          have hab : (bof (brounds b) (bsize n b) (bl (k1.take n))).getD 0 0 = (bof (brounds b) (bsize n b) (bl (k0.take n))).getD 0 0 := by rw [bof_head, bof_head]
          obtain ⟨hs1, hs2⟩ := hs
          generalize bsize n b = sz at *
          generalize bof (brounds b) sz (bl (k0.take n)) = fa at *
          generalize bof (brounds b) sz (bl (k1.take n)) = fb at *
          have RD2' := Lib.hid (RD2.out.below hb3)
          have ob := both_any A2 A3 (sz + 1) c2 c3 w2.heap.size w3.heap.size fa fb la lb ka kb hab (by omega) hc3 w3 RD2'.out rd3 hb3.size (Nat.le_refl _)
          have OB := Lib.hid ob
          have KA := Lib.hid ka; have KB := Lib.hid kb; have LA := Lib.hid la; have LB := Lib.hid lb; have ALLA := Lib.hid alla; have ALLB := Lib.hid allb; have HAB := Lib.hid hab
          have hs3 := hb3.size
          clear ob ka kb la lb alla allb hab own3 hb3 rd3 O1
          go_wp2_with fail
          refine OB.out.mono ?_
          rintro e w4 ⟨v, rfl, own4, hb4⟩
          obtain ⟨A4, c4, rfl, hc4, hm4, rd4⟩ := own_rd4 own4
          have HB4 : Hid (Below w.heap.size w w4) := Below.go HB3.out hb4 HB3.out.size
          have RD4 := Lib.hid rd4
          have RD24 := Lib.hid (RD2'.out.below (hb4.mono hs3))
          have P4 := Lib.hid (HR0.out.below HB4.out)
          have Q4 := Lib.hid (HR1.out.below HB4.out)
          have lo : Hid ((orF fa fb).length = sz + 1) := by unfold Hid orF; rw [orTo_length]; exact LA.out
          have ko : Hid (bchk (orF fa fb) = 0) := orF_chk fa fb KA.out
          have hbl : Hid (∀ x, ball fa x = true ∨ ball fb x = true → ball (orF fa fb) x = true) := fun x h => orF_ball fa fb x (bchk_ok KA.out).1 (by rw [LA.out, LB.out]) HAB.out h
          have q1 : ((sz : Int) + 1 != (sz : Int) + 1) = false := by simp
          clear rd4 own4 hb4 OB
          go_wp2_with fail
          go_loop [16] (fun i => ∃ j : Nat, j ≤ n ∧ i = .int .i64 j) (fun i => n - (intOf i).toNat)
          case atStart => exact ⟨0, Nat.zero_le _, rfl⟩
          case round =>
            obtain ⟨j, hj, rfl⟩ := hrel
            by_cases hlt : j < n
            · have hj0 : j < k0.length := by rw [HL0.out]; omega
              have hj1 : j < k1.length := by rw [HL1.out]; omega
              obtain ⟨x0, y0, rfl, hx0, hcell0⟩ := P4.out.at_ (show (sv k0)[j]? = some (.string k0[j]) by simp [sv, hj0])
              obtain ⟨x1, y1, rfl, hx1, hcell1⟩ := Q4.out.at_ (show (sv k1)[j]? = some (.string k1[j]) by simp [sv, hj1])
              have z0 := HK0.out k0[j] (List.getElem_mem hj0)
              have z1 := HK1.out k1[j] (List.getElem_mem hj1)
              have t0 : j < (k0.take n).length := by rw [E0.out]; exact hlt
              have t1 : j < (k1.take n).length := by rw [E1.out]; exact hlt
              have g0 : ball (orF fa fb) k0[j].data.toList = true := hbl.out _ (.inl (ALLA.out _ (by
                unfold bl
                exact List.mem_map.2 ⟨(k0.take n)[j], List.getElem_mem t0, by rw [List.getElem_take]⟩)))
              have g1 : ball (orF fa fb) k1[j].data.toList = true := hbl.out _ (.inr (ALLB.out _ (by
                unfold bl
                exact List.mem_map.2 ⟨(k1.take n)[j], List.getElem_mem t1, by rw [List.getElem_take]⟩)))
              generalize k0[j] = s0 at *
              generalize k1[j] = s1 at *
              have hh0 := has_any A4 (sz + 1) c4 _ (orF fa fb) lo.out (by omega) s0 (by omega) w4 RD4.out
              have hh1 := has_any A4 (sz + 1) c4 _ (orF fa fb) lo.out (by omega) s1 (by omega) w4 RD4.out
              have hB0 : hasB (orF fa fb) s0.data.toList = true := by unfold hasB; rw [g0, ko.out]; rfl
              have hB1 : hasB (orF fa fb) s1.data.toList = true := by unfold hasB; rw [g1, ko.out]; rfl
              rw [hB0, ko.out] at hh0
              rw [hB1, ko.out] at hh1
              have HH0 := Lib.hid hh0; have HH1 := Lib.hid hh1
              clear hh0 hh1 hB0 hB1 g0 g1 t0 t1
              go_wp2_with fail
              refine HH0.out.mono ?_
              rintro e w' ⟨rfl, rfl⟩
              go_wp2_with fail
              refine HH1.out.mono ?_
              rintro e w' ⟨rfl, rfl⟩
              go_wp2
              exact ⟨⟨j + 1, by omega, by go_num⟩, by simp [intOf]; omega⟩
            · have hhf := has_any A2 (sz + 1) c2 _ fa LA.out (by omega) key (by omega) w4 RD24.out
              have hho := has_any A4 (sz + 1) c4 _ (orF fa fb) lo.out (by omega) key (by omega) w4 RD4.out
              have ef : hasB fa key.data.toList = ball fa key.data.toList := by unfold hasB; rw [KA.out]; rfl
              have eo : hasB (orF fa fb) key.data.toList = ball (orF fa fb) key.data.toList := by unfold hasB; rw [ko.out]; rfl
              rw [ef, KA.out] at hhf
              rw [eo, ko.out] at hho
              clear ef eo
              have him := hbl.out key.data.toList
              by_cases hbf : ball fa key.data.toList = true
              · rw [hbf] at hhf
                rw [him (.inl hbf)] at hho
                have HF := Lib.hid hhf; have HO := Lib.hid hho
                clear hhf hho him hbf
                go_wp2_with fail
                refine HF.out.mono ?_
                rintro e w' ⟨rfl, rfl⟩
                go_wp2_with fail
                refine HO.out.mono ?_
                rintro e w' ⟨rfl, rfl⟩
                go_wp2
                go_ret
                exact ⟨rfl, HB4.out⟩
              · have hbf' : ball fa key.data.toList = false := by simpa using hbf
                rw [hbf'] at hhf
                have HF := Lib.hid hhf; have HO := Lib.hid hho
                clear hhf hho him hbf hbf'
                go_wp2_with fail
                refine HF.out.mono ?_
                rintro e w' ⟨rfl, rfl⟩
                go_wp2_with fail
                refine HO.out.mono ?_
                rintro e w' ⟨rfl, rfl⟩
                go_wp2
                go_ret
                exact ⟨rfl, HB4.out⟩
      · have h7 : 600 < key.size := by omega
        clear h6
        go_wp2_with fail
        refine HS0.out.mono ?_
        rintro e w' ⟨rfl, rfl⟩
        go_wp2_with fail
        refine HS1.out.mono ?_
        rintro e w' ⟨rfl, rfl⟩
        go_wp2
        go_ret
        exact ⟨rfl, HB1.out⟩
    · have h3 : smallB k1 = false := by simpa using h1
      rw [h3] at hs1
      have HS1 := Lib.hid hs1; clear hs1 h0 h1 h3
      go_wp2_with fail
      refine HS0.out.mono ?_
      rintro e w' ⟨rfl, rfl⟩
      go_wp2_with fail
      refine HS1.out.mono ?_
      rintro e w' ⟨rfl, rfl⟩
      go_wp2
      go_ret
      exact ⟨rfl, HB1.out⟩
  · have h3 : smallB k0 = false := by simpa using h0
    rw [h3] at hs0
    have HS0 := Lib.hid hs0; clear hs0 hs1 h0 h3
    go_wp2_with fail
    refine HS0.out.mono ?_
    rintro e w' ⟨rfl, rfl⟩
    go_wp2
    go_ret
    exact ⟨rfl, HB1.out⟩

theorem bloomBoth_law (w : World) (x : StrsArg w) (_ : True) (y : StrsArg w) (_ : True) (bits : Int) (hb : (Lit.int .i64 bits).wf = true) (key : ByteArray) (hk : key.size ≤ 140737488351232) :
    Calls Try.prog 6 #[.slice x.A x.n x.c, .slice y.A y.n y.c, .int .i64 bits, .string key] w fun e w' => e = .returned (.bool true) ∧ Below w.heap.size w w' :=
  bloomBoth_walk w x.A x.n x.c x.l x.hl x.hc x.hn x.hs x.rd y.A y.n y.c y.l y.hl y.hc y.hn y.hs y.rd bits (by simpa [Lit.wf, IntKind.min, IntKind.max, IntKind.signed, IntKind.bits] using hb) key hk
end Go.Proofs.Ytlpdihcgdgkkbaa
