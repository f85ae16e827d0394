/- Walk: the document reads a block. -/
import Derived.Test.YtmcpjpkidcbgiaaEv
namespace Go.Proofs.Ytmcpjpkidcbgiaa
open Go.RowKit Go.St Go.Maps
set_option linter.unusedVariables false
set_option linter.unusedSimpArgs false
set_option maxRecDepth 100000

theorem pT_suf {most : Int} {r r' : List UInt8} {s : ByteArray} (h : pT most r = some (s, r')) : ∃ k, r' = r.drop k := by
  unfold pT at h
  cases hq : smU r most with
  | none => rw [hq] at h; cases h
  | some q =>
    rw [hq, Option.bind_some] at h
    split at h
    · cases h
    · injection h with h
      injection h with h1 h2
      exact ⟨q.2 + q.1, by rw [← h2, List.drop_drop]⟩
theorem pE_b {last : ByteArray} {r r' : List UInt8} {x : Ent} (h : pE last r = some (x, r')) : (∃ k, r' = r.drop k) ∧ x.key.size ≤ last.size + 512 := by
  unfold pE at h
  cases h1 : smU r last.size with
  | none => rw [h1] at h; cases h
  | some q1 =>
    rw [h1, Option.bind_some] at h
    cases h2 : pT 512 (r.drop q1.2) with
    | none => rw [h2] at h; cases h
    | some q2 =>
      rw [h2, Option.bind_some] at h
      obtain ⟨s2, r2⟩ := q2
      obtain ⟨k2, e2⟩ := pT_suf h2
      have z2 := pT_size h2
      dsimp only at h
      have hk : (last.extract 0 q1.1 ++ s2).size ≤ last.size + 512 := by
        rw [ByteArray.size_append]
        have := ext0_size last q1.1
        omega
      cases h3 : smU r2 1073741824 with
      | none => rw [h3] at h; cases h
      | some q3 =>
        rw [h3, Option.bind_some] at h
        cases h4 : smU (r2.drop q3.2) 1 with
        | none => rw [h4] at h; cases h
        | some q4 =>
          rw [h4, Option.bind_some] at h
          split at h
          · injection h with h
            injection h with g1 g2
            subst g1
            exact ⟨⟨q1.2 + k2 + q3.2 + q4.2, by rw [← g2, e2, List.drop_drop, List.drop_drop, List.drop_drop]; congr 1; omega⟩, hk⟩
          · cases h5 : pT 4096 ((r2.drop q3.2).drop q4.2) with
            | none => rw [h5] at h; cases h
            | some q5 =>
              rw [h5, Option.bind_some] at h
              obtain ⟨s5, r5⟩ := q5
              obtain ⟨k5, e5⟩ := pT_suf h5
              injection h with h
              injection h with g1 g2
              subst g1
              exact ⟨⟨q1.2 + k2 + q3.2 + q4.2 + k5, by rw [← g2, e5, e2, List.drop_drop, List.drop_drop, List.drop_drop, List.drop_drop]; show List.drop _ r = List.drop _ r; congr 1; omega⟩, hk⟩
theorem pE_at' {last : ByteArray} {bs r : List UInt8} {a0 n : Nat} {x : Ent} (hl : bs.length = n) (h : pE last (bs.drop a0) = some (x, r)) : bs.drop (n - r.length) = r ∧ n - r.length ≤ n := by
  obtain ⟨⟨k, e⟩, -⟩ := pE_b h
  rw [List.drop_drop] at e
  refine ⟨?_, by omega⟩
  rcases Nat.lt_or_ge (a0 + k) n with h1 | h1
  · have : r.length = n - (a0 + k) := by rw [e, List.length_drop, hl]
    rw [this, show n - (n - (a0 + k)) = a0 + k by omega, e]
  · have h2 : r = [] := by rw [e]; exact List.drop_eq_nil_of_le (by omega)
    rw [h2]
    exact List.drop_eq_nil_of_le (by simp; omega)
theorem dec_yes {bs : List UInt8} {l : List Ent} (hc : chkL l = 0) (he : encL l = bs) : decO bs = some l := by rw [← he]; exact dec_enc hc
theorem dec_no {bs : List UInt8} {l : List Ent} {r : List UInt8} (hp : pB bs = some (l, r)) (h : ¬ (chkL l = 0 ∧ encL l = bs)) : decO bs = none := by
  unfold decO
  rw [hp, Option.bind_some]
  exact if_neg (fun h2 => h h2.2)
theorem dec_no0 {bs : List UInt8} (hp : pB bs = none) : decO bs = none := by
  unfold decO
  rw [hp]
  rfl
set_option maxHeartbeats 6400000 in
theorem rdecode_any (A : Option Addr) (n c B : Nat) (bs : List UInt8) (hl : bs.length = n) (hnc : n ≤ c) (hc : c ≤ 9223372036854775807) (hn : n ≤ 1000000) (w : World) (hr : Rd w B A (bv bs)) (hB : B ≤ w.heap.size) :
    Calls Try.prog 17 #[.slice A n c] w fun e w' => ∃ v, e = .returned (.tuple #[v, .int .i64 (decE bs)]) ∧ w'.ownsRow w.heap.size 43 4 v (decL bs).length (env (decL bs)) ∧ Below w.heap.size w w' := by
  have HL := Lib.hid hl
  obtain ⟨p, hp⟩ : ∃ p, p = w.heap.size := ⟨_, rfl⟩
  have hpw : p ≤ w.heap.size := by omega
  have HR := Lib.hid (hr.more (show B ≤ p by omega))
  rw [← hp]
  have HPZ := Lib.hid hp
  clear hl hr hp
  go_enter Try.func17, Try.ntmps17
  go_wp2_with fail
  cases hs1 : smU bs 64 with
  | none =>
    have H := Lib.hid hs1
    have SEQ : Hid (decO bs = none) := Lib.hid (dec_no0 (by unfold pB; rw [hs1]; rfl))
    clear hs1
    refine (rs_none A n c p bs HL.out (by omega) 64 (by omega) w HR.out hpw H.out).mono ?_
    rintro e w2 ⟨rfl, hb⟩
    have BW : Hid (Below p w w2) := Lib.hid (hb.mono hpw)
    clear hb
    have SE := dec_none SEQ.out
    have SE1 := Lib.hid SE.1
    have SE2 := Lib.hid SE.2
    clear SE
    go_wp2_with fail
    go_ret2
    exact ⟨_, by rw [SE2.out]; rfl, by rw [SE1.out]; exact World.ownsRow_nil _ _ _ _, BW.out⟩
  | some q =>
    obtain ⟨m0, k0⟩ := q
    have H1 := Lib.hid hs1
    obtain ⟨l1, l2, l3, l4⟩ := smU_len hs1
    rw [HL.out] at l2
    clear hs1
    obtain ⟨P, hP⟩ : ∃ P, P = pB bs := ⟨_, rfl⟩
    have HP := Lib.hid hP.symm
    have HP0 : Hid (P = (pL m0 zB (bs.drop k0)).map fun z => ([] ++ z.1, z.2)) := Lib.hid (by
      rw [hP]
      unfold pB
      rw [H1.out, Option.bind_some]
      cases pL m0 zB (bs.drop k0) <;> simp)
    clear hP
    refine (rs_some A n c p bs HL.out (by omega) 64 (by omega) w HR.out hpw H1.out).mono ?_
    rintro e w2 ⟨rfl, hb⟩
    have B2 : Hid (Below p w w2) := Lib.hid (hb.mono hpw)
    have hz2 : p ≤ w2.heap.size := Nat.le_trans hpw hb.size
    clear hb H1
    go_wp2_with fail
    go_loopw [5, 7, 8, 9] (fun s5 s7 s8 s9 wr => ∃ (A5 : Option Addr) (c5 : Nat) (out : List Ent) (last : ByteArray) (a0 : Nat), s5 = .int .i64 (a0 : Int) ∧ s7 = .slice A5 out.length c5 ∧ s8 = .string last ∧ s9 = .int .i64 (out.length : Int) ∧ out.length ≤ m0 ∧ a0 ≤ n ∧ last.size ≤ out.length * 512 ∧ p ≤ wr.heap.size ∧ Hid (∀ x ∈ out, x.key.size ≤ 40000) ∧ Hid (wr.ownsRow p 43 4 (.slice A5 out.length c5) out.length (env out)) ∧ Hid (P = (pL (m0 - out.length) last (bs.drop a0)).map fun z => (out ++ z.1, z.2)) ∧ Hid (Below p w wr)) (fun _ _ _ s9 _ => m0 - (intOf s9).toNat)
    case atStart => exact ⟨none, 0, [], zB, k0, rfl, rfl, rfl, rfl, Nat.zero_le _, l2, Nat.le_refl _, hz2, Lib.hid (by simp), Lib.hid (World.ownsRow_nil _ _ _ _), HP0, B2⟩
    case round =>
      clear HP0 B2 hz2
      obtain ⟨A5, c5, out, last, a0, rfl, rfl, rfl, rfl, hom, ha0, hls, hz3, HK, OW, HQ, BW⟩ := hrel
      obtain ⟨w3, rfl⟩ : ∃ x, x = wr := ⟨_, rfl⟩
      by_cases hm : out.length < m0
      · have i1 : (out.length : Int) < (m0 : Int) := by omega
        have hlz : last.size ≤ 100000 := by omega
        have HE := Lib.hid (rentry_any A n c p bs HL.out hnc hc hn a0 ha0 last hlz w3 (HR.out.below BW.out) hz3)
        cases hpe : pE last (bs.drop a0) with
        | none =>
          rw [hpe] at HE
          have HPN : Hid (P = none) := Lib.hid (by
            rw [HQ.out, show m0 - out.length = (m0 - out.length - 1) + 1 by omega, pL, hpe]
            rfl)
          have SEQ : Hid (decO bs = none) := Lib.hid (dec_no0 (HP.out.trans HPN.out))
          clear hpe HQ HPN
          unfold entS entP at HE
          dsimp only at HE
          go_wp2_with fail
          refine HE.out.mono ?_
          rintro e w4 ⟨rfl, hb⟩
          have BW4 := Lib.hid (BW.out.trans (hb.mono hz3))
          clear BW hb OW HE
          have BW := BW4
          clear BW4
          unfold Ent.v Ent.z zB
          dsimp only
          go_wp2_with fail
          have hal : Below w4.heap.size w4 (w4.alloc (.cells #[.string { data := #[] }, .string { data := #[] }, .int .i64 0, .bool false] 43)) := (Below.refl _ _).alloc (Nat.le_refl _) _
          have BW5 := Lib.hid (BW.out.trans (hal.mono (by have := BW.out.size; omega)))
          clear BW hal
          have BW := BW5
          clear BW5
          have SE := dec_none SEQ.out
          have SE1 := Lib.hid SE.1
          have SE2 := Lib.hid SE.2
          clear SE
          go_wp2_with fail
          go_ret2
          exact ⟨_, by rw [SE2.out]; rfl, by rw [SE1.out]; exact World.ownsRow_nil _ _ _ _, BW.out⟩
        | some q =>
          obtain ⟨x, r⟩ := q
          rw [hpe] at HE
          obtain ⟨hr1, hr2⟩ := pE_at' HL.out hpe
          obtain ⟨-, hr3⟩ := pE_b hpe
          obtain ⟨a1, ha1⟩ : ∃ a1, a1 = n - r.length := ⟨_, rfl⟩
          rw [← ha1] at hr1 hr2
          have hie : out.length + 1 = (out ++ [x]).length := by simp
          have HQ9 : Hid (P = (pL (m0 - (out ++ [x]).length) x.key (bs.drop a1)).map fun z => ((out ++ [x]) ++ z.1, z.2)) := Lib.hid (by
            rw [HQ.out, show m0 - out.length = (m0 - (out ++ [x]).length) + 1 by rw [← hie]; omega, pL, hpe, Option.bind_some, Option.map_map]
            dsimp only
            rw [hr1]
            congr 1
            funext z
            simp)
          have HK9 : Hid (∀ y ∈ out ++ [x], y.key.size ≤ 40000) := Lib.hid (fun y hy => by
            rcases List.mem_append.1 hy with h | h
            · exact HK.out y h
            · rw [List.mem_singleton.1 h]
              omega)
          have hls9 : x.key.size ≤ (out ++ [x]).length * 512 := by rw [← hie]; omega
          unfold entS entP at HE
          dsimp only at HE
          rw [← ha1] at HE
          clear hpe HQ hr1 HK ha1 hr3 hie
          obtain ⟨x1, x2, x3, x4⟩ := x
          unfold Ent.v at HE
          dsimp only at HE hls9 HQ9
          have hneg : ¬ (a1 : Int) < 0 := by omega
          have hol : out.length ≤ 64 := by omega
          go_wp2_with fail
          refine HE.out.mono ?_
          rintro e w4 ⟨rfl, hb⟩
          have BW4 := Lib.hid (BW.out.trans (hb.mono hz3))
          have OW4 := Lib.hid (own_keep OW.out hb (Nat.le_refl _))
          have hz4 : p ≤ w4.heap.size := Nat.le_trans hz3 hb.size
          clear BW hb OW HE
          go_upto_region 10 with (fail)
          have hal : Below w4.heap.size w4 (w4.alloc (.cells #[.string x1, .string x2, .int .i64 x3, .bool x4] 43)) := (Below.refl _ _).alloc (Nat.le_refl _) _
          have XB := Lib.hid (BxV.new w4 #[.string x1, .string x2, .int .i64 x3, .bool x4] 43)
          have BW5 := Lib.hid (BW4.out.trans (hal.mono hz4))
          have OW5 := Lib.hid (own_keep OW4.out hal (Nat.le_refl _))
          have hz5 : p ≤ (w4.alloc (.cells #[.string x1, .string x2, .int .i64 x3, .bool x4] 43)).heap.size := Nat.le_trans hz4 hal.size
          have OW4N := OW4
          clear BW4 OW4 hal
          have NEX : Hid (∀ g, (Value.slice A5 out.length c5).ownBlock = some g → g ≠ w4.heap.size) := Lib.hid (fun g e => Nat.ne_of_lt (OW4N.out.lt g e).2)
          clear OW4N
          generalize w4.alloc (.cells #[.string x1, .string x2, .int .i64 x3, .bool x4] 43) = w5 at *
          generalize w4.heap.size = bx at *
          have q0 := XB.out.c 0 _ rfl
          have q1 := XB.out.c 1 _ rfl
          have q2 := XB.out.c 2 _ rfl
          have q3 := XB.out.c 3 _ rfl
          have ql := XB.out.lt
          go_wp2_with (at_builtin; refine wpList_app styE (.tmp 35) (.tmp 37) rfl rfl p (OW5.out.alloc _) rfl 1 1 (rd_frC _ _ _ _) rfl rfl (by simp [Value.oneCell']) (by unfold maxLen; omega) (by omega) (by rw [World.size_alloc]; omega) ?_; intro v5 w6 own6 gr6 nil6 at6; obtain ⟨A6, c6, rfl, -, -⟩ := own_sl own6; have X6 := BxV.grown (XB.out.alloc _) gr6 (fun e => NEX.out bx e rfl); have y0 := X6.c 0 _ rfl; have yl := X6.lt)
          have B9 := Lib.hid ((BW5.out.alloc hz5 _).grown gr6 (by rw [World.size_alloc]; omega) (fun g e => (OW5.out.lt g e).1))
          have hz6 : p ≤ w6.heap.size := by have := gr6.size; rw [World.size_alloc] at this; omega
          have O9 : Hid (w6.ownsRow p 43 4 (.slice A6 (out ++ [(⟨x1, x2, x3, x4⟩ : Ent)]).length c6) (out ++ [(⟨x1, x2, x3, x4⟩ : Ent)]).length (env (out ++ [(⟨x1, x2, x3, x4⟩ : Ent)]))) := Lib.hid (by
            have h := own_eq own6 (m := (out ++ [(⟨x1, x2, x3, x4⟩ : Ent)]).length) (ys := env (out ++ [(⟨x1, x2, x3, x4⟩ : Ent)])) (by simp) (by rw [env_app]; rfl)
            rw [List.length_append] at h ⊢
            exact h)
          have hom9 : (out ++ [(⟨x1, x2, x3, x4⟩ : Ent)]).length ≤ m0 := by rw [List.length_append]; simp only [List.length_cons, List.length_nil]; omega
          clear own6 gr6 nil6 at6 X6
          go_roundw
          case rel => exact ⟨A6, c6, out ++ [(⟨x1, x2, x3, x4⟩ : Ent)], x1, a1, rfl, by rw [List.length_append]; rfl, rfl, by rw [List.length_append]; go_num, hom9, hr2, hls9, hz6, HK9, O9, HQ9, B9⟩
          case measure => simp [intOf]; omega
      · have i1 : ¬ (out.length : Int) < (m0 : Int) := by omega
        have HPS : Hid (pB bs = some (out, bs.drop a0)) := Lib.hid (by
          rw [HP.out, HQ.out, show m0 - out.length = 0 by omega, pL]
          simp)
        clear HQ hm
        go_wp2_with fail
        refine (rencode_any A5 out.length c5 out rfl (by omega) (fun x hx => by have := HK.out x hx; unfold maxLen; omega) w3.heap.size w3 (own_rdL OW.out) (Nat.le_refl _)).mono ?_
        rintro e w4 ⟨v4, rfl, o4, t4⟩
        have BW4 := Lib.hid (BW.out.trans (t4.mono hz3))
        have O4 := Lib.hid o4
        have OW4 := Lib.hid (own_keep OW.out t4 (Nat.le_refl _))
        clear BW OW t4 o4
        have BW := BW4
        clear BW4
        by_cases hce : chkL out = 0
        · have hcb : (chkL out != 0) = false := by simpa using hce
          have k1 : (convert 23 9 v4).run Try.prog w4 = .ok (.string ⟨(encL out).toArray⟩) w4 := by
            obtain ⟨A4, c4, e4, -, -⟩ := own_sl O4.out
            have r4 := own_rdL (e4 ▸ O4.out)
            rw [e4]
            exact conv_str (P := Try.prog) 23 9 5 _ c4 Try.underlying23 Try.underlying5 Try.underlying9 r4 rfl
          have k2 : (convert 23 9 (.slice A n c)).run Try.prog w4 = .ok (.string ⟨bs.toArray⟩) w4 :=
            conv_str (P := Try.prog) 23 9 5 n c Try.underlying23 Try.underlying5 Try.underlying9 (HR.out.below BW.out) HL.out
          obtain ⟨s1, e1⟩ : ∃ s : ByteArray, s = ⟨(encL out).toArray⟩ := ⟨_, rfl⟩
          obtain ⟨s2, e2⟩ : ∃ s : ByteArray, s = ⟨bs.toArray⟩ := ⟨_, rfl⟩
          rw [← e1] at k1
          rw [← e2] at k2
          have HE1 := Lib.hid e1
          have HE2 := Lib.hid e2
          clear e1 e2
          have HCE := Lib.hid hce
          clear hce
          by_cases hee : s1 = s2
          · have hsb : (s1.toList == s2.toList) = true := by rw [str_eqB]; simpa using hee
            have SEQ : Hid (decO bs = some out) := Lib.hid (dec_yes HCE.out (by
              have h := hee
              rw [HE1.out, HE2.out] at h
              have h2 : (encL out).toArray = bs.toArray := congrArg ByteArray.data h
              simpa using congrArg Array.toList h2))
            have SE := dec_some SEQ.out
            have SE1 := Lib.hid SE.1
            have SE2 := Lib.hid SE.2
            clear SE hee
            go_wp2_with fail
            go_ret2
            exact ⟨_, by rw [SE2.out]; rfl, by rw [SE1.out]; exact OW4.out, by exact BW.out⟩
          · have hsb : (s1.toList == s2.toList) = false := by rw [str_eqB]; simpa using hee
            have SEQ : Hid (decO bs = none) := Lib.hid (dec_no HPS.out (by
              rintro ⟨-, h⟩
              refine hee ?_
              rw [HE1.out, HE2.out, h]))
            clear hee
            have SE := dec_none SEQ.out
            have SE1 := Lib.hid SE.1
            have SE2 := Lib.hid SE.2
            clear SE
            go_wp2_with fail
            go_ret2
            exact ⟨_, by rw [SE2.out]; rfl, by rw [SE1.out]; exact World.ownsRow_nil _ _ _ _, BW.out⟩
        · have SEQ : Hid (decO bs = none) := Lib.hid (dec_no HPS.out (by rintro ⟨h, -⟩; exact hce h))
          have hcb : (chkL out != 0) = true := by simpa using hce
          clear hce
          have SE := dec_none SEQ.out
          have SE1 := Lib.hid SE.1
          have SE2 := Lib.hid SE.2
          clear SE
          go_wp2_with fail
          go_ret2
          exact ⟨_, by rw [SE2.out]; rfl, by rw [SE1.out]; exact World.ownsRow_nil _ _ _ _, BW.out⟩
end Go.Proofs.Ytmcpjpkidcbgiaa
