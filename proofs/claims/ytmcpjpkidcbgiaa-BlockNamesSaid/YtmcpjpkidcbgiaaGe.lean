/- Walk: the layer's numbers, and the chapter's examples of blocks. -/
import Derived.Test.YtmcpjpkidcbgiaaEs
import Derived.Test.YtmcpjpkidcbgiaaGc
namespace Go.Proofs.Ytmcpjpkidcbgiaa
open Go.RowKit Go.St Go.Maps
set_option linter.unusedVariables false
set_option linter.unusedSimpArgs false
set_option maxRecDepth 100000

def kA : ByteArray := { data := #[97] }
def ddE : List Ent := [⟨{ data := #[97] }, zB, 5, true⟩, ⟨{ data := #[97] }, { data := #[118] }, 2, false⟩]
def bxE : List Ent := [⟨{ data := #[97] }, zB, 1, false⟩, ⟨{ data := #[97] }, zB, 2, false⟩]
def m2E : List Ent := [⟨{ data := #[97, 98] }, { data := #[120] }, 3, false⟩, ⟨{ data := #[97, 98, 99] }, { data := #[121] }, 2, false⟩]
theorem nm_f1 : foldE exE [1] false = exE := by kernel_rfl
theorem nm_f2 : foldE exE [] true = m2E := by kernel_rfl
theorem nm_f3 : foldE ddE [] false = [⟨{ data := #[97] }, zB, 5, true⟩] := by kernel_rfl
theorem nm_f4 : foldE ddE [] true = [] := by kernel_rfl
theorem nm_ris : risE exE = true := by kernel_rfl
theorem nm_v1 : (fndE exE { data := #[97, 98] } 2).v = .agg #[.string { data := #[97, 98] }, .string { data := #[] }, .int .i64 1, .bool true] ∧ isE exE { data := #[97, 98] } 2 = true := ⟨by kernel_rfl, by kernel_rfl⟩
theorem nm_v2 : (fndE exE { data := #[98] } 9).v = .agg #[.string { data := #[] }, .string { data := #[] }, .int .i64 0, .bool false] ∧ isE exE { data := #[98] } 9 = false := ⟨by kernel_rfl, by kernel_rfl⟩
theorem nm_c1 : chkL [] = 2 := by kernel_rfl
theorem nm_c2 : chkL bxE = 10 := by kernel_rfl
theorem nm_c3 : chkL (List.replicate 65 Ent.z) = 3 := by kernel_rfl
theorem fold_nm (A : Option Addr) (n c : Nat) (l : List Ent) (hl : l.length = n) (hn : n ≤ 1000000) (K : Option Addr) (nk ck : Nat) (ks : List Int) (hkl : ks.length = nk) (hnk : nk ≤ 1000000) (last : Bool) (M : List Ent) (m : Nat) (hm : M.length = m) (hM : foldE l ks last = M) (w : World) (hr : Rd w w.heap.size A (env l)) (hrk : Rd w w.heap.size K (nv ks)) :
    Calls Try.prog 28 #[.slice A n c, .slice K nk ck, .bool last] w fun e w' => ∃ A' c', e = .returned (.slice A' m c') ∧ Rd w' w'.heap.size A' (env M) ∧ Below w.heap.size w w' := by
  refine (fold_any A n c l hl hn K nk ck ks hkl hnk last w.heap.size w hr hrk (Nat.le_refl _)).mono ?_
  rintro e w' ⟨v, rfl, o, hb⟩
  rw [hM] at o
  obtain ⟨A', c', rfl, -, r⟩ := own_sl o
  exact ⟨A', c', by rw [hm], r, hb⟩
theorem same_nm (A A' : Option Addr) (n c c' : Nat) (l : List Ent) (hl : l.length = n) (hn : n ≤ 1000000) (w : World) (hr : Rd w w.heap.size A (env l)) (hr' : Rd w w.heap.size A' (env l)) :
    Calls Try.prog 21 #[.slice A n c, .slice A' n c'] w fun e w' => e = .returned (.bool true) ∧ Below w.heap.size w w' := by
  have h := sameE_any A A' n n c c' _ _ l l hl hl hn w hr (Nat.le_refl _) hr' (Nat.le_refl _)
  rw [decide_eq_true rfl] at h
  exact h
theorem zEnv65 : (madeCells (Value.cells (.agg #[.string { data := #[] }, .string { data := #[] }, .int .i64 0, .bool false])) (65 * 4)).toList = env (List.replicate 65 Ent.z) := by kernel_rfl

set_option maxHeartbeats 6400000 in
theorem blockNames_walk (w : World) : Calls Try.prog 8 #[] w fun e w' => e = .returned (.bool true) ∧ Below w.heap.size w w' := by
  go_enter Try.func8, Try.ntmps8
  go_wp2_with fail
  refine (example07_any w).mono ?_
  rintro e w1 ⟨b1, b2, rfl, r1, -, hb⟩
  have B1 := Lib.hid hb
  have R1 := Lib.hid r1
  clear hb r1
  go_wp2_with fail
  refine (find_any (some ⟨b1, 0, none⟩) 3 3 exE rfl (by omega) nm_ris { data := #[97, 98] } 2 w1.heap.size w1 R1.out (Nat.le_refl _)).mono ?_
  rintro e w2 ⟨rfl, hb⟩
  rw [nm_v1.1, nm_v1.2]
  have B2 := Lib.hid (B1.out.trans (hb.mono B1.out.size))
  have R2 := Lib.hid ((R1.out.below hb).more hb.size)
  clear hb B1 R1
  go_upto_region 3 with (fail)
  have hb : Below w2.heap.size w2 (w2.alloc (.cells #[.string { data := #[97, 98] }, .string { data := #[] }, .int .i64 1, .bool true] 43)) := (Below.refl _ _).alloc (Nat.le_refl _) _
  have X3 := Lib.hid (BxV.new w2 #[.string { data := #[97, 98] }, .string { data := #[] }, .int .i64 1, .bool true] 43)
  have B3 := Lib.hid (B2.out.trans (hb.mono B2.out.size))
  have R3 := Lib.hid ((R2.out.below hb).more hb.size)
  clear hb B2 R2
  generalize w2.alloc (.cells #[.string { data := #[97, 98] }, .string { data := #[] }, .int .i64 1, .bool true] 43) = w3 at *
  generalize w2.heap.size = bx at *
  go_wp2_with fail
  refine (find_any (some ⟨b1, 0, none⟩) 3 3 exE rfl (by omega) nm_ris { data := #[98] } 9 w3.heap.size w3 R3.out (Nat.le_refl _)).mono ?_
  rintro e w4 ⟨rfl, hb⟩
  rw [nm_v2.1, nm_v2.2]
  have B4 := Lib.hid (B3.out.trans (hb.mono B3.out.size))
  have R4 := Lib.hid ((R3.out.below hb).more hb.size)
  have X4 := Lib.hid (X3.out.next hb)
  clear hb B3 R3 X3
  go_upto_region 4 with (fail)
  have hb : Below w4.heap.size w4 (w4.alloc (.cells #[.string { data := #[] }, .string { data := #[] }, .int .i64 0, .bool false] 43)) := (Below.refl _ _).alloc (Nat.le_refl _) _
  have B5 := Lib.hid (B4.out.trans (hb.mono B4.out.size))
  have R5 := Lib.hid ((R4.out.below hb).more hb.size)
  have X5 := Lib.hid (X4.out.next hb)
  clear hb B4 R4 X4
  generalize w4.alloc (.cells #[.string { data := #[] }, .string { data := #[] }, .int .i64 0, .bool false] 43) = w5 at *
  generalize w4.heap.size = bz at *
  go_wp2_with fail
  change Code.wp _ _ _ _ (w5.alloc (.cells (env ddE).toArray 43))
  have hb : Below w5.heap.size w5 (w5.alloc (.cells (env ddE).toArray 43)) := (Below.refl _ _).alloc (Nat.le_refl _) _
  have RD6 := Lib.hid (rd_frC w5 (env ddE).toArray 43 (0, 0))
  have B6 := Lib.hid (B5.out.trans (hb.mono B5.out.size))
  have R6 := Lib.hid ((R5.out.below hb).more hb.size)
  have X6 := Lib.hid (X5.out.next hb)
  clear hb B5 R5 X5
  generalize w5.alloc (.cells (env ddE).toArray 43) = w6 at *
  generalize w5.heap.size = bd at *
  change Hid (Rd w6 w6.heap.size (some ⟨bd, 0, none⟩) (env ddE)) at RD6
  refine wp_heldall (S := fun W => Below w6.heap.size w6 W) 31 (by kernel_rfl) rfl (Below.drew (Below.refl _ _)) (fun hHeld => ?_)
  refine takeL (i := 0) (v := ?_) rfl (by kernel_rfl) (by kernel_rfl) (by kernel_rfl) (fun _ _ _ h => h) ⟨by rfl, ?_⟩ (by first | assumption | trivial) ?_
  rotate_left
  · intro W9 hSw
    (try dsimp only at hSw)
    go_simp
    try with_reducible rfl
  (try simp only [Act.put, List.setIfInBounds_toArray, List.set_cons_zero, List.set_cons_succ])
  refine takeL (i := 3) (v := ?_) rfl (by kernel_rfl) (by kernel_rfl) (by kernel_rfl) (fun _ _ _ h => h) ⟨by rfl, ?_⟩ (by first | assumption | trivial) ?_
  rotate_left
  · intro W9 hSw
    (try dsimp only at hSw)
    go_simp
    try with_reducible rfl
  (try simp only [Act.put, List.setIfInBounds_toArray, List.set_cons_zero, List.set_cons_succ])
  have SB := Lib.hid hHeld
  clear hHeld
  generalize w6.drew = Y at *
  refine wpAnyH_ready (rs := [1]) (by kernel_rfl) (by simp) ?_
  refine consL rfl (by rfl) (fun K hK => ?_) ?_
  · go_simp
    have hal : Below Y.heap.size Y (Y.alloc (.cells #[.int .i64 1] 3)) := (Below.refl _ _).alloc (Nat.le_refl _) _
    have RK : Hid (Rd (Y.alloc (.cells #[.int .i64 1] 3)) (Y.alloc (.cells #[.int .i64 1] 3)).heap.size (some ⟨Y.heap.size, 0, none⟩) (nv [1])) := Lib.hid (rd_frC Y #[.int .i64 1] 3 (0, 0))
    have SBa' := SB.out.trans (hal.mono SB.out.size)
    refine hK.out _ _ SBa' (fun _ => ?_)
    clear hK K
    have SBa := Lib.hid SBa'
    clear hal SBa' SB
    (try simp only [Act.put, List.setIfInBounds_toArray, List.set_cons_zero, List.set_cons_succ])
    generalize Y.alloc (.cells #[.int .i64 1] 3) = wa at *
    generalize Y.heap.size = bk at *
    refine wpAnyH_ready (rs := [2]) (by kernel_rfl) (by simp) ?_
    refine consL rfl (by rfl) (fun K hK => ?_) ?_
    · go_simp
      refine (fold_nm (some ⟨b1, 0, none⟩) 3 3 exE rfl (by omega) (some ⟨bk, 0, none⟩) 1 1 [1] rfl (by omega) false _ 3 rfl nm_f1 wa ((R6.out.below SBa.out).more SBa.out.size) RK.out).mono ?_
      rintro e wb ⟨Ab, cb, rfl, rb, hb⟩
      have SBb' := SBa.out.trans (hb.mono SBa.out.size)
      refine hK.out _ _ SBb' (fun _ => ?_)
      clear hK K
      have RB := Lib.hid rb
      have SBb := Lib.hid SBb'
      clear hb SBb' SBa rb RK
      (try simp only [Act.put, List.setIfInBounds_toArray, List.set_cons_zero, List.set_cons_succ])
      refine wpAnyH_ready (rs := [4]) (by kernel_rfl) (by simp) ?_
      refine consL rfl (by rfl) (fun K hK => ?_) ?_
      · go_simp
        refine (same_nm _ _ 3 _ _ exE rfl (by omega) wb RB.out ((R6.out.below SBb.out).more SBb.out.size)).mono ?_
        rintro e wc ⟨rfl, hb⟩
        have SBc' := SBb.out.trans (hb.mono SBb.out.size)
        refine hK.out _ _ SBc' (fun _ => ?_)
        clear hK K
        have SBc := Lib.hid SBc'
        clear hb SBc' SBb RB
        (try simp only [Act.put, List.setIfInBounds_toArray, List.set_cons_zero, List.set_cons_succ])
        refine takeL (i := 5) (v := ?_) rfl (by kernel_rfl) (by kernel_rfl) (by kernel_rfl) (fun _ _ _ h => h) ⟨by rfl, ?_⟩ (by first | assumption | trivial) ?_
        rotate_left
        · intro W9 hSw
          (try dsimp only at hSw)
          go_simp
          try with_reducible rfl
        (try simp only [Act.put, List.setIfInBounds_toArray, List.set_cons_zero, List.set_cons_succ])
        refine takeL (i := 6) (v := ?_) rfl (by kernel_rfl) (by kernel_rfl) (by kernel_rfl) (fun _ _ _ h => h) ⟨by rfl, ?_⟩ (by first | assumption | trivial) ?_
        rotate_left
        · intro W9 hSw
          (try dsimp only at hSw)
          go_simp
          try with_reducible rfl
        (try simp only [Act.put, List.setIfInBounds_toArray, List.set_cons_zero, List.set_cons_succ])
        refine takeL (i := 8) (v := ?_) rfl (by kernel_rfl) (by kernel_rfl) (by kernel_rfl) (fun _ _ _ h => h) ⟨by rfl, ?_⟩ (by first | assumption | trivial) ?_
        rotate_left
        · intro W9 hSw
          (try dsimp only at hSw)
          go_simp
          try with_reducible rfl
        (try simp only [Act.put, List.setIfInBounds_toArray, List.set_cons_zero, List.set_cons_succ])
        refine takeL (i := 9) (v := ?_) rfl (by kernel_rfl) (by kernel_rfl) (by kernel_rfl) (fun _ _ _ h => h) ⟨by rfl, ?_⟩ (by first | assumption | trivial) ?_
        rotate_left
        · intro W9 hSw
          (try dsimp only at hSw)
          go_simp
          try with_reducible rfl
        (try simp only [Act.put, List.setIfInBounds_toArray, List.set_cons_zero, List.set_cons_succ])
        refine takeL (i := 10) (v := ?_) rfl (by kernel_rfl) (by kernel_rfl) (by kernel_rfl) (fun _ _ _ h => h) ⟨by rfl, ?_⟩ (by first | assumption | trivial) ?_
        rotate_left
        · intro W9 hSw
          (try dsimp only at hSw)
          (obtain ⟨b5, off5, e5, hb5, hce⟩ := en_at ((R6.out.below hSw).more hSw.size) (show exE[0]? = some _ from rfl); injection e5 with e5; injection e5 with e6 e7; subst e6 e7; obtain ⟨y0, y1, y2, y3⟩ := hce)
          go_simp
          try with_reducible rfl
        (try simp only [Act.put, List.setIfInBounds_toArray, List.set_cons_zero, List.set_cons_succ])
        refine takeL (i := 11) (v := ?_) rfl (by kernel_rfl) (by kernel_rfl) (by kernel_rfl) (fun _ _ _ h => h) ⟨by rfl, ?_⟩ (by first | assumption | trivial) ?_
        rotate_left
        · intro W9 hSw
          (try dsimp only at hSw)
          go_simp
          try with_reducible rfl
        (try simp only [Act.put, List.setIfInBounds_toArray, List.set_cons_zero, List.set_cons_succ])
        refine takeL (i := 12) (v := ?_) rfl (by kernel_rfl) (by kernel_rfl) (by kernel_rfl) (fun _ _ _ h => h) ⟨by rfl, ?_⟩ (by first | assumption | trivial) ?_
        rotate_left
        · intro W9 hSw
          (try dsimp only at hSw)
          go_simp
          try with_reducible rfl
        (try simp only [Act.put, List.setIfInBounds_toArray, List.set_cons_zero, List.set_cons_succ])
        refine takeL (i := 13) (v := ?_) rfl (by kernel_rfl) (by kernel_rfl) (by kernel_rfl) (fun _ _ _ h => h) ⟨by rfl, ?_⟩ (by first | assumption | trivial) ?_
        rotate_left
        · intro W9 hSw
          (try dsimp only at hSw)
          (obtain ⟨b5, off5, e5, hb5, hce⟩ := en_at ((R6.out.below hSw).more hSw.size) (show exE[2]? = some _ from rfl); injection e5 with e5; injection e5 with e6 e7; subst e6 e7; obtain ⟨y0, y1, y2, y3⟩ := hce)
          go_simp
          try with_reducible rfl
        (try simp only [Act.put, List.setIfInBounds_toArray, List.set_cons_zero, List.set_cons_succ])
        refine wpAnyH_ready (rs := [7, 14]) (by kernel_rfl) (by simp) ?_
        refine consL rfl (by rfl) (fun K hK => ?_) ?_
        · go_simp
          refine (fold_nm (some ⟨b1, 0, none⟩) 3 3 exE rfl (by omega) none 0 0 [] rfl (by omega) true _ 2 rfl nm_f2 wc ((R6.out.below SBc.out).more SBc.out.size) Rd.nil).mono ?_
          rintro e wd ⟨Ad, cd, rfl, rd, hb⟩
          have SBd' := SBc.out.trans (hb.mono SBc.out.size)
          refine hK.out _ _ SBd' (fun _ => ?_)
          clear hK K
          have RE := Lib.hid rd
          have SBd := Lib.hid SBd'
          clear hb SBd' SBc rd
          (try simp only [Act.put, List.setIfInBounds_toArray, List.set_cons_zero, List.set_cons_succ])
          refine wpAnyH_ready (rs := [14]) (by kernel_rfl) (by simp) ?_
          refine consL rfl (by rfl) (fun K hK => ?_) ?_
          · go_simp
            have hal : Below wd.heap.size wd (wd.alloc (.cells (env m2E).toArray 43)) := (Below.refl _ _).alloc (Nat.le_refl _) _
            have RN := Lib.hid (rd_frC wd (env m2E).toArray 43 (0, 0))
            have RE2 := Lib.hid ((RE.out.below hal).more hal.size)
            have SBe' := SBd.out.trans (hal.mono SBd.out.size)
            refine hK.out _ _ SBe' (fun _ => ?_)
            clear hK K
            have SBe := Lib.hid SBe'
            clear hal SBe' SBd RE
            (try simp only [Act.put, List.setIfInBounds_toArray, List.set_cons_zero, List.set_cons_succ])
            change wpAnyH _ _ _ _ _ _ _ _ (wd.alloc (.cells (env m2E).toArray 43))
            generalize wd.alloc (.cells (env m2E).toArray 43) = we at *
            generalize wd.heap.size = be at *
            refine wpAnyH_ready (rs := [15]) (by kernel_rfl) (by simp) ?_
            refine consL rfl (by rfl) (fun K hK => ?_) ?_
            · go_simp
              refine (same_nm Ad (some ⟨be, 0, none⟩) 2 _ _ m2E rfl (by omega) we RE2.out RN.out).mono ?_
              rintro e wv ⟨rfl, hb⟩
              have SBv' := SBe.out.trans (hb.mono SBe.out.size)
              refine hK.out _ _ SBv' (fun _ => ?_)
              clear hK K
              have SBv := Lib.hid SBv'
              clear hb SBv'
              (try simp only [Act.put, List.setIfInBounds_toArray, List.set_cons_zero, List.set_cons_succ])
              refine takeL (i := 16) (v := ?_) rfl (by kernel_rfl) (by kernel_rfl) (by kernel_rfl) (fun _ _ _ h => h) ⟨by rfl, ?_⟩ (by first | assumption | trivial) ?_
              rotate_left
              · intro W9 hSw
                (try dsimp only at hSw)
                go_simp
                try with_reducible rfl
              (try simp only [Act.put, List.setIfInBounds_toArray, List.set_cons_zero, List.set_cons_succ])
              refine takeL (i := 17) (v := ?_) rfl (by kernel_rfl) (by kernel_rfl) (by kernel_rfl) (fun _ _ _ h => h) ⟨by rfl, ?_⟩ (by first | assumption | trivial) ?_
              rotate_left
              · intro W9 hSw
                (try dsimp only at hSw)
                go_simp
                try with_reducible rfl
              (try simp only [Act.put, List.setIfInBounds_toArray, List.set_cons_zero, List.set_cons_succ])
              refine takeL (i := 18) (v := ?_) rfl (by kernel_rfl) (by kernel_rfl) (by kernel_rfl) (fun _ _ _ h => h) ⟨by rfl, ?_⟩ (by first | assumption | trivial) ?_
              rotate_left
              · intro W9 hSw
                (try dsimp only at hSw)
                go_simp
                try with_reducible rfl
              (try simp only [Act.put, List.setIfInBounds_toArray, List.set_cons_zero, List.set_cons_succ])
              refine takeL (i := 20) (v := ?_) rfl (by kernel_rfl) (by kernel_rfl) (by kernel_rfl) (fun _ _ _ h => h) ⟨by rfl, ?_⟩ (by first | assumption | trivial) ?_
              rotate_left
              · intro W9 hSw
                (try dsimp only at hSw)
                go_simp
                try with_reducible rfl
              (try simp only [Act.put, List.setIfInBounds_toArray, List.set_cons_zero, List.set_cons_succ])
              refine takeL (i := 21) (v := ?_) rfl (by kernel_rfl) (by kernel_rfl) (by kernel_rfl) (fun _ _ _ h => h) ⟨by rfl, ?_⟩ (by first | assumption | trivial) ?_
              rotate_left
              · intro W9 hSw
                (try dsimp only at hSw)
                go_simp
                try with_reducible rfl
              (try simp only [Act.put, List.setIfInBounds_toArray, List.set_cons_zero, List.set_cons_succ])
              refine wpAnyH_ready (rs := [19]) (by kernel_rfl) (by simp) ?_
              refine consL rfl (by rfl) (fun K hK => ?_) ?_
              · go_simp
                refine (fold_nm (some ⟨bd, 0, none⟩) 2 2 ddE rfl (by omega) none 0 0 [] rfl (by omega) false _ 1 rfl nm_f3 wv ((RD6.out.below SBv.out).more SBv.out.size) Rd.nil).mono ?_
                rintro e wx ⟨Af, cf, rfl, rf, hb⟩
                have SBx' := SBv.out.trans (hb.mono SBv.out.size)
                refine hK.out _ _ SBx' (fun _ => ?_)
                clear hK K
                have RF := Lib.hid rf
                have SBx := Lib.hid SBx'
                clear hb SBx' SBv rf
                (try simp only [Act.put, List.setIfInBounds_toArray, List.set_cons_zero, List.set_cons_succ])
                refine wpAnyH_ready (rs := [22]) (by kernel_rfl) (by simp) ?_
                refine consL rfl (by rfl) (fun K hK => ?_) ?_
                · go_simp
                  refine (same_nm _ _ 1 _ _ [⟨{ data := #[97] }, zB, 5, true⟩] rfl (by omega) wx RF.out (by have h := ((RD6.out.below SBx.out).more SBx.out.size).take 4; exact h)).mono ?_
                  rintro e wy ⟨rfl, hb⟩
                  have SBy' := SBx.out.trans (hb.mono SBx.out.size)
                  refine hK.out _ _ SBy' (fun _ => ?_)
                  clear hK K
                  have SBy := Lib.hid SBy'
                  clear hb SBy' SBx RF
                  (try simp only [Act.put, List.setIfInBounds_toArray, List.set_cons_zero, List.set_cons_succ])
                  refine takeL (i := 23) (v := ?_) rfl (by kernel_rfl) (by kernel_rfl) (by kernel_rfl) (fun _ _ _ h => h) ⟨by rfl, ?_⟩ (by first | assumption | trivial) ?_
                  rotate_left
                  · intro W9 hSw
                    (try dsimp only at hSw)
                    go_simp
                    try with_reducible rfl
                  (try simp only [Act.put, List.setIfInBounds_toArray, List.set_cons_zero, List.set_cons_succ])
                  refine takeL (i := 24) (v := ?_) rfl (by kernel_rfl) (by kernel_rfl) (by kernel_rfl) (fun _ _ _ h => h) ⟨by rfl, ?_⟩ (by first | assumption | trivial) ?_
                  rotate_left
                  · intro W9 hSw
                    (try dsimp only at hSw)
                    go_simp
                    try with_reducible rfl
                  (try simp only [Act.put, List.setIfInBounds_toArray, List.set_cons_zero, List.set_cons_succ])
                  refine takeL (i := 25) (v := ?_) rfl (by kernel_rfl) (by kernel_rfl) (by kernel_rfl) (fun _ _ _ h => h) ⟨by rfl, ?_⟩ (by first | assumption | trivial) ?_
                  rotate_left
                  · intro W9 hSw
                    (try dsimp only at hSw)
                    go_simp
                    try with_reducible rfl
                  (try simp only [Act.put, List.setIfInBounds_toArray, List.set_cons_zero, List.set_cons_succ])
                  refine wpAnyH_ready (rs := [26]) (by kernel_rfl) (by simp) ?_
                  refine consL rfl (by rfl) (fun K hK => ?_) ?_
                  · go_simp
                    refine (fold_nm (some ⟨bd, 0, none⟩) 2 2 ddE rfl (by omega) none 0 0 [] rfl (by omega) true _ 0 rfl nm_f4 wy ((RD6.out.below SBy.out).more SBy.out.size) Rd.nil).mono ?_
                    rintro e wz ⟨Ag, cg, rfl, -, hb⟩
                    have SBz' := SBy.out.trans (hb.mono SBy.out.size)
                    refine hK.out _ _ SBz' (fun _ => ?_)
                    clear hK K
                    have SBz := Lib.hid SBz'
                    clear hb SBz' SBy
                    (try simp only [Act.put, List.setIfInBounds_toArray, List.set_cons_zero, List.set_cons_succ])
                    refine takeL (i := 27) (v := ?_) rfl (by kernel_rfl) (by kernel_rfl) (by kernel_rfl) (fun _ _ _ h => h) ⟨by rfl, ?_⟩ (by first | assumption | trivial) ?_
                    rotate_left
                    · intro W9 hSw
                      (try dsimp only at hSw)
                      go_simp
                      try with_reducible rfl
                    (try simp only [Act.put, List.setIfInBounds_toArray, List.set_cons_zero, List.set_cons_succ])
                    refine takeL (i := 28) (v := ?_) rfl (by kernel_rfl) (by kernel_rfl) (by kernel_rfl) (fun _ _ _ h => h) ⟨by rfl, ?_⟩ (by first | assumption | trivial) ?_
                    rotate_left
                    · intro W9 hSw
                      (try dsimp only at hSw)
                      go_simp
                      try with_reducible rfl
                    (try simp only [Act.put, List.setIfInBounds_toArray, List.set_cons_zero, List.set_cons_succ])
                    refine takeL (i := 29) (v := ?_) rfl (by kernel_rfl) (by kernel_rfl) (by kernel_rfl) (fun _ _ _ h => h) ⟨by rfl, ?_⟩ (by first | assumption | trivial) ?_
                    rotate_left
                    · intro W9 hSw
                      (try dsimp only at hSw)
                      go_simp
                      try with_reducible rfl
                    (try simp only [Act.put, List.setIfInBounds_toArray, List.set_cons_zero, List.set_cons_succ])
                    refine takeL (i := 30) (v := ?_) rfl (by kernel_rfl) (by kernel_rfl) (by kernel_rfl) (fun _ _ _ h => h) ⟨by rfl, ?_⟩ (by first | assumption | trivial) ?_
                    rotate_left
                    · intro W9 hSw
                      (try dsimp only at hSw)
                      go_simp
                      try with_reducible rfl
                    (try simp only [Act.put, List.setIfInBounds_toArray, List.set_cons_zero, List.set_cons_succ])
                    refine wpAnyH_done (by kernel_rfl) ?_ _
                    have B7 := Lib.hid (B6.out.trans (SBz.out.mono B6.out.size))
                    have R7 := Lib.hid ((R6.out.below SBz.out).more SBz.out.size)
                    have X7 := Lib.hid (X6.out.next SBz.out)
                    clear B6 R6 X6 RD6 SBz
                    obtain ⟨w7, rfl⟩ : ∃ x, x = wz := ⟨_, rfl⟩
                    go_wp2_with fail
                    refine (check7_any none 0 0 [] rfl (by omega) (by simp) w7.heap.size w7 Rd.nil (Nat.le_refl _)).mono ?_
                    rintro e w8 ⟨rfl, hb⟩
                    rw [nm_c1]
                    have B8 := Lib.hid (B7.out.trans (hb.mono B7.out.size))
                    have R8 := Lib.hid ((R7.out.below hb).more hb.size)
                    have X8 := Lib.hid (X7.out.next hb)
                    clear hb B7 R7 X7
                    go_wp2_with fail
                    have hb : Below w8.heap.size w8 (w8.alloc (.cells (env bxE).toArray 43)) := (Below.refl _ _).alloc (Nat.le_refl _) _
                    have RN := Lib.hid (rd_frC w8 (env bxE).toArray 43 (0, 0))
                    change Calls _ _ _ (w8.alloc (.cells (env bxE).toArray 43)) _
                    generalize w8.alloc (.cells (env bxE).toArray 43) = w9 at *
                    have B9 := Lib.hid (B8.out.trans (hb.mono B8.out.size))
                    have R9 := Lib.hid ((R8.out.below hb).more hb.size)
                    have X9 := Lib.hid (X8.out.next hb)
                    clear hb B8 R8 X8
                    refine (check7_any (some ⟨w8.heap.size, 0, none⟩) 2 2 bxE rfl (by omega) (by decide) w9.heap.size w9 RN.out (Nat.le_refl _)).mono ?_
                    rintro e w10 ⟨rfl, hb⟩
                    rw [nm_c2]
                    have B10 := Lib.hid (B9.out.trans (hb.mono B9.out.size))
                    have R10 := Lib.hid ((R9.out.below hb).more hb.size)
                    have X10 := Lib.hid (X9.out.next hb)
                    clear hb B9 R9 X9 RN
                    obtain ⟨w11, hmk, own11, gr11⟩ := run_mk styE w10 w10.heap.size 65 (by omega) (by unfold maxLen; omega) (Nat.le_refl _)
                    rw [zEnv65] at own11
                    have hmk2 : (Instr.makeSlice 22 (.int .i64 65) (.int .i64 65)).run Try.prog w10 = .ok (.slice (some ⟨w10.heap.size, 0, none⟩) 65 65) w11 := hmk
                    clear hmk
                    have hb : Below w10.heap.size w10 w11 := (Below.refl _ _).grown gr11 (Nat.le_refl _) (by simp)
                    have O11 := Lib.hid own11
                    have B11 := Lib.hid (B10.out.trans (hb.mono B10.out.size))
                    have R11 := Lib.hid ((R10.out.below hb).more hb.size)
                    have X11 := Lib.hid (X10.out.next hb)
                    clear hb B10 R10 X10 own11 gr11
                    go_wp2_with fail
                    clear hmk2
                    refine (check7_any (some ⟨w10.heap.size, 0, none⟩) 65 65 (List.replicate 65 Ent.z) (by rw [List.length_replicate]) (by omega) (fun y hy => by rw [(List.mem_replicate.1 hy).2]; decide) w11.heap.size w11 (own_rdL O11.out) (Nat.le_refl _)).mono ?_
                    rintro e w12 ⟨rfl, hb⟩
                    rw [nm_c3]
                    have B12 := Lib.hid (B11.out.trans (hb.mono B11.out.size))
                    have R12 := Lib.hid ((R11.out.below hb).more hb.size)
                    have X12 := Lib.hid (X11.out.next hb)
                    clear hb B11 R11 X11 O11
                    have x0 := X12.out.c 0 _ rfl
                    have x1 := X12.out.c 1 _ rfl
                    have x2 := X12.out.c 2 _ rfl
                    have x3 := X12.out.c 3 _ rfl
                    have xl := X12.out.lt
                    obtain ⟨b5, off5, e5, hb5, hce⟩ := en_at R12.out (show exE[1]? = some _ from rfl)
                    injection e5 with e5
                    injection e5 with e6 e7
                    subst e6 e7
                    have y0 := hce.c0
                    have y1 := hce.c1
                    have y2 := hce.c2
                    have y3 := hce.c3
                    dsimp only [zB] at y0 y1 y2 y3
                    clear hce X12 R12
                    go_wp2_with fail
                    refine wp_qall (by kernel_rfl) (by kernel_rfl) ?_
                    intro hcg
                    repeat (first | go_big_quiet_step ((with_reducible (exact Calls.reg (lives07_any _)))) | quiet_step ((with_reducible (exact Calls.reg (lives07_any _)))))
                    refine wpQuiet_nil ?_
                    intro wq hbwq hcwq hfwq
                    clear hcg
                    have BF := Lib.hid (B12.out.trans (hbwq.mono B12.out.size))
                    clear hbwq hcwq hfwq
                    go_wp2_with fail
                    go_ret
                    exact ⟨rfl, BF.out⟩
                  · exact AllReadyH.nil
                · exact AllReadyH.nil
              · exact AllReadyH.nil
            · exact AllReadyH.nil
          · exact AllReadyH.nil
        refine consL rfl (by rfl) (fun K hK => ?_) ?_
        · go_simp
          have hal : Below wc.heap.size wc (wc.alloc (.cells (env m2E).toArray 43)) := (Below.refl _ _).alloc (Nat.le_refl _) _
          have RN := Lib.hid (rd_frC wc (env m2E).toArray 43 (0, 0))
          have SBd' := SBc.out.trans (hal.mono SBc.out.size)
          refine hK.out _ _ SBd' (fun _ => ?_)
          clear hK K
          have SBd := Lib.hid SBd'
          clear hal SBd' SBc
          (try simp only [Act.put, List.setIfInBounds_toArray, List.set_cons_zero, List.set_cons_succ])
          change wpAnyH _ _ _ _ _ _ _ _ (wc.alloc (.cells (env m2E).toArray 43))
          generalize wc.alloc (.cells (env m2E).toArray 43) = wd at *
          generalize wc.heap.size = be at *
          refine wpAnyH_ready (rs := [7]) (by kernel_rfl) (by simp) ?_
          refine consL rfl (by rfl) (fun K hK => ?_) ?_
          · go_simp
            refine (fold_nm (some ⟨b1, 0, none⟩) 3 3 exE rfl (by omega) none 0 0 [] rfl (by omega) true _ 2 rfl nm_f2 wd ((R6.out.below SBd.out).more SBd.out.size) Rd.nil).mono ?_
            rintro e we ⟨Ad, cd, rfl, rd, hb⟩
            have SBe' := SBd.out.trans (hb.mono SBd.out.size)
            refine hK.out _ _ SBe' (fun _ => ?_)
            clear hK K
            have RE := Lib.hid rd
            have RN2 := Lib.hid ((RN.out.below hb).more hb.size)
            have SBe := Lib.hid SBe'
            clear hb SBe' SBd rd RN
            (try simp only [Act.put, List.setIfInBounds_toArray, List.set_cons_zero, List.set_cons_succ])
            refine wpAnyH_ready (rs := [15]) (by kernel_rfl) (by simp) ?_
            refine consL rfl (by rfl) (fun K hK => ?_) ?_
            · go_simp
              refine (same_nm Ad (some ⟨be, 0, none⟩) 2 _ _ m2E rfl (by omega) we RE.out RN2.out).mono ?_
              rintro e wv ⟨rfl, hb⟩
              have SBv' := SBe.out.trans (hb.mono SBe.out.size)
              refine hK.out _ _ SBv' (fun _ => ?_)
              clear hK K
              have SBv := Lib.hid SBv'
              clear hb SBv'
              (try simp only [Act.put, List.setIfInBounds_toArray, List.set_cons_zero, List.set_cons_succ])
              refine takeL (i := 16) (v := ?_) rfl (by kernel_rfl) (by kernel_rfl) (by kernel_rfl) (fun _ _ _ h => h) ⟨by rfl, ?_⟩ (by first | assumption | trivial) ?_
              rotate_left
              · intro W9 hSw
                (try dsimp only at hSw)
                go_simp
                try with_reducible rfl
              (try simp only [Act.put, List.setIfInBounds_toArray, List.set_cons_zero, List.set_cons_succ])
              refine takeL (i := 17) (v := ?_) rfl (by kernel_rfl) (by kernel_rfl) (by kernel_rfl) (fun _ _ _ h => h) ⟨by rfl, ?_⟩ (by first | assumption | trivial) ?_
              rotate_left
              · intro W9 hSw
                (try dsimp only at hSw)
                go_simp
                try with_reducible rfl
              (try simp only [Act.put, List.setIfInBounds_toArray, List.set_cons_zero, List.set_cons_succ])
              refine takeL (i := 18) (v := ?_) rfl (by kernel_rfl) (by kernel_rfl) (by kernel_rfl) (fun _ _ _ h => h) ⟨by rfl, ?_⟩ (by first | assumption | trivial) ?_
              rotate_left
              · intro W9 hSw
                (try dsimp only at hSw)
                go_simp
                try with_reducible rfl
              (try simp only [Act.put, List.setIfInBounds_toArray, List.set_cons_zero, List.set_cons_succ])
              refine takeL (i := 20) (v := ?_) rfl (by kernel_rfl) (by kernel_rfl) (by kernel_rfl) (fun _ _ _ h => h) ⟨by rfl, ?_⟩ (by first | assumption | trivial) ?_
              rotate_left
              · intro W9 hSw
                (try dsimp only at hSw)
                go_simp
                try with_reducible rfl
              (try simp only [Act.put, List.setIfInBounds_toArray, List.set_cons_zero, List.set_cons_succ])
              refine takeL (i := 21) (v := ?_) rfl (by kernel_rfl) (by kernel_rfl) (by kernel_rfl) (fun _ _ _ h => h) ⟨by rfl, ?_⟩ (by first | assumption | trivial) ?_
              rotate_left
              · intro W9 hSw
                (try dsimp only at hSw)
                go_simp
                try with_reducible rfl
              (try simp only [Act.put, List.setIfInBounds_toArray, List.set_cons_zero, List.set_cons_succ])
              refine wpAnyH_ready (rs := [19]) (by kernel_rfl) (by simp) ?_
              refine consL rfl (by rfl) (fun K hK => ?_) ?_
              · go_simp
                refine (fold_nm (some ⟨bd, 0, none⟩) 2 2 ddE rfl (by omega) none 0 0 [] rfl (by omega) false _ 1 rfl nm_f3 wv ((RD6.out.below SBv.out).more SBv.out.size) Rd.nil).mono ?_
                rintro e wx ⟨Af, cf, rfl, rf, hb⟩
                have SBx' := SBv.out.trans (hb.mono SBv.out.size)
                refine hK.out _ _ SBx' (fun _ => ?_)
                clear hK K
                have RF := Lib.hid rf
                have SBx := Lib.hid SBx'
                clear hb SBx' SBv rf
                (try simp only [Act.put, List.setIfInBounds_toArray, List.set_cons_zero, List.set_cons_succ])
                refine wpAnyH_ready (rs := [22]) (by kernel_rfl) (by simp) ?_
                refine consL rfl (by rfl) (fun K hK => ?_) ?_
                · go_simp
                  refine (same_nm _ _ 1 _ _ [⟨{ data := #[97] }, zB, 5, true⟩] rfl (by omega) wx RF.out (by have h := ((RD6.out.below SBx.out).more SBx.out.size).take 4; exact h)).mono ?_
                  rintro e wy ⟨rfl, hb⟩
                  have SBy' := SBx.out.trans (hb.mono SBx.out.size)
                  refine hK.out _ _ SBy' (fun _ => ?_)
                  clear hK K
                  have SBy := Lib.hid SBy'
                  clear hb SBy' SBx RF
                  (try simp only [Act.put, List.setIfInBounds_toArray, List.set_cons_zero, List.set_cons_succ])
                  refine takeL (i := 23) (v := ?_) rfl (by kernel_rfl) (by kernel_rfl) (by kernel_rfl) (fun _ _ _ h => h) ⟨by rfl, ?_⟩ (by first | assumption | trivial) ?_
                  rotate_left
                  · intro W9 hSw
                    (try dsimp only at hSw)
                    go_simp
                    try with_reducible rfl
                  (try simp only [Act.put, List.setIfInBounds_toArray, List.set_cons_zero, List.set_cons_succ])
                  refine takeL (i := 24) (v := ?_) rfl (by kernel_rfl) (by kernel_rfl) (by kernel_rfl) (fun _ _ _ h => h) ⟨by rfl, ?_⟩ (by first | assumption | trivial) ?_
                  rotate_left
                  · intro W9 hSw
                    (try dsimp only at hSw)
                    go_simp
                    try with_reducible rfl
                  (try simp only [Act.put, List.setIfInBounds_toArray, List.set_cons_zero, List.set_cons_succ])
                  refine takeL (i := 25) (v := ?_) rfl (by kernel_rfl) (by kernel_rfl) (by kernel_rfl) (fun _ _ _ h => h) ⟨by rfl, ?_⟩ (by first | assumption | trivial) ?_
                  rotate_left
                  · intro W9 hSw
                    (try dsimp only at hSw)
                    go_simp
                    try with_reducible rfl
                  (try simp only [Act.put, List.setIfInBounds_toArray, List.set_cons_zero, List.set_cons_succ])
                  refine wpAnyH_ready (rs := [26]) (by kernel_rfl) (by simp) ?_
                  refine consL rfl (by rfl) (fun K hK => ?_) ?_
                  · go_simp
                    refine (fold_nm (some ⟨bd, 0, none⟩) 2 2 ddE rfl (by omega) none 0 0 [] rfl (by omega) true _ 0 rfl nm_f4 wy ((RD6.out.below SBy.out).more SBy.out.size) Rd.nil).mono ?_
                    rintro e wz ⟨Ag, cg, rfl, -, hb⟩
                    have SBz' := SBy.out.trans (hb.mono SBy.out.size)
                    refine hK.out _ _ SBz' (fun _ => ?_)
                    clear hK K
                    have SBz := Lib.hid SBz'
                    clear hb SBz' SBy
                    (try simp only [Act.put, List.setIfInBounds_toArray, List.set_cons_zero, List.set_cons_succ])
                    refine takeL (i := 27) (v := ?_) rfl (by kernel_rfl) (by kernel_rfl) (by kernel_rfl) (fun _ _ _ h => h) ⟨by rfl, ?_⟩ (by first | assumption | trivial) ?_
                    rotate_left
                    · intro W9 hSw
                      (try dsimp only at hSw)
                      go_simp
                      try with_reducible rfl
                    (try simp only [Act.put, List.setIfInBounds_toArray, List.set_cons_zero, List.set_cons_succ])
                    refine takeL (i := 28) (v := ?_) rfl (by kernel_rfl) (by kernel_rfl) (by kernel_rfl) (fun _ _ _ h => h) ⟨by rfl, ?_⟩ (by first | assumption | trivial) ?_
                    rotate_left
                    · intro W9 hSw
                      (try dsimp only at hSw)
                      go_simp
                      try with_reducible rfl
                    (try simp only [Act.put, List.setIfInBounds_toArray, List.set_cons_zero, List.set_cons_succ])
                    refine takeL (i := 29) (v := ?_) rfl (by kernel_rfl) (by kernel_rfl) (by kernel_rfl) (fun _ _ _ h => h) ⟨by rfl, ?_⟩ (by first | assumption | trivial) ?_
                    rotate_left
                    · intro W9 hSw
                      (try dsimp only at hSw)
                      go_simp
                      try with_reducible rfl
                    (try simp only [Act.put, List.setIfInBounds_toArray, List.set_cons_zero, List.set_cons_succ])
                    refine takeL (i := 30) (v := ?_) rfl (by kernel_rfl) (by kernel_rfl) (by kernel_rfl) (fun _ _ _ h => h) ⟨by rfl, ?_⟩ (by first | assumption | trivial) ?_
                    rotate_left
                    · intro W9 hSw
                      (try dsimp only at hSw)
                      go_simp
                      try with_reducible rfl
                    (try simp only [Act.put, List.setIfInBounds_toArray, List.set_cons_zero, List.set_cons_succ])
                    refine wpAnyH_done (by kernel_rfl) ?_ _
                    have B7 := Lib.hid (B6.out.trans (SBz.out.mono B6.out.size))
                    have R7 := Lib.hid ((R6.out.below SBz.out).more SBz.out.size)
                    have X7 := Lib.hid (X6.out.next SBz.out)
                    clear B6 R6 X6 RD6 SBz
                    obtain ⟨w7, rfl⟩ : ∃ x, x = wz := ⟨_, rfl⟩
                    go_wp2_with fail
                    refine (check7_any none 0 0 [] rfl (by omega) (by simp) w7.heap.size w7 Rd.nil (Nat.le_refl _)).mono ?_
                    rintro e w8 ⟨rfl, hb⟩
                    rw [nm_c1]
                    have B8 := Lib.hid (B7.out.trans (hb.mono B7.out.size))
                    have R8 := Lib.hid ((R7.out.below hb).more hb.size)
                    have X8 := Lib.hid (X7.out.next hb)
                    clear hb B7 R7 X7
                    go_wp2_with fail
                    have hb : Below w8.heap.size w8 (w8.alloc (.cells (env bxE).toArray 43)) := (Below.refl _ _).alloc (Nat.le_refl _) _
                    have RN := Lib.hid (rd_frC w8 (env bxE).toArray 43 (0, 0))
                    change Calls _ _ _ (w8.alloc (.cells (env bxE).toArray 43)) _
                    generalize w8.alloc (.cells (env bxE).toArray 43) = w9 at *
                    have B9 := Lib.hid (B8.out.trans (hb.mono B8.out.size))
                    have R9 := Lib.hid ((R8.out.below hb).more hb.size)
                    have X9 := Lib.hid (X8.out.next hb)
                    clear hb B8 R8 X8
                    refine (check7_any (some ⟨w8.heap.size, 0, none⟩) 2 2 bxE rfl (by omega) (by decide) w9.heap.size w9 RN.out (Nat.le_refl _)).mono ?_
                    rintro e w10 ⟨rfl, hb⟩
                    rw [nm_c2]
                    have B10 := Lib.hid (B9.out.trans (hb.mono B9.out.size))
                    have R10 := Lib.hid ((R9.out.below hb).more hb.size)
                    have X10 := Lib.hid (X9.out.next hb)
                    clear hb B9 R9 X9 RN
                    obtain ⟨w11, hmk, own11, gr11⟩ := run_mk styE w10 w10.heap.size 65 (by omega) (by unfold maxLen; omega) (Nat.le_refl _)
                    rw [zEnv65] at own11
                    have hmk2 : (Instr.makeSlice 22 (.int .i64 65) (.int .i64 65)).run Try.prog w10 = .ok (.slice (some ⟨w10.heap.size, 0, none⟩) 65 65) w11 := hmk
                    clear hmk
                    have hb : Below w10.heap.size w10 w11 := (Below.refl _ _).grown gr11 (Nat.le_refl _) (by simp)
                    have O11 := Lib.hid own11
                    have B11 := Lib.hid (B10.out.trans (hb.mono B10.out.size))
                    have R11 := Lib.hid ((R10.out.below hb).more hb.size)
                    have X11 := Lib.hid (X10.out.next hb)
                    clear hb B10 R10 X10 own11 gr11
                    go_wp2_with fail
                    clear hmk2
                    refine (check7_any (some ⟨w10.heap.size, 0, none⟩) 65 65 (List.replicate 65 Ent.z) (by rw [List.length_replicate]) (by omega) (fun y hy => by rw [(List.mem_replicate.1 hy).2]; decide) w11.heap.size w11 (own_rdL O11.out) (Nat.le_refl _)).mono ?_
                    rintro e w12 ⟨rfl, hb⟩
                    rw [nm_c3]
                    have B12 := Lib.hid (B11.out.trans (hb.mono B11.out.size))
                    have R12 := Lib.hid ((R11.out.below hb).more hb.size)
                    have X12 := Lib.hid (X11.out.next hb)
                    clear hb B11 R11 X11 O11
                    have x0 := X12.out.c 0 _ rfl
                    have x1 := X12.out.c 1 _ rfl
                    have x2 := X12.out.c 2 _ rfl
                    have x3 := X12.out.c 3 _ rfl
                    have xl := X12.out.lt
                    obtain ⟨b5, off5, e5, hb5, hce⟩ := en_at R12.out (show exE[1]? = some _ from rfl)
                    injection e5 with e5
                    injection e5 with e6 e7
                    subst e6 e7
                    have y0 := hce.c0
                    have y1 := hce.c1
                    have y2 := hce.c2
                    have y3 := hce.c3
                    dsimp only [zB] at y0 y1 y2 y3
                    clear hce X12 R12
                    go_wp2_with fail
                    refine wp_qall (by kernel_rfl) (by kernel_rfl) ?_
                    intro hcg
                    repeat (first | go_big_quiet_step ((with_reducible (exact Calls.reg (lives07_any _)))) | quiet_step ((with_reducible (exact Calls.reg (lives07_any _)))))
                    refine wpQuiet_nil ?_
                    intro wq hbwq hcwq hfwq
                    clear hcg
                    have BF := Lib.hid (B12.out.trans (hbwq.mono B12.out.size))
                    clear hbwq hcwq hfwq
                    go_wp2_with fail
                    go_ret
                    exact ⟨rfl, BF.out⟩
                  · exact AllReadyH.nil
                · exact AllReadyH.nil
              · exact AllReadyH.nil
            · exact AllReadyH.nil
          · exact AllReadyH.nil
        · exact AllReadyH.nil
      · exact AllReadyH.nil
    · exact AllReadyH.nil
  · exact AllReadyH.nil
end Go.Proofs.Ytmcpjpkidcbgiaa
