/- Walk: a key's versions. -/
import Derived.Test.YtjhgbdeadkoegaaLx
import Derived.Test.YtjhgbdeadkoegaaLq
import Derived.Test.YtjhgbdeadkoegaaCut
namespace Go.St
theorem skipL {P : Program} {md : Region.Mode} {l : List Oper} {Q : Exit → Act → World → Prop} {S : World → Prop} {i : Nat} {oi : Oper} {fuel : Nat} {listed : Array Bool} {a : Act} {w : World} (hi : l[i]? = some oi)
    (hs : Region.noSelect l.toArray = true) (hf : Region.free md l.toArray listed i = true) (hr : (Region.ready md l.toArray listed).contains i = true)
    (hQ : ∀ c a w, Q (.panic c) (a.put oi.dst undef) w → Q (.panic c) a w) (hw : Region.wanted oi (yielded l.toArray a.tmps) = false) (hS : S w)
    (h : wpAnyH P md l.toArray Q S fuel (listed.setIfInBounds i true) (a.put oi.dst undef) w) : wpAnyH P md l.toArray Q S (fuel + 1) listed a w :=
  wpAnyH_take (by simpa using hi) hs hf hr hQ (.inr ⟨hw, rfl⟩) hS h
end Go.St
namespace Go.Proofs.Ytjhgbdeadkoegaa
open Go.RowKit Go.St Go.Shelf Go.Maps
set_option linter.unusedVariables false
set_option linter.unusedSimpArgs false
set_option maxRecDepth 100000

set_option maxHeartbeats 12800000 in
theorem memVersions_walk (w : World) (A : Option Addr) (n d : Nat) (l : List Ent) (hl : l.length = n) (hn : n ≤ 140737488351232) (hr : Rd w w.heap.size A (env l)) (a : AskM) (hseq : -9223372036854775808 ≤ a.seq ∧ a.seq ≤ 9223372036854775807) (mo : Int) (hmo : -9223372036854775808 ≤ mo ∧ mo ≤ 9223372036854775807) :
    Calls Try.prog 4 #[.slice A n d, .agg #[.string a.key, .int .i64 a.seq, .string a.fr, .string a.to_, .int .i64 a.lane], .int .i64 mo] w fun e w' => e = .returned (.bool true) ∧ Below w.heap.size w w' := by
  have HL := Lib.hid hl
  have HR := Lib.hid hr
  clear hl hr
  go_enter Try.func4, Try.ntmps4
  go_wp2_with fail
  have XA0 : BxV (w.alloc (.cells #[.string a.key, .int .i64 a.seq, .string a.fr, .string a.to_, .int .i64 a.lane] 41)) w.heap.size a.c := BxV.new w _ _
  have B0 : Hid (Below w.heap.size w (w.alloc (.cells #[.string a.key, .int .i64 a.seq, .string a.fr, .string a.to_, .int .i64 a.lane] 41))) := Lib.hid ((Below.refl _ _).alloc (Nat.le_refl _) _)
  generalize w.alloc (.cells #[.string a.key, .int .i64 a.seq, .string a.fr, .string a.to_, .int .i64 a.lane] 41) = w1 at *
  have XA1 := Lib.hid XA0
  clear XA0
  refine (lives6_any w1).mono ?_
  rintro r w2 ⟨rfl, hb⟩
  have XA2 := Lib.hid (XA1.out.next hb)
  have B2 := Lib.hid (B0.out.trans (hb.mono B0.out.size))
  clear hb XA1 B0
  go_wp2_with fail
  refine (small6_any A n d l HL.out (by omega) w.heap.size w2 (HR.out.below B2.out) (by have := B2.out.size; omega)).mono ?_
  rintro r w3 ⟨rfl, hb⟩
  have XA3 := Lib.hid (XA2.out.next hb)
  have B3 := Lib.hid (B2.out.trans (hb.mono B2.out.size))
  have hz3 : w.heap.size < w3.heap.size := XA3.out.lt
  clear hb XA2 B2
  cases hsm : smallM l
  · go_wp2_with fail
    go_ret
    exact ⟨rfl, B3.out⟩
  have HSM := Lib.hid (smallM_get hsm)
  clear hsm
  have n60 : n ≤ 60 := by rw [← HL.out]; exact HSM.out.1
  go_wp2_with fail
  refine (mnew_any none 0 0 0 [] rfl (by omega) w3 Rd.nil (Nat.zero_le _)).mono ?_
  rintro r w4 ⟨⟨h, _⟩ | ⟨_, T, rfl, hm⟩, hb⟩
  · exact absurd h (by decide)
  have M4 := Lib.hid hm
  have XA4 := Lib.hid (XA3.out.next hb)
  have B4 := Lib.hid (B3.out.trans (hb.mono B3.out.size))
  have hz4 := hb.size
  obtain ⟨g0, hg0⟩ : ∃ g, g = w3.heap.size := ⟨_, rfl⟩
  rw [← hg0] at M4 hz4 hz3
  have D4 : Hid (Below g0 w4 w4) := Lib.hid (Below.refl _ _)
  clear hm hb XA3 B3 hg0
  go_wp2_with fail
  go_loopw [9, 10] (fun s9 s10 wr => ∃ (b0 : Int) (i : Nat), s9 = .int .i64 b0 ∧ s10 = .int .i64 (i : Int) ∧ i ≤ n ∧ g0 ≤ wr.heap.size ∧ Hid (Mt wr (fun g => g0 ≤ g ∧ g < wr.heap.size) T [] (adds [] (l.take i))) ∧ Hid (Bst a.key a.seq ((adds [] (l.take i)).map Prod.fst) b0) ∧ Hid (Below g0 w4 wr)) (fun _ s10 _ => n - (intOf s10).toNat)
  case atStart => exact ⟨0, 0, rfl, rfl, Nat.zero_le _, hz4, M4, Lib.hid (.inl ⟨rfl, fun x hx => by cases hx⟩), D4⟩
  case round =>
    clear M4 D4
    obtain ⟨b0, i, rfl, rfl, hi, hgr, MI, BS, DI⟩ := hrel
    obtain ⟨w5, rfl⟩ : ∃ x, x = wr := ⟨_, rfl⟩
    have HB5 : Hid (Below w.heap.size w w5) := Lib.hid (B4.out.trans (DI.out.mono (by omega)))
    have XA5 := Lib.hid (XA4.out.below DI.out (by omega))
    by_cases hlt : i < n
    · obtain ⟨x, hx⟩ : ∃ x, l[i]? = some x := ⟨_, List.getElem?_eq_getElem (by rw [HL.out]; exact hlt)⟩
      obtain ⟨b, off, rfl, hb, hce⟩ := en_at HR.out hx
      obtain ⟨d0, d1, d2, d3⟩ := hce.below hb HB5.out
      have HX := Lib.hid hx
      have i1 : (i : Int) < (n : Int) := by omega
      have i0 : (0 : Int) ≤ (i : Int) := by omega
      have zb : b < g0 := by omega
      have zb5 : b < w5.heap.size := by omega
      have hkx := (HSM.out.2 i x hx).1
      have a0 := XA5.out.c 0 _ rfl
      have a1 := XA5.out.c 1 _ rfl
      have HLN : (adds [] (l.take i)).length ≤ 100000 := by have := adds_len [] (l.take i); rw [List.length_take] at this; omega
      clear hce hx
      go_wp2_with fail
      refine wp_heldall (S := fun W => Below g0 w5 W) 27 (by kernel_rfl) rfl (Below.drew (Below.refl _ _)) (fun hHeld => ?_)
      refine takeL (i := 0) (v := ?_) rfl (by kernel_rfl) (by kernel_rfl) (by kernel_rfl) (fun _ _ _ h => h) ⟨by rfl, ?_⟩ (by first | assumption | trivial) ?_
      rotate_left
      · intro W9 hSw
        (try dsimp only at hSw)
        go_simp
        try with_reducible rfl
      (try simp only [Act.put, List.setIfInBounds_toArray, List.set_cons_zero, List.set_cons_succ])
      refine takeL (i := 1) (v := ?_) rfl (by kernel_rfl) (by kernel_rfl) (by kernel_rfl) (fun _ _ _ h => h) ⟨by rfl, ?_⟩ (by first | assumption | trivial) ?_
      rotate_left
      · intro W9 hSw
        (try dsimp only at hSw)
        go_simp
        try with_reducible rfl
      (try simp only [Act.put, List.setIfInBounds_toArray, List.set_cons_zero, List.set_cons_succ])
      refine takeL (i := 2) (v := ?_) rfl (by kernel_rfl) (by kernel_rfl) (by kernel_rfl) (fun _ _ _ h => h) ⟨by rfl, ?_⟩ (by first | assumption | trivial) ?_
      rotate_left
      · intro W9 hSw
        (try dsimp only at hSw)
        go_simp
        try with_reducible rfl
      (try simp only [Act.put, List.setIfInBounds_toArray, List.set_cons_zero, List.set_cons_succ])
      refine takeL (i := 3) (v := ?_) rfl (by kernel_rfl) (by kernel_rfl) (by kernel_rfl) (fun _ _ _ h => h) ⟨by rfl, ?_⟩ (by first | assumption | trivial) ?_
      rotate_left
      · intro W9 hSw
        (try dsimp only at hSw)
        go_simp
        try with_reducible rfl
      (try simp only [Act.put, List.setIfInBounds_toArray, List.set_cons_zero, List.set_cons_succ])
      refine takeL (i := 4) (v := ?_) rfl (by kernel_rfl) (by kernel_rfl) (by kernel_rfl) (fun _ _ _ h => h) ⟨by rfl, ?_⟩ (by first | assumption | trivial) ?_
      rotate_left
      · intro W9 hSw
        (try dsimp only at hSw)
        (have y0 := (hSw.cell (p := ⟨b, _, none⟩) zb).trans d0; have y1 := (hSw.cell (p := ⟨b, _, none⟩) zb).trans d1; have y2 := (hSw.cell (p := ⟨b, _, none⟩) zb).trans d2; have y3 := (hSw.cell (p := ⟨b, _, none⟩) zb).trans d3; have yl := World.block_lt_of_cell? W9 _ y0)
        go_simp
        try with_reducible rfl
      (try simp only [Act.put, List.setIfInBounds_toArray, List.set_cons_zero, List.set_cons_succ])
      have MI6 := Lib.hid (MI.out.next (Below.drew (Below.refl w5.heap.size w5)))
      have hz6 : w5.drew.heap.size = w5.heap.size := rfl
      generalize w5.drew = w6 at *
      refine wpAnyH_ready (rs := [5]) (by kernel_rfl) (by simp) ?_
      refine consL rfl (by rfl) (fun K hK => ?_) ?_
      · go_simp
        go_at_call 12
        refine (madd_any _ T [] (adds [] (l.take i)) HLN x (by unfold maxLen; omega) w6 MI6.out).mono ?_
        rintro r w8 ⟨rfl, hm, ho⟩
        have kX2 : Below g0 w5 w8 := hHeld.trans (ho.below (by omega) (fun g hg => by omega))
        refine hK.out _ _ kX2 (fun _ => ?_)
        rw [← adds_succ HX.out] at hm
        have hs8 := ho.size
        have D8 := Lib.hid (DI.out.trans (kX2.mono (Nat.le_refl _)))
        have M8 : Hid (Mt w8 (fun g => g0 ≤ g ∧ g < w8.heap.size) T [] (adds [] (l.take (i + 1)))) := Lib.hid (hm.mono (fun g hg => by omega))
        clear hm ho hK K MI6 MI
        (try simp only [Act.put, List.setIfInBounds_toArray, List.set_cons_zero, List.set_cons_succ])
        by_cases hc : addC x (adds [] (l.take i)) = 0
        case neg =>
          have e1 : (addC x (adds [] (l.take i)) == 0) = false := by rw [beq_eq_false_iff_ne]; exact hc
          have BS8 : Hid (Bst a.key a.seq ((adds [] (l.take (i + 1))).map Prod.fst) b0) := Lib.hid (by rw [adds_succ HX.out, addL_n0 hc]; exact BS.out)
          clear hc BS
          refine takeL (i := 6) (v := ?_) rfl (by kernel_rfl) (by kernel_rfl) (by kernel_rfl) (fun _ _ _ h => h) ⟨by rfl, ?_⟩ (by first | assumption | trivial) ?_
          rotate_left
          · intro W9 hSw
            (try dsimp only at hSw)
            go_simp
            try with_reducible rfl
          (try simp only [Act.put, List.setIfInBounds_toArray, List.set_cons_zero, List.set_cons_succ])
          refine takeL (i := 7) (v := ?_) rfl (by kernel_rfl) (by kernel_rfl) (by kernel_rfl) (fun _ _ _ h => h) ⟨by rfl, ?_⟩ (by first | assumption | trivial) ?_
          rotate_left
          · intro W9 hSw
            (try dsimp only at hSw)
            go_simp
            try with_reducible rfl
          (try simp only [Act.put, List.setIfInBounds_toArray, List.set_cons_zero, List.set_cons_succ])
          refine skipL (i := 8) rfl (by kernel_rfl) (by kernel_rfl) (by kernel_rfl) (fun _ _ _ h => h) (by rfl) (by first | assumption | trivial) ?_
          (try simp only [Act.put, List.setIfInBounds_toArray, List.set_cons_zero, List.set_cons_succ])
          refine skipL (i := 9) rfl (by kernel_rfl) (by kernel_rfl) (by kernel_rfl) (fun _ _ _ h => h) (by rfl) (by first | assumption | trivial) ?_
          (try simp only [Act.put, List.setIfInBounds_toArray, List.set_cons_zero, List.set_cons_succ])
          refine skipL (i := 10) rfl (by kernel_rfl) (by kernel_rfl) (by kernel_rfl) (fun _ _ _ h => h) (by rfl) (by first | assumption | trivial) ?_
          (try simp only [Act.put, List.setIfInBounds_toArray, List.set_cons_zero, List.set_cons_succ])
          refine skipL (i := 11) rfl (by kernel_rfl) (by kernel_rfl) (by kernel_rfl) (fun _ _ _ h => h) (by rfl) (by first | assumption | trivial) ?_
          (try simp only [Act.put, List.setIfInBounds_toArray, List.set_cons_zero, List.set_cons_succ])
          refine skipL (i := 12) rfl (by kernel_rfl) (by kernel_rfl) (by kernel_rfl) (fun _ _ _ h => h) (by rfl) (by first | assumption | trivial) ?_
          (try simp only [Act.put, List.setIfInBounds_toArray, List.set_cons_zero, List.set_cons_succ])
          refine skipL (i := 13) rfl (by kernel_rfl) (by kernel_rfl) (by kernel_rfl) (fun _ _ _ h => h) (by rfl) (by first | assumption | trivial) ?_
          (try simp only [Act.put, List.setIfInBounds_toArray, List.set_cons_zero, List.set_cons_succ])
          refine skipL (i := 14) rfl (by kernel_rfl) (by kernel_rfl) (by kernel_rfl) (fun _ _ _ h => h) (by rfl) (by first | assumption | trivial) ?_
          (try simp only [Act.put, List.setIfInBounds_toArray, List.set_cons_zero, List.set_cons_succ])
          refine skipL (i := 15) rfl (by kernel_rfl) (by kernel_rfl) (by kernel_rfl) (fun _ _ _ h => h) (by rfl) (by first | assumption | trivial) ?_
          (try simp only [Act.put, List.setIfInBounds_toArray, List.set_cons_zero, List.set_cons_succ])
          refine takeL (i := 16) (v := ?_) rfl (by kernel_rfl) (by kernel_rfl) (by kernel_rfl) (fun _ _ _ h => h) ⟨by rfl, ?_⟩ (by first | assumption | trivial) ?_
          rotate_left
          · intro W9 hSw
            (try dsimp only at hSw)
            go_simp
            try with_reducible rfl
          (try simp only [Act.put, List.setIfInBounds_toArray, List.set_cons_zero, List.set_cons_succ])
          refine takeL (i := 17) (v := ?_) rfl (by kernel_rfl) (by kernel_rfl) (by kernel_rfl) (fun _ _ _ h => h) ⟨by rfl, ?_⟩ (by first | assumption | trivial) ?_
          rotate_left
          · intro W9 hSw
            (try dsimp only at hSw)
            go_simp
            try with_reducible rfl
          (try simp only [Act.put, List.setIfInBounds_toArray, List.set_cons_zero, List.set_cons_succ])
          refine skipL (i := 18) rfl (by kernel_rfl) (by kernel_rfl) (by kernel_rfl) (fun _ _ _ h => h) (by rfl) (by first | assumption | trivial) ?_
          (try simp only [Act.put, List.setIfInBounds_toArray, List.set_cons_zero, List.set_cons_succ])
          refine skipL (i := 19) rfl (by kernel_rfl) (by kernel_rfl) (by kernel_rfl) (fun _ _ _ h => h) (by rfl) (by first | assumption | trivial) ?_
          (try simp only [Act.put, List.setIfInBounds_toArray, List.set_cons_zero, List.set_cons_succ])
          refine skipL (i := 20) rfl (by kernel_rfl) (by kernel_rfl) (by kernel_rfl) (fun _ _ _ h => h) (by rfl) (by first | assumption | trivial) ?_
          (try simp only [Act.put, List.setIfInBounds_toArray, List.set_cons_zero, List.set_cons_succ])
          refine skipL (i := 21) rfl (by kernel_rfl) (by kernel_rfl) (by kernel_rfl) (fun _ _ _ h => h) (by rfl) (by first | assumption | trivial) ?_
          (try simp only [Act.put, List.setIfInBounds_toArray, List.set_cons_zero, List.set_cons_succ])
          refine skipL (i := 22) rfl (by kernel_rfl) (by kernel_rfl) (by kernel_rfl) (fun _ _ _ h => h) (by rfl) (by first | assumption | trivial) ?_
          (try simp only [Act.put, List.setIfInBounds_toArray, List.set_cons_zero, List.set_cons_succ])
          refine skipL (i := 23) rfl (by kernel_rfl) (by kernel_rfl) (by kernel_rfl) (fun _ _ _ h => h) (by rfl) (by first | assumption | trivial) ?_
          (try simp only [Act.put, List.setIfInBounds_toArray, List.set_cons_zero, List.set_cons_succ])
          refine skipL (i := 24) rfl (by kernel_rfl) (by kernel_rfl) (by kernel_rfl) (fun _ _ _ h => h) (by rfl) (by first | assumption | trivial) ?_
          (try simp only [Act.put, List.setIfInBounds_toArray, List.set_cons_zero, List.set_cons_succ])
          refine skipL (i := 25) rfl (by kernel_rfl) (by kernel_rfl) (by kernel_rfl) (fun _ _ _ h => h) (by rfl) (by first | assumption | trivial) ?_
          (try simp only [Act.put, List.setIfInBounds_toArray, List.set_cons_zero, List.set_cons_succ])
          refine takeL (i := 26) (v := ?_) rfl (by kernel_rfl) (by kernel_rfl) (by kernel_rfl) (fun _ _ _ h => h) ⟨by rfl, ?_⟩ (by first | assumption | trivial) ?_
          rotate_left
          · intro W9 hSw
            (try dsimp only at hSw)
            go_simp
            try with_reducible rfl
          (try simp only [Act.put, List.setIfInBounds_toArray, List.set_cons_zero, List.set_cons_succ])
          refine wpAnyH_done (by kernel_rfl) ?_ _
          go_wp2_with fail
          go_roundw
          case rel => exact ⟨_, i + 1, rfl, by go_num, by omega, by omega, M8, BS8, D8⟩
          case measure => simp [intOf]; omega
        have e1 : (addC x (adds [] (l.take i)) == 0) = true := by rw [beq_iff_eq]; exact hc
        by_cases hk : x.key = a.key
        case neg =>
          have e2 : (x.key.toList == a.key.toList) = false := by rw [str_eqB]; exact decide_eq_false hk
          have BS8 : Hid (Bst a.key a.seq ((adds [] (l.take (i + 1))).map Prod.fst) b0) := Lib.hid (by rw [adds_succ HX.out]; exact bst_skip BS.out hc (fun h => hk h.1))
          clear hc BS hk
          refine takeL (i := 6) (v := ?_) rfl (by kernel_rfl) (by kernel_rfl) (by kernel_rfl) (fun _ _ _ h => h) ⟨by rfl, ?_⟩ (by first | assumption | trivial) ?_
          rotate_left
          · intro W9 hSw
            (try dsimp only at hSw)
            go_simp
            try with_reducible rfl
          (try simp only [Act.put, List.setIfInBounds_toArray, List.set_cons_zero, List.set_cons_succ])
          refine takeL (i := 7) (v := ?_) rfl (by kernel_rfl) (by kernel_rfl) (by kernel_rfl) (fun _ _ _ h => h) ⟨by rfl, ?_⟩ (by first | assumption | trivial) ?_
          rotate_left
          · intro W9 hSw
            (try dsimp only at hSw)
            go_simp
            try with_reducible rfl
          (try simp only [Act.put, List.setIfInBounds_toArray, List.set_cons_zero, List.set_cons_succ])
          refine takeL (i := 8) (v := ?_) rfl (by kernel_rfl) (by kernel_rfl) (by kernel_rfl) (fun _ _ _ h => h) ⟨by rfl, ?_⟩ (by first | assumption | trivial) ?_
          rotate_left
          · intro W9 hSw
            (try dsimp only at hSw)
            go_simp
            try with_reducible rfl
          (try simp only [Act.put, List.setIfInBounds_toArray, List.set_cons_zero, List.set_cons_succ])
          refine takeL (i := 9) (v := ?_) rfl (by kernel_rfl) (by kernel_rfl) (by kernel_rfl) (fun _ _ _ h => h) ⟨by rfl, ?_⟩ (by first | assumption | trivial) ?_
          rotate_left
          · intro W9 hSw
            (try dsimp only at hSw)
            go_simp
            try with_reducible rfl
          (try simp only [Act.put, List.setIfInBounds_toArray, List.set_cons_zero, List.set_cons_succ])
          refine takeL (i := 10) (v := ?_) rfl (by kernel_rfl) (by kernel_rfl) (by kernel_rfl) (fun _ _ _ h => h) ⟨by rfl, ?_⟩ (by first | assumption | trivial) ?_
          rotate_left
          · intro W9 hSw
            (try dsimp only at hSw)
            go_simp
            try with_reducible rfl
          (try simp only [Act.put, List.setIfInBounds_toArray, List.set_cons_zero, List.set_cons_succ])
          refine takeL (i := 11) (v := ?_) rfl (by kernel_rfl) (by kernel_rfl) (by kernel_rfl) (fun _ _ _ h => h) ⟨by rfl, ?_⟩ (by first | assumption | trivial) ?_
          rotate_left
          · intro W9 hSw
            (try dsimp only at hSw)
            go_simp
            try with_reducible rfl
          (try simp only [Act.put, List.setIfInBounds_toArray, List.set_cons_zero, List.set_cons_succ])
          refine takeL (i := 12) (v := ?_) rfl (by kernel_rfl) (by kernel_rfl) (by kernel_rfl) (fun _ _ _ h => h) ⟨by rfl, ?_⟩ (by first | assumption | trivial) ?_
          rotate_left
          · intro W9 hSw
            (try dsimp only at hSw)
            (have y0 := (hSw.cell (p := ⟨b, _, none⟩) zb).trans d0; have yl := World.block_lt_of_cell? W9 _ y0)
            go_simp
            try with_reducible rfl
          (try simp only [Act.put, List.setIfInBounds_toArray, List.set_cons_zero, List.set_cons_succ])
          refine takeL (i := 13) (v := ?_) rfl (by kernel_rfl) (by kernel_rfl) (by kernel_rfl) (fun _ _ _ h => h) ⟨by rfl, ?_⟩ (by first | assumption | trivial) ?_
          rotate_left
          · intro W9 hSw
            (try dsimp only at hSw)
            go_simp
            try with_reducible rfl
          (try simp only [Act.put, List.setIfInBounds_toArray, List.set_cons_zero, List.set_cons_succ])
          refine takeL (i := 14) (v := ?_) rfl (by kernel_rfl) (by kernel_rfl) (by kernel_rfl) (fun _ _ _ h => h) ⟨by rfl, ?_⟩ (by first | assumption | trivial) ?_
          rotate_left
          · intro W9 hSw
            (try dsimp only at hSw)
            (have y0 := (hSw.cell (p := ⟨w.heap.size, 0, none⟩) hz3).trans a0; have yl := World.block_lt_of_cell? W9 _ y0)
            go_simp
            try with_reducible rfl
          (try simp only [Act.put, List.setIfInBounds_toArray, List.set_cons_zero, List.set_cons_succ])
          refine takeL (i := 15) (v := ?_) rfl (by kernel_rfl) (by kernel_rfl) (by kernel_rfl) (fun _ _ _ h => h) ⟨by rfl, ?_⟩ (by first | assumption | trivial) ?_
          rotate_left
          · intro W9 hSw
            (try dsimp only at hSw)
            go_simp
            try with_reducible rfl
          (try simp only [Act.put, List.setIfInBounds_toArray, List.set_cons_zero, List.set_cons_succ])
          refine takeL (i := 16) (v := ?_) rfl (by kernel_rfl) (by kernel_rfl) (by kernel_rfl) (fun _ _ _ h => h) ⟨by rfl, ?_⟩ (by first | assumption | trivial) ?_
          rotate_left
          · intro W9 hSw
            (try dsimp only at hSw)
            go_simp
            try with_reducible rfl
          (try simp only [Act.put, List.setIfInBounds_toArray, List.set_cons_zero, List.set_cons_succ])
          refine takeL (i := 17) (v := ?_) rfl (by kernel_rfl) (by kernel_rfl) (by kernel_rfl) (fun _ _ _ h => h) ⟨by rfl, ?_⟩ (by first | assumption | trivial) ?_
          rotate_left
          · intro W9 hSw
            (try dsimp only at hSw)
            go_simp
            try with_reducible rfl
          (try simp only [Act.put, List.setIfInBounds_toArray, List.set_cons_zero, List.set_cons_succ])
          refine skipL (i := 18) rfl (by kernel_rfl) (by kernel_rfl) (by kernel_rfl) (fun _ _ _ h => h) (by rfl) (by first | assumption | trivial) ?_
          (try simp only [Act.put, List.setIfInBounds_toArray, List.set_cons_zero, List.set_cons_succ])
          refine skipL (i := 19) rfl (by kernel_rfl) (by kernel_rfl) (by kernel_rfl) (fun _ _ _ h => h) (by rfl) (by first | assumption | trivial) ?_
          (try simp only [Act.put, List.setIfInBounds_toArray, List.set_cons_zero, List.set_cons_succ])
          refine skipL (i := 20) rfl (by kernel_rfl) (by kernel_rfl) (by kernel_rfl) (fun _ _ _ h => h) (by rfl) (by first | assumption | trivial) ?_
          (try simp only [Act.put, List.setIfInBounds_toArray, List.set_cons_zero, List.set_cons_succ])
          refine skipL (i := 21) rfl (by kernel_rfl) (by kernel_rfl) (by kernel_rfl) (fun _ _ _ h => h) (by rfl) (by first | assumption | trivial) ?_
          (try simp only [Act.put, List.setIfInBounds_toArray, List.set_cons_zero, List.set_cons_succ])
          refine skipL (i := 22) rfl (by kernel_rfl) (by kernel_rfl) (by kernel_rfl) (fun _ _ _ h => h) (by rfl) (by first | assumption | trivial) ?_
          (try simp only [Act.put, List.setIfInBounds_toArray, List.set_cons_zero, List.set_cons_succ])
          refine skipL (i := 23) rfl (by kernel_rfl) (by kernel_rfl) (by kernel_rfl) (fun _ _ _ h => h) (by rfl) (by first | assumption | trivial) ?_
          (try simp only [Act.put, List.setIfInBounds_toArray, List.set_cons_zero, List.set_cons_succ])
          refine skipL (i := 24) rfl (by kernel_rfl) (by kernel_rfl) (by kernel_rfl) (fun _ _ _ h => h) (by rfl) (by first | assumption | trivial) ?_
          (try simp only [Act.put, List.setIfInBounds_toArray, List.set_cons_zero, List.set_cons_succ])
          refine skipL (i := 25) rfl (by kernel_rfl) (by kernel_rfl) (by kernel_rfl) (fun _ _ _ h => h) (by rfl) (by first | assumption | trivial) ?_
          (try simp only [Act.put, List.setIfInBounds_toArray, List.set_cons_zero, List.set_cons_succ])
          refine takeL (i := 26) (v := ?_) rfl (by kernel_rfl) (by kernel_rfl) (by kernel_rfl) (fun _ _ _ h => h) ⟨by rfl, ?_⟩ (by first | assumption | trivial) ?_
          rotate_left
          · intro W9 hSw
            (try dsimp only at hSw)
            go_simp
            try with_reducible rfl
          (try simp only [Act.put, List.setIfInBounds_toArray, List.set_cons_zero, List.set_cons_succ])
          refine wpAnyH_done (by kernel_rfl) ?_ _
          go_wp2_with fail
          go_roundw
          case rel => exact ⟨_, i + 1, rfl, by go_num, by omega, by omega, M8, BS8, D8⟩
          case measure => simp [intOf]; omega
        have e2 : (x.key.toList == a.key.toList) = true := by rw [str_eqB]; exact decide_eq_true hk
        by_cases hq : x.seq ≤ a.seq
        case neg =>
          have e3 : decide (x.seq ≤ a.seq) = false := decide_eq_false hq
          have BS8 : Hid (Bst a.key a.seq ((adds [] (l.take (i + 1))).map Prod.fst) b0) := Lib.hid (by rw [adds_succ HX.out]; exact bst_skip BS.out hc (fun h => hq h.2))
          clear hc BS hk hq
          refine takeL (i := 6) (v := ?_) rfl (by kernel_rfl) (by kernel_rfl) (by kernel_rfl) (fun _ _ _ h => h) ⟨by rfl, ?_⟩ (by first | assumption | trivial) ?_
          rotate_left
          · intro W9 hSw
            (try dsimp only at hSw)
            go_simp
            try with_reducible rfl
          (try simp only [Act.put, List.setIfInBounds_toArray, List.set_cons_zero, List.set_cons_succ])
          refine takeL (i := 7) (v := ?_) rfl (by kernel_rfl) (by kernel_rfl) (by kernel_rfl) (fun _ _ _ h => h) ⟨by rfl, ?_⟩ (by first | assumption | trivial) ?_
          rotate_left
          · intro W9 hSw
            (try dsimp only at hSw)
            go_simp
            try with_reducible rfl
          (try simp only [Act.put, List.setIfInBounds_toArray, List.set_cons_zero, List.set_cons_succ])
          refine takeL (i := 8) (v := ?_) rfl (by kernel_rfl) (by kernel_rfl) (by kernel_rfl) (fun _ _ _ h => h) ⟨by rfl, ?_⟩ (by first | assumption | trivial) ?_
          rotate_left
          · intro W9 hSw
            (try dsimp only at hSw)
            go_simp
            try with_reducible rfl
          (try simp only [Act.put, List.setIfInBounds_toArray, List.set_cons_zero, List.set_cons_succ])
          refine takeL (i := 9) (v := ?_) rfl (by kernel_rfl) (by kernel_rfl) (by kernel_rfl) (fun _ _ _ h => h) ⟨by rfl, ?_⟩ (by first | assumption | trivial) ?_
          rotate_left
          · intro W9 hSw
            (try dsimp only at hSw)
            go_simp
            try with_reducible rfl
          (try simp only [Act.put, List.setIfInBounds_toArray, List.set_cons_zero, List.set_cons_succ])
          refine takeL (i := 10) (v := ?_) rfl (by kernel_rfl) (by kernel_rfl) (by kernel_rfl) (fun _ _ _ h => h) ⟨by rfl, ?_⟩ (by first | assumption | trivial) ?_
          rotate_left
          · intro W9 hSw
            (try dsimp only at hSw)
            go_simp
            try with_reducible rfl
          (try simp only [Act.put, List.setIfInBounds_toArray, List.set_cons_zero, List.set_cons_succ])
          refine takeL (i := 11) (v := ?_) rfl (by kernel_rfl) (by kernel_rfl) (by kernel_rfl) (fun _ _ _ h => h) ⟨by rfl, ?_⟩ (by first | assumption | trivial) ?_
          rotate_left
          · intro W9 hSw
            (try dsimp only at hSw)
            go_simp
            try with_reducible rfl
          (try simp only [Act.put, List.setIfInBounds_toArray, List.set_cons_zero, List.set_cons_succ])
          refine takeL (i := 12) (v := ?_) rfl (by kernel_rfl) (by kernel_rfl) (by kernel_rfl) (fun _ _ _ h => h) ⟨by rfl, ?_⟩ (by first | assumption | trivial) ?_
          rotate_left
          · intro W9 hSw
            (try dsimp only at hSw)
            (have y0 := (hSw.cell (p := ⟨b, _, none⟩) zb).trans d0; have yl := World.block_lt_of_cell? W9 _ y0)
            go_simp
            try with_reducible rfl
          (try simp only [Act.put, List.setIfInBounds_toArray, List.set_cons_zero, List.set_cons_succ])
          refine takeL (i := 13) (v := ?_) rfl (by kernel_rfl) (by kernel_rfl) (by kernel_rfl) (fun _ _ _ h => h) ⟨by rfl, ?_⟩ (by first | assumption | trivial) ?_
          rotate_left
          · intro W9 hSw
            (try dsimp only at hSw)
            go_simp
            try with_reducible rfl
          (try simp only [Act.put, List.setIfInBounds_toArray, List.set_cons_zero, List.set_cons_succ])
          refine takeL (i := 14) (v := ?_) rfl (by kernel_rfl) (by kernel_rfl) (by kernel_rfl) (fun _ _ _ h => h) ⟨by rfl, ?_⟩ (by first | assumption | trivial) ?_
          rotate_left
          · intro W9 hSw
            (try dsimp only at hSw)
            (have y0 := (hSw.cell (p := ⟨w.heap.size, 0, none⟩) hz3).trans a0; have yl := World.block_lt_of_cell? W9 _ y0)
            go_simp
            try with_reducible rfl
          (try simp only [Act.put, List.setIfInBounds_toArray, List.set_cons_zero, List.set_cons_succ])
          refine takeL (i := 15) (v := ?_) rfl (by kernel_rfl) (by kernel_rfl) (by kernel_rfl) (fun _ _ _ h => h) ⟨by rfl, ?_⟩ (by first | assumption | trivial) ?_
          rotate_left
          · intro W9 hSw
            (try dsimp only at hSw)
            go_simp
            try with_reducible rfl
          (try simp only [Act.put, List.setIfInBounds_toArray, List.set_cons_zero, List.set_cons_succ])
          refine takeL (i := 16) (v := ?_) rfl (by kernel_rfl) (by kernel_rfl) (by kernel_rfl) (fun _ _ _ h => h) ⟨by rfl, ?_⟩ (by first | assumption | trivial) ?_
          rotate_left
          · intro W9 hSw
            (try dsimp only at hSw)
            go_simp
            try with_reducible rfl
          (try simp only [Act.put, List.setIfInBounds_toArray, List.set_cons_zero, List.set_cons_succ])
          refine takeL (i := 17) (v := ?_) rfl (by kernel_rfl) (by kernel_rfl) (by kernel_rfl) (fun _ _ _ h => h) ⟨by rfl, ?_⟩ (by first | assumption | trivial) ?_
          rotate_left
          · intro W9 hSw
            (try dsimp only at hSw)
            go_simp
            try with_reducible rfl
          (try simp only [Act.put, List.setIfInBounds_toArray, List.set_cons_zero, List.set_cons_succ])
          refine takeL (i := 18) (v := ?_) rfl (by kernel_rfl) (by kernel_rfl) (by kernel_rfl) (fun _ _ _ h => h) ⟨by rfl, ?_⟩ (by first | assumption | trivial) ?_
          rotate_left
          · intro W9 hSw
            (try dsimp only at hSw)
            go_simp
            try with_reducible rfl
          (try simp only [Act.put, List.setIfInBounds_toArray, List.set_cons_zero, List.set_cons_succ])
          refine takeL (i := 19) (v := ?_) rfl (by kernel_rfl) (by kernel_rfl) (by kernel_rfl) (fun _ _ _ h => h) ⟨by rfl, ?_⟩ (by first | assumption | trivial) ?_
          rotate_left
          · intro W9 hSw
            (try dsimp only at hSw)
            go_simp
            try with_reducible rfl
          (try simp only [Act.put, List.setIfInBounds_toArray, List.set_cons_zero, List.set_cons_succ])
          refine takeL (i := 20) (v := ?_) rfl (by kernel_rfl) (by kernel_rfl) (by kernel_rfl) (fun _ _ _ h => h) ⟨by rfl, ?_⟩ (by first | assumption | trivial) ?_
          rotate_left
          · intro W9 hSw
            (try dsimp only at hSw)
            go_simp
            try with_reducible rfl
          (try simp only [Act.put, List.setIfInBounds_toArray, List.set_cons_zero, List.set_cons_succ])
          refine takeL (i := 21) (v := ?_) rfl (by kernel_rfl) (by kernel_rfl) (by kernel_rfl) (fun _ _ _ h => h) ⟨by rfl, ?_⟩ (by first | assumption | trivial) ?_
          rotate_left
          · intro W9 hSw
            (try dsimp only at hSw)
            go_simp
            try with_reducible rfl
          (try simp only [Act.put, List.setIfInBounds_toArray, List.set_cons_zero, List.set_cons_succ])
          refine takeL (i := 22) (v := ?_) rfl (by kernel_rfl) (by kernel_rfl) (by kernel_rfl) (fun _ _ _ h => h) ⟨by rfl, ?_⟩ (by first | assumption | trivial) ?_
          rotate_left
          · intro W9 hSw
            (try dsimp only at hSw)
            (have y0 := (hSw.cell (p := ⟨b, _, none⟩) zb).trans d2; have yl := World.block_lt_of_cell? W9 _ y0)
            go_simp
            try with_reducible rfl
          (try simp only [Act.put, List.setIfInBounds_toArray, List.set_cons_zero, List.set_cons_succ])
          refine takeL (i := 23) (v := ?_) rfl (by kernel_rfl) (by kernel_rfl) (by kernel_rfl) (fun _ _ _ h => h) ⟨by rfl, ?_⟩ (by first | assumption | trivial) ?_
          rotate_left
          · intro W9 hSw
            (try dsimp only at hSw)
            go_simp
            try with_reducible rfl
          (try simp only [Act.put, List.setIfInBounds_toArray, List.set_cons_zero, List.set_cons_succ])
          refine takeL (i := 24) (v := ?_) rfl (by kernel_rfl) (by kernel_rfl) (by kernel_rfl) (fun _ _ _ h => h) ⟨by rfl, ?_⟩ (by first | assumption | trivial) ?_
          rotate_left
          · intro W9 hSw
            (try dsimp only at hSw)
            (have y0 := (hSw.cell (p := ⟨w.heap.size, 1, none⟩) hz3).trans a1; have yl := World.block_lt_of_cell? W9 _ y0)
            go_simp
            try with_reducible rfl
          (try simp only [Act.put, List.setIfInBounds_toArray, List.set_cons_zero, List.set_cons_succ])
          refine takeL (i := 25) (v := ?_) rfl (by kernel_rfl) (by kernel_rfl) (by kernel_rfl) (fun _ _ _ h => h) ⟨by rfl, ?_⟩ (by first | assumption | trivial) ?_
          rotate_left
          · intro W9 hSw
            (try dsimp only at hSw)
            go_simp
            try with_reducible rfl
          (try simp only [Act.put, List.setIfInBounds_toArray, List.set_cons_zero, List.set_cons_succ])
          refine takeL (i := 26) (v := ?_) rfl (by kernel_rfl) (by kernel_rfl) (by kernel_rfl) (fun _ _ _ h => h) ⟨by rfl, ?_⟩ (by first | assumption | trivial) ?_
          rotate_left
          · intro W9 hSw
            (try dsimp only at hSw)
            go_simp
            try with_reducible rfl
          (try simp only [Act.put, List.setIfInBounds_toArray, List.set_cons_zero, List.set_cons_succ])
          refine wpAnyH_done (by kernel_rfl) ?_ _
          go_wp2_with fail
          go_roundw
          case rel => exact ⟨_, i + 1, rfl, by go_num, by omega, by omega, M8, BS8, D8⟩
          case measure => simp [intOf]; omega
        have e3 : decide (x.seq ≤ a.seq) = true := decide_eq_true hq
        have BS8 : Hid (Bst a.key a.seq ((adds [] (l.take (i + 1))).map Prod.fst) (max b0 x.seq)) := Lib.hid (by rw [adds_succ HX.out]; exact bst_take BS.out hc hk hq)
        clear hc BS hk hq
        have g2 := (kX2.cell (p := ⟨b, _, none⟩) zb).trans d2
        have zb8 := World.block_lt_of_cell? w8 _ g2
        refine takeL (i := 6) (v := ?_) rfl (by kernel_rfl) (by kernel_rfl) (by kernel_rfl) (fun _ _ _ h => h) ⟨by rfl, ?_⟩ (by first | assumption | trivial) ?_
        rotate_left
        · intro W9 hSw
          (try dsimp only at hSw)
          go_simp
          try with_reducible rfl
        (try simp only [Act.put, List.setIfInBounds_toArray, List.set_cons_zero, List.set_cons_succ])
        refine takeL (i := 7) (v := ?_) rfl (by kernel_rfl) (by kernel_rfl) (by kernel_rfl) (fun _ _ _ h => h) ⟨by rfl, ?_⟩ (by first | assumption | trivial) ?_
        rotate_left
        · intro W9 hSw
          (try dsimp only at hSw)
          go_simp
          try with_reducible rfl
        (try simp only [Act.put, List.setIfInBounds_toArray, List.set_cons_zero, List.set_cons_succ])
        refine takeL (i := 8) (v := ?_) rfl (by kernel_rfl) (by kernel_rfl) (by kernel_rfl) (fun _ _ _ h => h) ⟨by rfl, ?_⟩ (by first | assumption | trivial) ?_
        rotate_left
        · intro W9 hSw
          (try dsimp only at hSw)
          go_simp
          try with_reducible rfl
        (try simp only [Act.put, List.setIfInBounds_toArray, List.set_cons_zero, List.set_cons_succ])
        refine takeL (i := 9) (v := ?_) rfl (by kernel_rfl) (by kernel_rfl) (by kernel_rfl) (fun _ _ _ h => h) ⟨by rfl, ?_⟩ (by first | assumption | trivial) ?_
        rotate_left
        · intro W9 hSw
          (try dsimp only at hSw)
          go_simp
          try with_reducible rfl
        (try simp only [Act.put, List.setIfInBounds_toArray, List.set_cons_zero, List.set_cons_succ])
        refine takeL (i := 10) (v := ?_) rfl (by kernel_rfl) (by kernel_rfl) (by kernel_rfl) (fun _ _ _ h => h) ⟨by rfl, ?_⟩ (by first | assumption | trivial) ?_
        rotate_left
        · intro W9 hSw
          (try dsimp only at hSw)
          go_simp
          try with_reducible rfl
        (try simp only [Act.put, List.setIfInBounds_toArray, List.set_cons_zero, List.set_cons_succ])
        refine takeL (i := 11) (v := ?_) rfl (by kernel_rfl) (by kernel_rfl) (by kernel_rfl) (fun _ _ _ h => h) ⟨by rfl, ?_⟩ (by first | assumption | trivial) ?_
        rotate_left
        · intro W9 hSw
          (try dsimp only at hSw)
          go_simp
          try with_reducible rfl
        (try simp only [Act.put, List.setIfInBounds_toArray, List.set_cons_zero, List.set_cons_succ])
        refine takeL (i := 12) (v := ?_) rfl (by kernel_rfl) (by kernel_rfl) (by kernel_rfl) (fun _ _ _ h => h) ⟨by rfl, ?_⟩ (by first | assumption | trivial) ?_
        rotate_left
        · intro W9 hSw
          (try dsimp only at hSw)
          (have y0 := (hSw.cell (p := ⟨b, _, none⟩) zb).trans d0; have yl := World.block_lt_of_cell? W9 _ y0)
          go_simp
          try with_reducible rfl
        (try simp only [Act.put, List.setIfInBounds_toArray, List.set_cons_zero, List.set_cons_succ])
        refine takeL (i := 13) (v := ?_) rfl (by kernel_rfl) (by kernel_rfl) (by kernel_rfl) (fun _ _ _ h => h) ⟨by rfl, ?_⟩ (by first | assumption | trivial) ?_
        rotate_left
        · intro W9 hSw
          (try dsimp only at hSw)
          go_simp
          try with_reducible rfl
        (try simp only [Act.put, List.setIfInBounds_toArray, List.set_cons_zero, List.set_cons_succ])
        refine takeL (i := 14) (v := ?_) rfl (by kernel_rfl) (by kernel_rfl) (by kernel_rfl) (fun _ _ _ h => h) ⟨by rfl, ?_⟩ (by first | assumption | trivial) ?_
        rotate_left
        · intro W9 hSw
          (try dsimp only at hSw)
          (have y0 := (hSw.cell (p := ⟨w.heap.size, 0, none⟩) hz3).trans a0; have yl := World.block_lt_of_cell? W9 _ y0)
          go_simp
          try with_reducible rfl
        (try simp only [Act.put, List.setIfInBounds_toArray, List.set_cons_zero, List.set_cons_succ])
        refine takeL (i := 15) (v := ?_) rfl (by kernel_rfl) (by kernel_rfl) (by kernel_rfl) (fun _ _ _ h => h) ⟨by rfl, ?_⟩ (by first | assumption | trivial) ?_
        rotate_left
        · intro W9 hSw
          (try dsimp only at hSw)
          go_simp
          try with_reducible rfl
        (try simp only [Act.put, List.setIfInBounds_toArray, List.set_cons_zero, List.set_cons_succ])
        refine takeL (i := 16) (v := ?_) rfl (by kernel_rfl) (by kernel_rfl) (by kernel_rfl) (fun _ _ _ h => h) ⟨by rfl, ?_⟩ (by first | assumption | trivial) ?_
        rotate_left
        · intro W9 hSw
          (try dsimp only at hSw)
          go_simp
          try with_reducible rfl
        (try simp only [Act.put, List.setIfInBounds_toArray, List.set_cons_zero, List.set_cons_succ])
        refine takeL (i := 17) (v := ?_) rfl (by kernel_rfl) (by kernel_rfl) (by kernel_rfl) (fun _ _ _ h => h) ⟨by rfl, ?_⟩ (by first | assumption | trivial) ?_
        rotate_left
        · intro W9 hSw
          (try dsimp only at hSw)
          go_simp
          try with_reducible rfl
        (try simp only [Act.put, List.setIfInBounds_toArray, List.set_cons_zero, List.set_cons_succ])
        refine takeL (i := 18) (v := ?_) rfl (by kernel_rfl) (by kernel_rfl) (by kernel_rfl) (fun _ _ _ h => h) ⟨by rfl, ?_⟩ (by first | assumption | trivial) ?_
        rotate_left
        · intro W9 hSw
          (try dsimp only at hSw)
          go_simp
          try with_reducible rfl
        (try simp only [Act.put, List.setIfInBounds_toArray, List.set_cons_zero, List.set_cons_succ])
        refine takeL (i := 19) (v := ?_) rfl (by kernel_rfl) (by kernel_rfl) (by kernel_rfl) (fun _ _ _ h => h) ⟨by rfl, ?_⟩ (by first | assumption | trivial) ?_
        rotate_left
        · intro W9 hSw
          (try dsimp only at hSw)
          go_simp
          try with_reducible rfl
        (try simp only [Act.put, List.setIfInBounds_toArray, List.set_cons_zero, List.set_cons_succ])
        refine takeL (i := 20) (v := ?_) rfl (by kernel_rfl) (by kernel_rfl) (by kernel_rfl) (fun _ _ _ h => h) ⟨by rfl, ?_⟩ (by first | assumption | trivial) ?_
        rotate_left
        · intro W9 hSw
          (try dsimp only at hSw)
          go_simp
          try with_reducible rfl
        (try simp only [Act.put, List.setIfInBounds_toArray, List.set_cons_zero, List.set_cons_succ])
        refine takeL (i := 21) (v := ?_) rfl (by kernel_rfl) (by kernel_rfl) (by kernel_rfl) (fun _ _ _ h => h) ⟨by rfl, ?_⟩ (by first | assumption | trivial) ?_
        rotate_left
        · intro W9 hSw
          (try dsimp only at hSw)
          go_simp
          try with_reducible rfl
        (try simp only [Act.put, List.setIfInBounds_toArray, List.set_cons_zero, List.set_cons_succ])
        refine takeL (i := 22) (v := ?_) rfl (by kernel_rfl) (by kernel_rfl) (by kernel_rfl) (fun _ _ _ h => h) ⟨by rfl, ?_⟩ (by first | assumption | trivial) ?_
        rotate_left
        · intro W9 hSw
          (try dsimp only at hSw)
          (have y0 := (hSw.cell (p := ⟨b, _, none⟩) zb).trans d2; have yl := World.block_lt_of_cell? W9 _ y0)
          go_simp
          try with_reducible rfl
        (try simp only [Act.put, List.setIfInBounds_toArray, List.set_cons_zero, List.set_cons_succ])
        refine takeL (i := 23) (v := ?_) rfl (by kernel_rfl) (by kernel_rfl) (by kernel_rfl) (fun _ _ _ h => h) ⟨by rfl, ?_⟩ (by first | assumption | trivial) ?_
        rotate_left
        · intro W9 hSw
          (try dsimp only at hSw)
          go_simp
          try with_reducible rfl
        (try simp only [Act.put, List.setIfInBounds_toArray, List.set_cons_zero, List.set_cons_succ])
        refine takeL (i := 24) (v := ?_) rfl (by kernel_rfl) (by kernel_rfl) (by kernel_rfl) (fun _ _ _ h => h) ⟨by rfl, ?_⟩ (by first | assumption | trivial) ?_
        rotate_left
        · intro W9 hSw
          (try dsimp only at hSw)
          (have y0 := (hSw.cell (p := ⟨w.heap.size, 1, none⟩) hz3).trans a1; have yl := World.block_lt_of_cell? W9 _ y0)
          go_simp
          try with_reducible rfl
        (try simp only [Act.put, List.setIfInBounds_toArray, List.set_cons_zero, List.set_cons_succ])
        refine takeL (i := 25) (v := ?_) rfl (by kernel_rfl) (by kernel_rfl) (by kernel_rfl) (fun _ _ _ h => h) ⟨by rfl, ?_⟩ (by first | assumption | trivial) ?_
        rotate_left
        · intro W9 hSw
          (try dsimp only at hSw)
          go_simp
          try with_reducible rfl
        (try simp only [Act.put, List.setIfInBounds_toArray, List.set_cons_zero, List.set_cons_succ])
        refine takeL (i := 26) (v := ?_) rfl (by kernel_rfl) (by kernel_rfl) (by kernel_rfl) (fun _ _ _ h => h) ⟨by rfl, ?_⟩ (by first | assumption | trivial) ?_
        rotate_left
        · intro W9 hSw
          (try dsimp only at hSw)
          go_simp
          try with_reducible rfl
        (try simp only [Act.put, List.setIfInBounds_toArray, List.set_cons_zero, List.set_cons_succ])
        refine wpAnyH_done (by kernel_rfl) ?_ _
        go_wp2_with fail
        go_roundw
        case rel => exact ⟨_, i + 1, rfl, by go_num, by omega, by omega, M8, BS8, D8⟩
        case measure => simp [intOf]; omega
      · exact AllReadyH.nil
    · obtain rfl : i = n := by omega
      have i1 : ¬ (i : Int) < (i : Int) := by omega
      rw [List.take_of_length_le (by rw [HL.out]; exact Nat.le_refl _)] at MI BS
      have HLL : (adds [] l).length ≤ 60 := by have := adds_len [] l; have := HSM.out.1; omega
      have HPW := Lib.hid (adds_pw [] l)
      have a0 := XA5.out.c 0 _ rfl
      have a1 := XA5.out.c 1 _ rfl
      have la := XA5.out.lt
      generalize adds [] l = L at *
      have HFB := Lib.hid (find_best HPW.out BS.out)
      clear hlt HSM HR XA4 B4 DI BS
      go_wp2_with fail
      refine (mget_any _ T [] L (by omega) a.key a.seq w5 MI.out).mono ?_
      rintro r w6 ⟨rfl, hb⟩
      generalize fndE (L.map Prod.fst) a.key a.seq = z at *
      rw [show z.v = .agg #[.string z.key, .string z.val, .int .i64 z.seq, .bool z.del] from rfl]
      have M6 := Lib.hid (MI.out.next hb)
      have XA6 := Lib.hid (XA5.out.next hb)
      have B6 := Lib.hid (HB5.out.trans (hb.mono HB5.out.size))
      clear hb MI XA5 HB5 a0 a1 la
      go_upto_region 15 with (fail)
      have ZB : BxV (w6.alloc (.cells #[.string z.key, .string z.val, .int .i64 z.seq, .bool z.del] 32)) w6.heap.size [.string z.key, .string z.val, .int .i64 z.seq, .bool z.del] := BxV.new w6 _ _
      have hal : Below w6.heap.size w6 (w6.alloc (.cells #[.string z.key, .string z.val, .int .i64 z.seq, .bool z.del] 32)) := (Below.refl _ _).alloc (Nat.le_refl _) _
      have M7 := Lib.hid (M6.out.next hal)
      have XA7 := Lib.hid (XA6.out.next hal)
      have B7 := Lib.hid (B6.out.trans (hal.mono B6.out.size))
      generalize w6.alloc (.cells #[.string z.key, .string z.val, .int .i64 z.seq, .bool z.del] 32) = w7 at *
      generalize w6.heap.size = bz at *
      clear hal M6 XA6 B6
      have z0 := ZB.c 0 _ rfl
      have z2 := ZB.c 2 _ rfl
      have lz := ZB.lt
      have a0 := XA7.out.c 0 _ rfl
      have a1 := XA7.out.c 1 _ rfl
      have a2 := XA7.out.c 2 _ rfl
      have a3 := XA7.out.c 3 _ rfl
      have la := XA7.out.lt
      rcases HFB.out with ⟨hf, hb0⟩ | ⟨hf, hb1, hzs, hzk⟩
      · rw [hf]
        have g1 : ¬ (0 : Int) < b0 := by omega
        have g2 : decide ((0 : Int) < b0) = false := decide_eq_false g1
        clear hf HFB
        go_wp2_with fail
        clear z0 z2 lz ZB
        refine (mscan_any _ T [] L (by omega) a.fr a.to_ a.seq w7 M7.out).mono ?_
        rintro r w8 ⟨u, rfl, own, hb⟩
        obtain ⟨A1, c1, rfl, -, r1⟩ := own_sl own
        have R1 := Lib.hid r1
        have M8 := Lib.hid (M7.out.next hb)
        have XA8 := Lib.hid (XA7.out.next hb)
        have B8 := Lib.hid (B7.out.trans (hb.mono B7.out.size))
        clear own r1 hb M7 XA7 B7 a0 a1 a2 a3 la
        have a1 := XA8.out.c 1 _ rfl
        have a2 := XA8.out.c 2 _ rfl
        have a3 := XA8.out.c 3 _ rfl
        have la := XA8.out.lt
        go_wp2_with fail
        refine (mscan_any _ T [] L (by omega) a.fr a.to_ (max a.seq mo) w8 M8.out).mono ?_
        rintro r w9 ⟨u, rfl, own, hb⟩
        obtain ⟨A2, c2, rfl, -, r2⟩ := own_sl own
        have R2 := Lib.hid r2
        have R1' := Lib.hid ((R1.out.below hb).more hb.size)
        have XA9 := Lib.hid (XA8.out.next hb)
        have B9 := Lib.hid (B8.out.trans (hb.mono B8.out.size))
        have HV := Lib.hid (vis_more (fr := a.fr) (to_ := a.to_) (s := a.seq) (s' := max a.seq mo) HPW.out (by omega))
        have HA1 := Lib.hid (vis_ascE (fr := a.fr) (to_ := a.to_) (s := a.seq) HPW.out)
        have HA2 := Lib.hid (vis_ascE (fr := a.fr) (to_ := a.to_) (s := max a.seq mo) HPW.out)
        have HN1 : (visE a.fr a.to_ a.seq (L.map Prod.fst)).length ≤ 60 := by have := visE_len a.fr a.to_ a.seq (L.map Prod.fst); rw [List.length_map] at this; omega
        have HN2 : (visE a.fr a.to_ (max a.seq mo) (L.map Prod.fst)).length ≤ 60 := by have := visE_len a.fr a.to_ (max a.seq mo) (L.map Prod.fst); rw [List.length_map] at this; omega
        clear own r2 hb M8 XA8 B8 R1 HPW a1 a2 a3 la
        generalize visE a.fr a.to_ a.seq (L.map Prod.fst) = U at *
        generalize visE a.fr a.to_ (max a.seq mo) (L.map Prod.fst) = V at *
        go_wp2_with fail
        go_loopw [15, 16] (fun s15 s16 wr => ∃ q j : Nat, s15 = .int .i64 (q : Int) ∧ s16 = .int .i64 (j : Int) ∧ j ≤ U.length ∧ Hid (∀ (x : Ent) (p : Nat) (y : Ent), U[j]? = some x → V[p]? = some y → y.key = x.key → q ≤ p) ∧ Hid (Below w9.heap.size w9 wr)) (fun _ s16 _ => U.length - (intOf s16).toNat)
        case atStart => exact ⟨0, 0, rfl, rfl, Nat.zero_le _, Lib.hid (fun _ _ _ _ _ _ => Nat.zero_le _), Lib.hid (Below.refl _ _)⟩
        case round =>
          obtain ⟨q, j, rfl, rfl, hj, HQ, DQ⟩ := hrel
          obtain ⟨wa, rfl⟩ : ∃ x, x = wr := ⟨_, rfl⟩
          by_cases hlt : j < U.length
          · obtain ⟨x, hx⟩ : ∃ x, U[j]? = some x := ⟨_, List.getElem?_eq_getElem hlt⟩
            obtain ⟨hxs, y, hyV, hyk, hys⟩ := HV.out x (List.mem_of_getElem? hx)
            obtain ⟨p, hp⟩ := List.mem_iff_getElem?.1 hyV
            have hpl : p < V.length := (List.getElem?_eq_some_iff.1 hp).1
            have hqp := HQ.out x p y hx hp hyk
            obtain ⟨bu, ou, rfl, hbu, hcu⟩ := en_at R1'.out hx
            obtain ⟨bv, ov, eA, -, -⟩ := en_at R2.out hp
            have HEV := Lib.hid (fun (k' : Nat) (v : Ent) (hv : V[k']? = some v) => (by
              obtain ⟨b', o', e', hb', hc'⟩ := en_at R2.out hv
              rw [eA] at e'
              injection e' with e'
              injection e' with e1 e2
              subst e1 e2
              exact ⟨hb', hc'⟩ : bv < w9.heap.size ∧ EnI w9 bv (ov + k' * 4) v))
            have CU := Lib.hid hcu
            have HX := Lib.hid hx
            have HP := Lib.hid hp
            have i1 : (j : Int) < (U.length : Int) := by omega
            have i0 : (0 : Int) ≤ (j : Int) := by omega
            subst eA
            clear hcu hx hp HQ hyV
            go_wp2_with fail
            go_loopw [15] (fun s15 wr => ∃ q : Nat, s15 = .int .i64 (q : Int) ∧ q ≤ p ∧ Hid (Below w9.heap.size w9 wr)) (fun s15 _ => p - (intOf s15).toNat)
            case atStart => exact ⟨q, rfl, hqp, DQ⟩
            case round =>
              clear hqp DQ
              obtain ⟨q, rfl, hqp, DQ⟩ := hrel
              obtain ⟨wa, rfl⟩ : ∃ x, x = wr := ⟨_, rfl⟩
              obtain ⟨v, hv⟩ : ∃ v, V[q]? = some v := ⟨_, List.getElem?_eq_getElem (by omega)⟩
              have q1 : (q : Int) < (V.length : Int) := by omega
              have q0 : (0 : Int) ≤ (q : Int) := by omega
              have q2 : ((q : Int) == (V.length : Int)) = false := by rw [beq_eq_false_iff_ne]; omega
              obtain ⟨hbv, hcv⟩ := HEV.out q v hv
              obtain ⟨f0, f1, f2, f3⟩ := hcv.below hbv DQ.out
              obtain ⟨d0, d1, d2, d3⟩ := CU.out.below hbu DQ.out
              have lv : bv < wa.heap.size := Nat.lt_of_lt_of_le hbv DQ.out.size
              have lu : bu < wa.heap.size := Nat.lt_of_lt_of_le hbu DQ.out.size
              by_cases hqlt : q < p
              · have hkl : klt v.key x.key = true := by
                  rw [← hyk]
                  obtain ⟨h1, rfl⟩ := List.getElem?_eq_some_iff.1 hv
                  obtain ⟨h2, h3⟩ := List.getElem?_eq_some_iff.1 HP.out
                  rw [← h3]
                  exact List.pairwise_iff_getElem.1 HA2.out q p h1 h2 hqlt
                have e1 : Op.bytesLess v.key.toList x.key.toList = true := hkl
                clear hv hkl hcv f1 f2 f3 d1 d2 d3
                go_wp2_with fail
                refine wp_qall (by kernel_rfl) (by kernel_rfl) ?_
                intro hcg
                repeat (first | go_big_quiet_step (fail) | quiet_step (fail))
                refine wpQuiet_nil ?_
                intro wq hbwq hcwq hfwq
                clear hcg
                have D9 := Lib.hid (DQ.out.trans (hbwq.mono DQ.out.size))
                clear hbwq hcwq hfwq
                go_wp2_with fail
                go_roundw
                case rel => exact ⟨q + 1, by go_num, by omega, D9⟩
                case measure => simp [intOf]; omega
              · obtain rfl : q = p := by omega
                obtain rfl : v = y := by have := HP.out; rw [hv] at this; injection this
                have e1 : Op.bytesLess v.key.toList x.key.toList = false := by rw [hyk]; exact klt_irr x.key
                have e2 : (v.key.toList != x.key.toList) = false := by rw [hyk]; simp
                have e2' : (v.key.toList == x.key.toList) = true := by rw [hyk]; simp
                have e2q : decide (v.key = x.key) = true := by rw [hyk]; simp
                have e3 : decide (v.seq < x.seq) = false := decide_eq_false (by omega)
                have e4 : decide (a.seq < x.seq) = false := decide_eq_false (by omega)
                have a1 := (XA9.out.next DQ.out).c 1 _ rfl
                have la := (XA9.out.next DQ.out).lt
                have HYK := Lib.hid hyk
                clear hv hcv f1 f3 d1 d3 hyk
                go_wp2_with fail
                refine wp_qall (by kernel_rfl) (by kernel_rfl) ?_
                intro hcg
                repeat (first | go_big_quiet_step (fail) | quiet_step (fail))
                refine wpQuiet_nil ?_
                intro wq hbwq hcwq hfwq
                clear hcg
                have D9 := Lib.hid (DQ.out.trans (hbwq.mono DQ.out.size))
                have d0' := (hcwq _ _ lu).trans d0
                have d2' := (hcwq _ _ lu).trans d2
                have f0' := (hcwq _ _ lv).trans f0
                have f2' := (hcwq _ _ lv).trans f2
                have a1' := (hcwq _ _ la).trans a1
                have lv' : bv < wq.heap.size := Nat.lt_of_lt_of_le lv hbwq.size
                have lu' : bu < wq.heap.size := Nat.lt_of_lt_of_le lu hbwq.size
                have la' : w.heap.size < wq.heap.size := Nat.lt_of_lt_of_le la hbwq.size
                clear hbwq hcwq hfwq d0 d2 f0 f2 a1 lv lu la DQ e1
                go_wp2_with fail
                refine wp_qall (by kernel_rfl) (by kernel_rfl) ?_
                intro hcg
                repeat (first | go_big_quiet_step (fail) | quiet_step (fail))
                refine wpQuiet_nil ?_
                intro wr hbwr hcwr hfwr
                clear hcg
                have D10 := Lib.hid (D9.out.trans (hbwr.mono D9.out.size))
                clear hbwr hcwr hfwr
                have HQ9 : Hid (∀ (x' : Ent) (p' : Nat) (y' : Ent), U[j + 1]? = some x' → V[p']? = some y' → y'.key = x'.key → q ≤ p') := Lib.hid (fun x' p' y' h1 h2 h3 => by
                  rcases Nat.lt_or_ge p' q with h | h
                  · have k1 : klt y'.key v.key = true := by
                      obtain ⟨g1, rfl⟩ := List.getElem?_eq_some_iff.1 h2
                      obtain ⟨g2, g3⟩ := List.getElem?_eq_some_iff.1 HP.out
                      rw [← g3]
                      exact List.pairwise_iff_getElem.1 HA2.out p' q g1 g2 h
                    have k2 : klt x.key x'.key = true := by
                      obtain ⟨g1, rfl⟩ := List.getElem?_eq_some_iff.1 h1
                      obtain ⟨g2, g3⟩ := List.getElem?_eq_some_iff.1 HX.out
                      rw [← g3]
                      exact List.pairwise_iff_getElem.1 HA1.out j (j + 1) g2 g1 (Nat.lt_succ_self j)
                    rw [h3, HYK.out] at k1
                    rw [klt_asym k1] at k2
                    cases k2
                  · exact h)
                go_wp2_with fail
                go_roundw
                case rel => exact ⟨q, j + 1, rfl, by go_num, by omega, HQ9, D10⟩
                case measure => simp [intOf]; omega
          · have i1 : ¬ (j : Int) < (U.length : Int) := by omega
            go_wp2_with fail
            go_ret
            exact ⟨rfl, B9.out.trans (DQ.out.mono B9.out.size)⟩
      · rw [hf]
        have g1 : (0 : Int) < b0 := by omega
        have g2 : decide ((0 : Int) < b0) = true := decide_eq_true g1
        have g3 : (z.seq != b0) = false := by rw [hzs]; simp
        have g4 : (z.key.toList != a.key.toList) = false := by rw [hzk]; simp
        clear hf HFB
        go_wp2_with fail
        clear z0 z2 lz ZB
        refine (mscan_any _ T [] L (by omega) a.fr a.to_ a.seq w7 M7.out).mono ?_
        rintro r w8 ⟨u, rfl, own, hb⟩
        obtain ⟨A1, c1, rfl, -, r1⟩ := own_sl own
        have R1 := Lib.hid r1
        have M8 := Lib.hid (M7.out.next hb)
        have XA8 := Lib.hid (XA7.out.next hb)
        have B8 := Lib.hid (B7.out.trans (hb.mono B7.out.size))
        clear own r1 hb M7 XA7 B7 a0 a1 a2 a3 la
        have a1 := XA8.out.c 1 _ rfl
        have a2 := XA8.out.c 2 _ rfl
        have a3 := XA8.out.c 3 _ rfl
        have la := XA8.out.lt
        go_wp2_with fail
        refine (mscan_any _ T [] L (by omega) a.fr a.to_ (max a.seq mo) w8 M8.out).mono ?_
        rintro r w9 ⟨u, rfl, own, hb⟩
        obtain ⟨A2, c2, rfl, -, r2⟩ := own_sl own
        have R2 := Lib.hid r2
        have R1' := Lib.hid ((R1.out.below hb).more hb.size)
        have XA9 := Lib.hid (XA8.out.next hb)
        have B9 := Lib.hid (B8.out.trans (hb.mono B8.out.size))
        have HV := Lib.hid (vis_more (fr := a.fr) (to_ := a.to_) (s := a.seq) (s' := max a.seq mo) HPW.out (by omega))
        have HA1 := Lib.hid (vis_ascE (fr := a.fr) (to_ := a.to_) (s := a.seq) HPW.out)
        have HA2 := Lib.hid (vis_ascE (fr := a.fr) (to_ := a.to_) (s := max a.seq mo) HPW.out)
        have HN1 : (visE a.fr a.to_ a.seq (L.map Prod.fst)).length ≤ 60 := by have := visE_len a.fr a.to_ a.seq (L.map Prod.fst); rw [List.length_map] at this; omega
        have HN2 : (visE a.fr a.to_ (max a.seq mo) (L.map Prod.fst)).length ≤ 60 := by have := visE_len a.fr a.to_ (max a.seq mo) (L.map Prod.fst); rw [List.length_map] at this; omega
        clear own r2 hb M8 XA8 B8 R1 HPW a1 a2 a3 la
        generalize visE a.fr a.to_ a.seq (L.map Prod.fst) = U at *
        generalize visE a.fr a.to_ (max a.seq mo) (L.map Prod.fst) = V at *
        go_wp2_with fail
        go_loopw [15, 16] (fun s15 s16 wr => ∃ q j : Nat, s15 = .int .i64 (q : Int) ∧ s16 = .int .i64 (j : Int) ∧ j ≤ U.length ∧ Hid (∀ (x : Ent) (p : Nat) (y : Ent), U[j]? = some x → V[p]? = some y → y.key = x.key → q ≤ p) ∧ Hid (Below w9.heap.size w9 wr)) (fun _ s16 _ => U.length - (intOf s16).toNat)
        case atStart => exact ⟨0, 0, rfl, rfl, Nat.zero_le _, Lib.hid (fun _ _ _ _ _ _ => Nat.zero_le _), Lib.hid (Below.refl _ _)⟩
        case round =>
          obtain ⟨q, j, rfl, rfl, hj, HQ, DQ⟩ := hrel
          obtain ⟨wa, rfl⟩ : ∃ x, x = wr := ⟨_, rfl⟩
          by_cases hlt : j < U.length
          · obtain ⟨x, hx⟩ : ∃ x, U[j]? = some x := ⟨_, List.getElem?_eq_getElem hlt⟩
            obtain ⟨hxs, y, hyV, hyk, hys⟩ := HV.out x (List.mem_of_getElem? hx)
            obtain ⟨p, hp⟩ := List.mem_iff_getElem?.1 hyV
            have hpl : p < V.length := (List.getElem?_eq_some_iff.1 hp).1
            have hqp := HQ.out x p y hx hp hyk
            obtain ⟨bu, ou, rfl, hbu, hcu⟩ := en_at R1'.out hx
            obtain ⟨bv, ov, eA, -, -⟩ := en_at R2.out hp
            have HEV := Lib.hid (fun (k' : Nat) (v : Ent) (hv : V[k']? = some v) => (by
              obtain ⟨b', o', e', hb', hc'⟩ := en_at R2.out hv
              rw [eA] at e'
              injection e' with e'
              injection e' with e1 e2
              subst e1 e2
              exact ⟨hb', hc'⟩ : bv < w9.heap.size ∧ EnI w9 bv (ov + k' * 4) v))
            have CU := Lib.hid hcu
            have HX := Lib.hid hx
            have HP := Lib.hid hp
            have i1 : (j : Int) < (U.length : Int) := by omega
            have i0 : (0 : Int) ≤ (j : Int) := by omega
            subst eA
            clear hcu hx hp HQ hyV
            go_wp2_with fail
            go_loopw [15] (fun s15 wr => ∃ q : Nat, s15 = .int .i64 (q : Int) ∧ q ≤ p ∧ Hid (Below w9.heap.size w9 wr)) (fun s15 _ => p - (intOf s15).toNat)
            case atStart => exact ⟨q, rfl, hqp, DQ⟩
            case round =>
              clear hqp DQ
              obtain ⟨q, rfl, hqp, DQ⟩ := hrel
              obtain ⟨wa, rfl⟩ : ∃ x, x = wr := ⟨_, rfl⟩
              obtain ⟨v, hv⟩ : ∃ v, V[q]? = some v := ⟨_, List.getElem?_eq_getElem (by omega)⟩
              have q1 : (q : Int) < (V.length : Int) := by omega
              have q0 : (0 : Int) ≤ (q : Int) := by omega
              have q2 : ((q : Int) == (V.length : Int)) = false := by rw [beq_eq_false_iff_ne]; omega
              obtain ⟨hbv, hcv⟩ := HEV.out q v hv
              obtain ⟨f0, f1, f2, f3⟩ := hcv.below hbv DQ.out
              obtain ⟨d0, d1, d2, d3⟩ := CU.out.below hbu DQ.out
              have lv : bv < wa.heap.size := Nat.lt_of_lt_of_le hbv DQ.out.size
              have lu : bu < wa.heap.size := Nat.lt_of_lt_of_le hbu DQ.out.size
              by_cases hqlt : q < p
              · have hkl : klt v.key x.key = true := by
                  rw [← hyk]
                  obtain ⟨h1, rfl⟩ := List.getElem?_eq_some_iff.1 hv
                  obtain ⟨h2, h3⟩ := List.getElem?_eq_some_iff.1 HP.out
                  rw [← h3]
                  exact List.pairwise_iff_getElem.1 HA2.out q p h1 h2 hqlt
                have e1 : Op.bytesLess v.key.toList x.key.toList = true := hkl
                clear hv hkl hcv f1 f2 f3 d1 d2 d3
                go_wp2_with fail
                refine wp_qall (by kernel_rfl) (by kernel_rfl) ?_
                intro hcg
                repeat (first | go_big_quiet_step (fail) | quiet_step (fail))
                refine wpQuiet_nil ?_
                intro wq hbwq hcwq hfwq
                clear hcg
                have D9 := Lib.hid (DQ.out.trans (hbwq.mono DQ.out.size))
                clear hbwq hcwq hfwq
                go_wp2_with fail
                go_roundw
                case rel => exact ⟨q + 1, by go_num, by omega, D9⟩
                case measure => simp [intOf]; omega
              · obtain rfl : q = p := by omega
                obtain rfl : v = y := by have := HP.out; rw [hv] at this; injection this
                have e1 : Op.bytesLess v.key.toList x.key.toList = false := by rw [hyk]; exact klt_irr x.key
                have e2 : (v.key.toList != x.key.toList) = false := by rw [hyk]; simp
                have e2' : (v.key.toList == x.key.toList) = true := by rw [hyk]; simp
                have e2q : decide (v.key = x.key) = true := by rw [hyk]; simp
                have e3 : decide (v.seq < x.seq) = false := decide_eq_false (by omega)
                have e4 : decide (a.seq < x.seq) = false := decide_eq_false (by omega)
                have a1 := (XA9.out.next DQ.out).c 1 _ rfl
                have la := (XA9.out.next DQ.out).lt
                have HYK := Lib.hid hyk
                clear hv hcv f1 f3 d1 d3 hyk
                go_wp2_with fail
                refine wp_qall (by kernel_rfl) (by kernel_rfl) ?_
                intro hcg
                repeat (first | go_big_quiet_step (fail) | quiet_step (fail))
                refine wpQuiet_nil ?_
                intro wq hbwq hcwq hfwq
                clear hcg
                have D9 := Lib.hid (DQ.out.trans (hbwq.mono DQ.out.size))
                have d0' := (hcwq _ _ lu).trans d0
                have d2' := (hcwq _ _ lu).trans d2
                have f0' := (hcwq _ _ lv).trans f0
                have f2' := (hcwq _ _ lv).trans f2
                have a1' := (hcwq _ _ la).trans a1
                have lv' : bv < wq.heap.size := Nat.lt_of_lt_of_le lv hbwq.size
                have lu' : bu < wq.heap.size := Nat.lt_of_lt_of_le lu hbwq.size
                have la' : w.heap.size < wq.heap.size := Nat.lt_of_lt_of_le la hbwq.size
                clear hbwq hcwq hfwq d0 d2 f0 f2 a1 lv lu la DQ e1
                go_wp2_with fail
                refine wp_qall (by kernel_rfl) (by kernel_rfl) ?_
                intro hcg
                repeat (first | go_big_quiet_step (fail) | quiet_step (fail))
                refine wpQuiet_nil ?_
                intro wr hbwr hcwr hfwr
                clear hcg
                have D10 := Lib.hid (D9.out.trans (hbwr.mono D9.out.size))
                clear hbwr hcwr hfwr
                have HQ9 : Hid (∀ (x' : Ent) (p' : Nat) (y' : Ent), U[j + 1]? = some x' → V[p']? = some y' → y'.key = x'.key → q ≤ p') := Lib.hid (fun x' p' y' h1 h2 h3 => by
                  rcases Nat.lt_or_ge p' q with h | h
                  · have k1 : klt y'.key v.key = true := by
                      obtain ⟨g1, rfl⟩ := List.getElem?_eq_some_iff.1 h2
                      obtain ⟨g2, g3⟩ := List.getElem?_eq_some_iff.1 HP.out
                      rw [← g3]
                      exact List.pairwise_iff_getElem.1 HA2.out p' q g1 g2 h
                    have k2 : klt x.key x'.key = true := by
                      obtain ⟨g1, rfl⟩ := List.getElem?_eq_some_iff.1 h1
                      obtain ⟨g2, g3⟩ := List.getElem?_eq_some_iff.1 HX.out
                      rw [← g3]
                      exact List.pairwise_iff_getElem.1 HA1.out j (j + 1) g2 g1 (Nat.lt_succ_self j)
                    rw [h3, HYK.out] at k1
                    rw [klt_asym k1] at k2
                    cases k2
                  · exact h)
                go_wp2_with fail
                go_roundw
                case rel => exact ⟨q, j + 1, rfl, by go_num, by omega, HQ9, D10⟩
                case measure => simp [intOf]; omega
          · have i1 : ¬ (j : Int) < (U.length : Int) := by omega
            go_wp2_with fail
            go_ret
            exact ⟨rfl, B9.out.trans (DQ.out.mono B9.out.size)⟩
end Go.Proofs.Ytjhgbdeadkoegaa
