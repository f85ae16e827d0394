/- Walk: a table tells what the document's tells. -/
import Derived.Test.YtjhgbdeadkoegaaMg
import Derived.Test.YtjhgbdeadkoegaaLq
import Derived.Test.YtjhgbdeadkoegaaGh
namespace Go.Proofs.Ytjhgbdeadkoegaa
open Go.RowKit Go.St Go.Shelf Go.Maps
set_option linter.unusedVariables false
set_option linter.unusedSimpArgs false
set_option maxRecDepth 100000

/-- Questions as cells. -/
def asv (l : List AskM) : List Value := (l.map AskM.c).flatten
theorem asv_len (l : List AskM) : (asv l).length = l.length * 5 := by
  induction l with
  | nil => rfl
  | cons x r ih =>
    show (x.c ++ asv r).length = (r.length + 1) * 5
    rw [List.length_append, ih]
    show 5 + r.length * 5 = _
    omega
theorem asv_get {l : List AskM} {i : Nat} {c : AskM} (h : l[i]? = some c) (j : Nat) (v : Value) (hj : c.c[j]? = some v) : (asv l)[i * 5 + j]? = some v := by
  induction l generalizing i with
  | nil => simp at h
  | cons x r ih =>
    cases i with
    | zero =>
      have e : x = c := by simpa using h
      subst e
      simp only [asv, List.map_cons, List.flatten_cons]
      rw [List.getElem?_append_left (by rw [Nat.zero_mul, Nat.zero_add]; exact (List.getElem?_eq_some_iff.1 hj).1), Nat.zero_mul, Nat.zero_add]
      exact hj
    | succ i =>
      simp only [asv, List.map_cons, List.flatten_cons]
      rw [List.getElem?_append_right (by simp [AskM.c]; omega), show (i + 1) * 5 + j - x.c.length = i * 5 + j by simp [AskM.c]; omega]
      exact ih (by simpa using h)
theorem ask_at {w : World} {B : Nat} {A : Option Addr} {l : List AskM} (h : Rd w B A (asv l)) {i : Nat} {c : AskM} (hi : l[i]? = some c) : ∃ b off, A = some ⟨b, off, none⟩ ∧ b < B ∧ ∀ j v, c.c[j]? = some v → w.cell? ⟨b, off + i * 5 + j, none⟩ = some v := by
  have hf := asv_get hi
  obtain ⟨b, off, e, hb, hc⟩ := h (by
    intro e
    have := hf 0 _ rfl
    rw [e] at this
    cases this)
  exact ⟨b, off, e, hb, fun j v hv => by rw [Nat.add_assoc]; exact hc _ _ (hf j v hv)⟩
theorem mall_e (S : Nat → Prop) (T : Nat) (hs : List Int) (L : List Ld) (hL : L.length ≤ 100000) (w : World) (h : Mt w S T hs L) (m : Int) (hm : m = (L.length : Int) + 1) : Calls Try.prog 14 #[.pointer (some ⟨T, 0, none⟩), .int .i64 m] w fun e w' => ∃ A c, e = .returned (.slice A L.length c) ∧ Rd w' w'.heap.size A (env (L.map Prod.fst)) ∧ Below w.heap.size w w' := by
  rw [show m = ((L.length + 1 : Nat) : Int) by omega]
  refine (mall_any S T hs L hL (L.length + 1) w h).mono ?_
  rintro e w' ⟨u, rfl, own, hb⟩
  rw [List.take_of_length_le (by rw [List.length_map]; omega)] at own
  obtain ⟨A, c, rfl, -, r⟩ := own_sl own
  rw [List.length_map]
  exact ⟨A, c, rfl, r, hb⟩
theorem dall_e (S : Nat → Prop) (R : Nat) (hs : List Int) (L : List Ld) (hL : L.length ≤ 100000) (w : World) (h : Dt w S R hs L) : Calls Try.prog 33 #[.pointer (some ⟨R, 0, none⟩)] w fun e w' => ∃ A c, e = .returned (.slice A L.length c) ∧ L.length ≤ c ∧ Rd w' w'.heap.size A (env (L.map Prod.fst)) ∧ Below w.heap.size w w' := by
  refine (dall_any S R hs L hL w h).mono ?_
  rintro e w' ⟨u, rfl, own, hb⟩
  obtain ⟨A, c, rfl, q, r⟩ := own_sl own
  exact ⟨A, c, rfl, q, r, hb⟩
/-- The same list twice: they are the same. -/
theorem sameT_any (A A' : Option Addr) (n c c' : Nat) (l : List Ent) (hl : l.length = n) (hn : n ≤ 1000000) (w : World) (hr : Rd w w.heap.size A (env l)) (hr' : Rd w w.heap.size A' (env l)) :
    Calls Try.prog 15 #[.slice A n c, .slice A' n c'] w fun e w' => e = .returned (.bool true) ∧ Below w.heap.size w w' := by
  have h := sameE_any A A' n n c c' w.heap.size w.heap.size l l hl hl hn w hr (Nat.le_refl _) hr' (Nat.le_refl _)
  rw [decide_eq_true rfl] at h
  exact h
theorem sameTI_any (A A' : Option Addr) (n c c' : Nat) (l : List Int) (hl : l.length = n) (hn : n ≤ 1000000) (w : World) (hr : Rd w w.heap.size A (nv l)) (hr' : Rd w w.heap.size A' (nv l)) :
    Calls Try.prog 23 #[.slice A n c, .slice A' n c'] w fun e w' => e = .returned (.bool true) ∧ Below w.heap.size w w' := by
  have h := sameI_any A A' n n c c' w.heap.size w.heap.size l l hl hl hn w hr (Nat.le_refl _) hr' (Nat.le_refl _)
  rw [decide_eq_true rfl] at h
  exact h
set_option maxHeartbeats 6400000 in
theorem same6_any (S S' : Nat → Prop) (T R : Nat) (hs : List Int) (L : List Ld) (hL : L.length ≤ 100000) (A : Option Addr) (k c B : Nat) (qs : List AskM) (hl : qs.length = k) (hk : k ≤ 1000000) (w : World) (hm : Mt w S T hs L) (hd : Dt w S' R hs L) (hr : Rd w B A (asv qs)) (hB : B ≤ w.heap.size) :
    Calls Try.prog 32 #[.pointer (some ⟨T, 0, none⟩), .pointer (some ⟨R, 0, none⟩), .slice A k c] w fun e w' => e = .returned (.bool true) ∧ Below w.heap.size w w' := by
  have HM := Lib.hid hm
  have HD := Lib.hid hd
  have HL := Lib.hid hl
  have HR := Lib.hid (hr.more hB)
  have HCL : Hid (∃ Ae ce, ∀ W, Below w.heap.size w W → W.cell? ⟨R, 2, none⟩ = some (.slice Ae L.length ce)) := Lib.hid (by
    obtain ⟨Ah, ch, Ae, ce, At, ct, h1, -⟩ := hd
    exact ⟨Ae, ce, fun W hb => (h1.next hb).c 2 _ rfl⟩)
  clear hm hd hl hr
  obtain ⟨Ae, ce, HCE'⟩ := HCL.out
  have HCE := Lib.hid HCE'
  clear HCL HCE'
  go_enter Try.func32, Try.ntmps32
  go_wp2_with fail
  have B0 : Below w.heap.size w w.drew := Below.drew (Below.refl _ _)
  refine wp_heldall (S := fun W => Below w.heap.size w W) 29 (by kernel_rfl) rfl B0 (fun hHeld => ?_)
  clear hHeld
  have S0 := Lib.hid B0
  clear B0
  generalize w.drew = v0 at *
  refine takeL (i := 0) (v := ?_) rfl (by kernel_rfl) (by kernel_rfl) (by kernel_rfl) (fun _ _ _ h => h) ⟨by rfl, ?_⟩ (by first | assumption | trivial) ?_
  rotate_left
  · intro W9 hSw
    (try dsimp only at hSw)
    go_simp
    try with_reducible rfl
  (try simp only [Act.put, List.setIfInBounds_toArray, List.set_cons_zero, List.set_cons_succ])
  refine takeL (i := 2) (v := ?_) rfl (by kernel_rfl) (by kernel_rfl) (by kernel_rfl) (fun _ _ _ h => h) ⟨by rfl, ?_⟩ (by first | assumption | trivial) ?_
  rotate_left
  · intro W9 hSw
    (try dsimp only at hSw)
    go_simp
    try with_reducible rfl
  (try simp only [Act.put, List.setIfInBounds_toArray, List.set_cons_zero, List.set_cons_succ])
  refine takeL (i := 3) (v := ?_) rfl (by kernel_rfl) (by kernel_rfl) (by kernel_rfl) (fun _ _ _ h => h) ⟨by rfl, ?_⟩ (by first | assumption | trivial) ?_
  rotate_left
  · intro W9 hSw
    (try dsimp only at hSw)
    go_simp
    try with_reducible rfl
  (try simp only [Act.put, List.setIfInBounds_toArray, List.set_cons_zero, List.set_cons_succ])
  refine takeL (i := 4) (v := ?_) rfl (by kernel_rfl) (by kernel_rfl) (by kernel_rfl) (fun _ _ _ h => h) ⟨by rfl, ?_⟩ (by first | assumption | trivial) ?_
  rotate_left
  · intro W9 hSw
    (try dsimp only at hSw)
    go_simp
    try with_reducible rfl
  (try simp only [Act.put, List.setIfInBounds_toArray, List.set_cons_zero, List.set_cons_succ])
  refine takeL (i := 5) (v := ?_) rfl (by kernel_rfl) (by kernel_rfl) (by kernel_rfl) (fun _ _ _ h => h) ⟨by rfl, ?_⟩ (by first | assumption | trivial) ?_
  rotate_left
  · intro W9 hSw
    (try dsimp only at hSw)
    (have y := HCE.out _ hSw; have yl := World.block_lt_of_cell? W9 _ y)
    go_simp
    try with_reducible rfl
  (try simp only [Act.put, List.setIfInBounds_toArray, List.set_cons_zero, List.set_cons_succ])
  refine takeL (i := 6) (v := ?_) rfl (by kernel_rfl) (by kernel_rfl) (by kernel_rfl) (fun _ _ _ h => h) ⟨by rfl, ?_⟩ (by first | assumption | trivial) ?_
  rotate_left
  · intro W9 hSw
    (try dsimp only at hSw)
    go_simp
    try with_reducible rfl
  (try simp only [Act.put, List.setIfInBounds_toArray, List.set_cons_zero, List.set_cons_succ])
  refine wpAnyH_ready (rs := [1]) (by kernel_rfl) (by simp) ?_
  refine consL rfl (by rfl) (fun K hK => ?_) ?_
  · skip
    go_simp
    go_at_call 21
    refine (mlen_any S T hs L v0 (HM.out.next S0.out)).mono ?_
    rintro e v1 ⟨rfl, rfl⟩
    refine hK.out _ _ S0.out (fun _ => ?_)
    clear hK K
    (try simp only [Act.put, List.setIfInBounds_toArray, List.set_cons_zero, List.set_cons_succ])
    refine takeL (i := 7) (v := ?_) rfl (by kernel_rfl) (by kernel_rfl) (by kernel_rfl) (fun _ _ _ h => h) ⟨by rfl, ?_⟩ (by first | assumption | trivial) ?_
    rotate_left
    · intro W9 hSw
      (try dsimp only at hSw)
      go_simp
      try with_reducible rfl
    (try simp only [Act.put, List.setIfInBounds_toArray, List.set_cons_zero, List.set_cons_succ])
    refine takeL (i := 8) (v := ?_) rfl (by kernel_rfl) (by kernel_rfl) (by kernel_rfl) (fun _ _ _ h => h) ⟨by rfl, ?_⟩ (by first | assumption | trivial) ?_
    rotate_left
    · intro W9 hSw
      (try dsimp only at hSw)
      go_simp
      try with_reducible rfl
    (try simp only [Act.put, List.setIfInBounds_toArray, List.set_cons_zero, List.set_cons_succ])
    refine takeL (i := 9) (v := ?_) rfl (by kernel_rfl) (by kernel_rfl) (by kernel_rfl) (fun _ _ _ h => h) ⟨by rfl, ?_⟩ (by first | assumption | trivial) ?_
    rotate_left
    · intro W9 hSw
      (try dsimp only at hSw)
      go_simp
      try with_reducible rfl
    (try simp only [Act.put, List.setIfInBounds_toArray, List.set_cons_zero, List.set_cons_succ])
    refine takeL (i := 11) (v := ?_) rfl (by kernel_rfl) (by kernel_rfl) (by kernel_rfl) (fun _ _ _ h => h) ⟨by rfl, ?_⟩ (by first | assumption | trivial) ?_
    rotate_left
    · intro W9 hSw
      (try dsimp only at hSw)
      go_simp
      try with_reducible rfl
    (try simp only [Act.put, List.setIfInBounds_toArray, List.set_cons_zero, List.set_cons_succ])
    refine wpAnyH_ready (rs := [10]) (by kernel_rfl) (by simp) ?_
    refine consL rfl (by rfl) (fun K hK => ?_) ?_
    · skip
      go_simp
      go_at_call 24
      refine (msize_any S T hs L v0 (HM.out.next S0.out)).mono ?_
      rintro e v1 ⟨rfl, rfl⟩
      refine hK.out _ _ S0.out (fun _ => ?_)
      clear hK K
      (try simp only [Act.put, List.setIfInBounds_toArray, List.set_cons_zero, List.set_cons_succ])
      refine wpAnyH_ready (rs := [12]) (by kernel_rfl) (by simp) ?_
      refine consL rfl (by rfl) (fun K hK => ?_) ?_
      · skip
        go_simp
        go_at_call 46
        refine (dsize_any S' R hs L hL HM.out.ok v0 (HD.out.next S0.out)).mono ?_
        rintro e v1 ⟨rfl, hb⟩
        have S1 := Lib.hid (S0.out.trans (hb.mono S0.out.size))
        refine hK.out _ _ S1.out (fun _ => ?_)
        clear hK K
        (try simp only [Act.put, List.setIfInBounds_toArray, List.set_cons_zero, List.set_cons_succ])
        refine takeL (i := 13) (v := ?_) rfl (by kernel_rfl) (by kernel_rfl) (by kernel_rfl) (fun _ _ _ h => h) ⟨by rfl, ?_⟩ (by first | assumption | trivial) ?_
        rotate_left
        · intro W9 hSw
          (try dsimp only at hSw)
          go_simp
          try with_reducible rfl
        (try simp only [Act.put, List.setIfInBounds_toArray, List.set_cons_zero, List.set_cons_succ])
        refine takeL (i := 14) (v := ?_) rfl (by kernel_rfl) (by kernel_rfl) (by kernel_rfl) (fun _ _ _ h => h) ⟨by rfl, ?_⟩ (by first | assumption | trivial) ?_
        rotate_left
        · intro W9 hSw
          (try dsimp only at hSw)
          go_simp
          try with_reducible rfl
        (try simp only [Act.put, List.setIfInBounds_toArray, List.set_cons_zero, List.set_cons_succ])
        refine takeL (i := 15) (v := ?_) rfl (by kernel_rfl) (by kernel_rfl) (by kernel_rfl) (fun _ _ _ h => h) ⟨by rfl, ?_⟩ (by first | assumption | trivial) ?_
        rotate_left
        · intro W9 hSw
          (try dsimp only at hSw)
          go_simp
          try with_reducible rfl
        (try simp only [Act.put, List.setIfInBounds_toArray, List.set_cons_zero, List.set_cons_succ])
        refine takeL (i := 16) (v := ?_) rfl (by kernel_rfl) (by kernel_rfl) (by kernel_rfl) (fun _ _ _ h => h) ⟨by rfl, ?_⟩ (by first | assumption | trivial) ?_
        rotate_left
        · intro W9 hSw
          (try dsimp only at hSw)
          go_simp
          try with_reducible rfl
        (try simp only [Act.put, List.setIfInBounds_toArray, List.set_cons_zero, List.set_cons_succ])
        refine takeL (i := 17) (v := ?_) rfl (by kernel_rfl) (by kernel_rfl) (by kernel_rfl) (fun _ _ _ h => h) ⟨by rfl, ?_⟩ (by first | assumption | trivial) ?_
        rotate_left
        · intro W9 hSw
          (try dsimp only at hSw)
          go_simp
          try with_reducible rfl
        (try simp only [Act.put, List.setIfInBounds_toArray, List.set_cons_zero, List.set_cons_succ])
        refine takeL (i := 18) (v := ?_) rfl (by kernel_rfl) (by kernel_rfl) (by kernel_rfl) (fun _ _ _ h => h) ⟨by rfl, ?_⟩ (by first | assumption | trivial) ?_
        rotate_left
        · intro W9 hSw
          (try dsimp only at hSw)
          go_simp
          try with_reducible rfl
        (try simp only [Act.put, List.setIfInBounds_toArray, List.set_cons_zero, List.set_cons_succ])
        refine takeL (i := 19) (v := ?_) rfl (by kernel_rfl) (by kernel_rfl) (by kernel_rfl) (fun _ _ _ h => h) ⟨by rfl, ?_⟩ (by first | assumption | trivial) ?_
        rotate_left
        · intro W9 hSw
          (try dsimp only at hSw)
          go_simp
          try with_reducible rfl
        (try simp only [Act.put, List.setIfInBounds_toArray, List.set_cons_zero, List.set_cons_succ])
        refine takeL (i := 20) (v := ?_) rfl (by kernel_rfl) (by kernel_rfl) (by kernel_rfl) (fun _ _ _ h => h) ⟨by rfl, ?_⟩ (by first | assumption | trivial) ?_
        rotate_left
        · intro W9 hSw
          (try dsimp only at hSw)
          (have y := HCE.out _ hSw; have yl := World.block_lt_of_cell? W9 _ y)
          go_simp
          try with_reducible rfl
        (try simp only [Act.put, List.setIfInBounds_toArray, List.set_cons_zero, List.set_cons_succ])
        refine takeL (i := 21) (v := ?_) rfl (by kernel_rfl) (by kernel_rfl) (by kernel_rfl) (fun _ _ _ h => h) ⟨by rfl, ?_⟩ (by first | assumption | trivial) ?_
        rotate_left
        · intro W9 hSw
          (try dsimp only at hSw)
          go_simp
          try with_reducible rfl
        (try simp only [Act.put, List.setIfInBounds_toArray, List.set_cons_zero, List.set_cons_succ])
        refine takeL (i := 22) (v := ?_) rfl (by kernel_rfl) (by kernel_rfl) (by kernel_rfl) (fun _ _ _ h => h) ⟨by rfl, ?_⟩ (by first | assumption | trivial) ?_
        rotate_left
        · intro W9 hSw
          (try dsimp only at hSw)
          go_simp
          try with_reducible rfl
        (try simp only [Act.put, List.setIfInBounds_toArray, List.set_cons_zero, List.set_cons_succ])
        refine takeL (i := 24) (v := ?_) rfl (by kernel_rfl) (by kernel_rfl) (by kernel_rfl) (fun _ _ _ h => h) ⟨by rfl, ?_⟩ (by first | assumption | trivial) ?_
        rotate_left
        · intro W9 hSw
          (try dsimp only at hSw)
          go_simp
          try with_reducible rfl
        (try simp only [Act.put, List.setIfInBounds_toArray, List.set_cons_zero, List.set_cons_succ])
        refine wpAnyH_ready (rs := [23]) (by kernel_rfl) (by simp) ?_
        refine consL rfl (by rfl) (fun K hK => ?_) ?_
        · skip
          go_simp
          go_at_call 14
          refine (mall_e S T hs L hL v1 (HM.out.next S1.out) _ (IntWalk.i64_in _ (by omega))).mono ?_
          rintro e v2 ⟨A2, c2, rfl, r2, hb⟩
          have S2 := Lib.hid (S1.out.trans (hb.mono S1.out.size))
          refine hK.out _ _ S2.out (fun _ => ?_)
          clear hK K
          (try simp only [Act.put, List.setIfInBounds_toArray, List.set_cons_zero, List.set_cons_succ])
          have R2 := Lib.hid r2
          clear r2
          refine wpAnyH_ready (rs := [25]) (by kernel_rfl) (by simp) ?_
          refine consL rfl (by rfl) (fun K hK => ?_) ?_
          · skip
            go_simp
            go_at_call 33
            refine (dall_e S' R hs L hL v2 (HD.out.next S2.out)).mono ?_
            rintro e v3 ⟨A3, c3, rfl, -, r3, hb⟩
            have S3 := Lib.hid (S2.out.trans (hb.mono S2.out.size))
            refine hK.out _ _ S3.out (fun _ => ?_)
            clear hK K
            (try simp only [Act.put, List.setIfInBounds_toArray, List.set_cons_zero, List.set_cons_succ])
            have R3 := Lib.hid r3
            have R23 := Lib.hid ((R2.out.below hb).more hb.size)
            clear r3 R2
            refine wpAnyH_ready (rs := [26]) (by kernel_rfl) (by simp) ?_
            refine consL rfl (by rfl) (fun K hK => ?_) ?_
            · skip
              go_simp
              go_at_call 15
              refine (sameT_any A2 A3 L.length c2 c3 (L.map Prod.fst) (List.length_map _) (by omega) v3 R23.out R3.out).mono ?_
              rintro e v4 ⟨rfl, hb⟩
              have S4 := Lib.hid (S3.out.trans (hb.mono S3.out.size))
              refine hK.out _ _ S4.out (fun _ => ?_)
              clear hK K
              (try simp only [Act.put, List.setIfInBounds_toArray, List.set_cons_zero, List.set_cons_succ])
              refine takeL (i := 27) (v := ?_) rfl (by kernel_rfl) (by kernel_rfl) (by kernel_rfl) (fun _ _ _ h => h) ⟨by rfl, ?_⟩ (by first | assumption | trivial) ?_
              rotate_left
              · intro W9 hSw
                (try dsimp only at hSw)
                go_simp
                try with_reducible rfl
              (try simp only [Act.put, List.setIfInBounds_toArray, List.set_cons_zero, List.set_cons_succ])
              refine takeL (i := 28) (v := ?_) rfl (by kernel_rfl) (by kernel_rfl) (by kernel_rfl) (fun _ _ _ h => h) ⟨by rfl, ?_⟩ (by first | assumption | trivial) ?_
              rotate_left
              · intro W9 hSw
                (try dsimp only at hSw)
                go_simp
                try with_reducible rfl
              (try simp only [Act.put, List.setIfInBounds_toArray, List.set_cons_zero, List.set_cons_succ])
              refine wpAnyH_done (by kernel_rfl) ?_ _
              clear R23 R3 S0 S1 S2 S3
              go_wp2_with fail
              go_loopw [7] (fun s7 wr => ∃ h : Int, s7 = .int .i64 h ∧ -1 ≤ h ∧ h ≤ 14 ∧ Hid (Below w.heap.size w wr)) (fun s7 _ => (14 - intOf s7).toNat)
              case atStart => exact ⟨-1, rfl, by omega, by omega, S4⟩
              case round =>
                clear S4
                obtain ⟨h, rfl, h1, h2, B5⟩ := hrel
                obtain ⟨w5, rfl⟩ : ∃ x, x = wr := ⟨_, rfl⟩
                by_cases h13 : h ≤ 13
                · have HLL := lnL_len h L
                  go_wp2_with fail
                  refine (mlane_any S T hs L hL h w5 (HM.out.next B5.out)).mono ?_
                  rintro e w6 ⟨v, rfl, own, hb⟩
                  obtain ⟨A6, c6, rfl, -, r6⟩ := own_sl own
                  have B6 := Lib.hid (B5.out.trans (hb.mono B5.out.size))
                  have R6 := Lib.hid r6
                  clear own hb r6
                  go_wp2_with fail
                  refine (dlane_any S' R hs L hL h w6 (HD.out.next B6.out)).mono ?_
                  rintro e w7 ⟨v, rfl, own, hb⟩
                  obtain ⟨A7, c7, rfl, -, r7⟩ := own_sl own
                  have B7 := Lib.hid (B6.out.trans (hb.mono B6.out.size))
                  have R67 := Lib.hid ((R6.out.below hb).more hb.size)
                  have R7 := Lib.hid r7
                  clear own hb r7 R6
                  go_wp2_with fail
                  refine (sameTI_any A6 A7 (lnL h L).length c6 c7 (lnL h L) rfl (by omega) w7 R67.out R7.out).mono ?_
                  rintro e w8 ⟨rfl, hb⟩
                  have B8 := Lib.hid (B7.out.trans (hb.mono B7.out.size))
                  clear hb R67 R7 B7 B6 B5
                  have hw : IntKind.i64.wrap (h + 1) = h + 1 := IntWalk.i64_in _ (by omega)
                  go_wp2_with fail
                  go_roundw
                  case rel => exact ⟨h + 1, rfl, by omega, by omega, B8⟩
                  case measure => (first | (simp [intOf]; done) | (simp [intOf]; omega))
                go_wp2_with fail
                go_loopw [8] (fun s8 wr => ∃ i : Nat, s8 = .int .i64 (i : Int) ∧ i ≤ k ∧ Hid (Below w.heap.size w wr)) (fun s8 _ => k - (intOf s8).toNat)
                case atStart => exact ⟨0, rfl, Nat.zero_le _, B5⟩
                case round =>
                  clear B5 h1 h2 h13
                  obtain ⟨i, rfl, hi, B5⟩ := hrel
                  obtain ⟨w5, rfl⟩ : ∃ x, x = wr := ⟨_, rfl⟩
                  by_cases hlt : i < k
                  case neg =>
                    have i1 : ¬ (i : Int) < (k : Int) := by omega
                    go_wp2_with fail
                    go_ret
                    exact ⟨rfl, B5.out⟩
                  obtain ⟨x, hx⟩ : ∃ x, qs[i]? = some x := ⟨_, List.getElem?_eq_getElem (by rw [HL.out]; exact hlt)⟩
                  obtain ⟨b, off, rfl, hb, hce⟩ := ask_at HR.out hx
                  have d0 := (B5.out.cell (p := ⟨b, off + i * 5, none⟩) hb).trans (hce 0 _ rfl)
                  have d1 := (B5.out.cell (p := ⟨b, off + i * 5 + 1, none⟩) hb).trans (hce 1 _ rfl)
                  have d2 := (B5.out.cell (p := ⟨b, off + i * 5 + 2, none⟩) hb).trans (hce 2 _ rfl)
                  have d3 := (B5.out.cell (p := ⟨b, off + i * 5 + 3, none⟩) hb).trans (hce 3 _ rfl)
                  have d4 := (B5.out.cell (p := ⟨b, off + i * 5 + 4, none⟩) hb).trans (hce 4 _ rfl)
                  have zb : b < w5.heap.size := Nat.lt_of_lt_of_le hb B5.out.size
                  have i1 : (i : Int) < (k : Int) := by omega
                  have i0 : (0 : Int) ≤ (i : Int) := by omega
                  clear hce hx
                  go_upto_region 12 with (fail)
                  have hal : Below w5.heap.size w5 (w5.alloc (.cells #[.string x.key, .int .i64 x.seq, .string x.fr, .string x.to_, .int .i64 x.lane] 41)) := (Below.refl _ _).alloc (Nat.le_refl _) _
                  have B6 := Lib.hid (B5.out.trans (hal.mono B5.out.size))
                  have XA : BxV (w5.alloc (.cells #[.string x.key, .int .i64 x.seq, .string x.fr, .string x.to_, .int .i64 x.lane] 41)) w5.heap.size [.string x.key, .int .i64 x.seq, .string x.fr, .string x.to_, .int .i64 x.lane] := BxV.new w5 _ _
                  generalize w5.alloc (.cells #[.string x.key, .int .i64 x.seq, .string x.fr, .string x.to_, .int .i64 x.lane] 41) = w6 at *
                  generalize w5.heap.size = ba at *
                  have HXA := Lib.hid XA
                  clear XA hal B5 d0 d1 d2 d3 d4 zb
                  have a0 := (HXA.out).c 0 _ rfl
                  have a1 := (HXA.out).c 1 _ rfl
                  have a2 := (HXA.out).c 2 _ rfl
                  have a3 := (HXA.out).c 3 _ rfl
                  have a4 := (HXA.out).c 4 _ rfl
                  have al := (HXA.out).lt
                  go_wp2_with fail
                  refine (mget_any S T hs L hL x.key x.seq w6 (HM.out.next B6.out)).mono ?_
                  rintro e w7 ⟨rfl, hb⟩
                  have HG := Lib.hid (fun W h => dget_any S' R hs L hL x.key x.seq W h)
                  generalize fndE (L.map Prod.fst) x.key x.seq = z at *
                  generalize isE (L.map Prod.fst) x.key x.seq = tt at *
                  rw [show z.v = .agg #[.string z.key, .string z.val, .int .i64 z.seq, .bool z.del] from rfl] at HG ⊢
                  have B7 := Lib.hid (B6.out.trans (hb.mono B6.out.size))
                  have HX7 := Lib.hid (HXA.out.next hb)
                  clear hb B6 HXA a0 a1 a2 a3 a4 al
                  go_upto_region 13 with (fail)
                  have hal : Below w7.heap.size w7 (w7.alloc (.cells #[.string z.key, .string z.val, .int .i64 z.seq, .bool z.del] 32)) := (Below.refl _ _).alloc (Nat.le_refl _) _
                  have B8 := Lib.hid (B7.out.trans (hal.mono B7.out.size))
                  have HX8 := Lib.hid (HX7.out.next hal)
                  have XZ8 : Hid (BxV (w7.alloc (.cells #[.string z.key, .string z.val, .int .i64 z.seq, .bool z.del] 32)) w7.heap.size [.string z.key, .string z.val, .int .i64 z.seq, .bool z.del]) := Lib.hid (BxV.new w7 _ _)
                  generalize w7.alloc (.cells #[.string z.key, .string z.val, .int .i64 z.seq, .bool z.del] 32) = w8 at *
                  generalize w7.heap.size = bz at *
                  clear hal B7 HX7
                  have a0 := (HX8.out).c 0 _ rfl
                  have a1 := (HX8.out).c 1 _ rfl
                  have a2 := (HX8.out).c 2 _ rfl
                  have a3 := (HX8.out).c 3 _ rfl
                  have a4 := (HX8.out).c 4 _ rfl
                  have al := (HX8.out).lt
                  go_wp2_with fail
                  refine (HG.out w8 (HD.out.next B8.out)).mono ?_
                  rintro e w9 ⟨rfl, hb⟩
                  have B9 := Lib.hid (B8.out.trans (hb.mono B8.out.size))
                  have HX9 := Lib.hid (HX8.out.next hb)
                  have XZ9 := Lib.hid (XZ8.out.next hb)
                  clear hb B8 HX8 XZ8 HG a0 a1 a2 a3 a4 al
                  go_upto_region 14 with (fail)
                  have hal : Below w9.heap.size w9 (w9.alloc (.cells #[.string z.key, .string z.val, .int .i64 z.seq, .bool z.del] 32)) := (Below.refl _ _).alloc (Nat.le_refl _) _
                  have B10 := Lib.hid (B9.out.trans (hal.mono B9.out.size))
                  have HX10 := Lib.hid (HX9.out.next hal)
                  have XZ10 := Lib.hid (XZ9.out.next hal)
                  have XY10 : Hid (BxV (w9.alloc (.cells #[.string z.key, .string z.val, .int .i64 z.seq, .bool z.del] 32)) w9.heap.size [.string z.key, .string z.val, .int .i64 z.seq, .bool z.del]) := Lib.hid (BxV.new w9 _ _)
                  generalize w9.alloc (.cells #[.string z.key, .string z.val, .int .i64 z.seq, .bool z.del] 32) = wa at *
                  generalize w9.heap.size = by_ at *
                  clear hal B9 HX9 XZ9
                  have hdr : Below wa.heap.size wa wa.drew := Below.drew (Below.refl _ _)
                  refine wp_heldall (S := fun W => Below wa.heap.size wa W) 39 (by kernel_rfl) rfl hdr (fun hHeld => ?_)
                  clear hHeld
                  have S0 := Lib.hid hdr
                  clear hdr
                  have hzz : (z.key.toList != z.key.toList) = false := by simp
                  have hzv : (z.val.toList != z.val.toList) = false := by simp
                  generalize wa.drew = v0 at *
                  refine takeL (i := 0) (v := ?_) rfl (by kernel_rfl) (by kernel_rfl) (by kernel_rfl) (fun _ _ _ h => h) ⟨by rfl, ?_⟩ (by first | assumption | trivial) ?_
                  rotate_left
                  · intro W9 hSw
                    (try dsimp only at hSw)
                    (have y0 := (XZ10.out.next hSw).c 0 _ rfl; have y1 := (XZ10.out.next hSw).c 1 _ rfl; have y2 := (XZ10.out.next hSw).c 2 _ rfl; have y3 := (XZ10.out.next hSw).c 3 _ rfl; have yl := (XZ10.out.next hSw).lt)
                    go_simp
                    try with_reducible rfl
                  (try simp only [Act.put, List.setIfInBounds_toArray, List.set_cons_zero, List.set_cons_succ])
                  refine takeL (i := 1) (v := ?_) rfl (by kernel_rfl) (by kernel_rfl) (by kernel_rfl) (fun _ _ _ h => h) ⟨by rfl, ?_⟩ (by first | assumption | trivial) ?_
                  rotate_left
                  · intro W9 hSw
                    (try dsimp only at hSw)
                    (have y0 := (XY10.out.next hSw).c 0 _ rfl; have y1 := (XY10.out.next hSw).c 1 _ rfl; have y2 := (XY10.out.next hSw).c 2 _ rfl; have y3 := (XY10.out.next hSw).c 3 _ rfl; have yl := (XY10.out.next hSw).lt)
                    go_simp
                    try with_reducible rfl
                  (try simp only [Act.put, List.setIfInBounds_toArray, List.set_cons_zero, List.set_cons_succ])
                  refine takeL (i := 2) (v := ?_) rfl (by kernel_rfl) (by kernel_rfl) (by kernel_rfl) (fun _ _ _ h => h) ⟨by rfl, ?_⟩ (by first | assumption | trivial) ?_
                  rotate_left
                  · intro W9 hSw
                    (try dsimp only at hSw)
                    go_simp
                    try with_reducible rfl
                  (try simp only [Act.put, List.setIfInBounds_toArray, List.set_cons_zero, List.set_cons_succ])
                  refine takeL (i := 3) (v := ?_) rfl (by kernel_rfl) (by kernel_rfl) (by kernel_rfl) (fun _ _ _ h => h) ⟨by rfl, ?_⟩ (by first | assumption | trivial) ?_
                  rotate_left
                  · intro W9 hSw
                    (try dsimp only at hSw)
                    go_simp
                    try with_reducible rfl
                  (try simp only [Act.put, List.setIfInBounds_toArray, List.set_cons_zero, List.set_cons_succ])
                  refine takeL (i := 4) (v := ?_) rfl (by kernel_rfl) (by kernel_rfl) (by kernel_rfl) (fun _ _ _ h => h) ⟨by rfl, ?_⟩ (by first | assumption | trivial) ?_
                  rotate_left
                  · intro W9 hSw
                    (try dsimp only at hSw)
                    go_simp
                    try with_reducible rfl
                  (try simp only [Act.put, List.setIfInBounds_toArray, List.set_cons_zero, List.set_cons_succ])
                  refine takeL (i := 5) (v := ?_) rfl (by kernel_rfl) (by kernel_rfl) (by kernel_rfl) (fun _ _ _ h => h) ⟨by rfl, ?_⟩ (by first | assumption | trivial) ?_
                  rotate_left
                  · intro W9 hSw
                    (try dsimp only at hSw)
                    go_simp
                    try with_reducible rfl
                  (try simp only [Act.put, List.setIfInBounds_toArray, List.set_cons_zero, List.set_cons_succ])
                  refine takeL (i := 6) (v := ?_) rfl (by kernel_rfl) (by kernel_rfl) (by kernel_rfl) (fun _ _ _ h => h) ⟨by rfl, ?_⟩ (by first | assumption | trivial) ?_
                  rotate_left
                  · intro W9 hSw
                    (try dsimp only at hSw)
                    go_simp
                    try with_reducible rfl
                  (try simp only [Act.put, List.setIfInBounds_toArray, List.set_cons_zero, List.set_cons_succ])
                  refine takeL (i := 7) (v := ?_) rfl (by kernel_rfl) (by kernel_rfl) (by kernel_rfl) (fun _ _ _ h => h) ⟨by rfl, ?_⟩ (by first | assumption | trivial) ?_
                  rotate_left
                  · intro W9 hSw
                    (try dsimp only at hSw)
                    go_simp
                    try with_reducible rfl
                  (try simp only [Act.put, List.setIfInBounds_toArray, List.set_cons_zero, List.set_cons_succ])
                  refine takeL (i := 8) (v := ?_) rfl (by kernel_rfl) (by kernel_rfl) (by kernel_rfl) (fun _ _ _ h => h) ⟨by rfl, ?_⟩ (by first | assumption | trivial) ?_
                  rotate_left
                  · intro W9 hSw
                    (try dsimp only at hSw)
                    go_simp
                    try with_reducible rfl
                  (try simp only [Act.put, List.setIfInBounds_toArray, List.set_cons_zero, List.set_cons_succ])
                  refine takeL (i := 9) (v := ?_) rfl (by kernel_rfl) (by kernel_rfl) (by kernel_rfl) (fun _ _ _ h => h) ⟨by rfl, ?_⟩ (by first | assumption | trivial) ?_
                  rotate_left
                  · intro W9 hSw
                    (try dsimp only at hSw)
                    go_simp
                    try with_reducible rfl
                  (try simp only [Act.put, List.setIfInBounds_toArray, List.set_cons_zero, List.set_cons_succ])
                  refine takeL (i := 10) (v := ?_) rfl (by kernel_rfl) (by kernel_rfl) (by kernel_rfl) (fun _ _ _ h => h) ⟨by rfl, ?_⟩ (by first | assumption | trivial) ?_
                  rotate_left
                  · intro W9 hSw
                    (try dsimp only at hSw)
                    go_simp
                    try with_reducible rfl
                  (try simp only [Act.put, List.setIfInBounds_toArray, List.set_cons_zero, List.set_cons_succ])
                  refine takeL (i := 11) (v := ?_) rfl (by kernel_rfl) (by kernel_rfl) (by kernel_rfl) (fun _ _ _ h => h) ⟨by rfl, ?_⟩ (by first | assumption | trivial) ?_
                  rotate_left
                  · intro W9 hSw
                    (try dsimp only at hSw)
                    (have y0 := (HX10.out.next hSw).c 0 _ rfl; have y1 := (HX10.out.next hSw).c 1 _ rfl; have y2 := (HX10.out.next hSw).c 2 _ rfl; have y3 := (HX10.out.next hSw).c 3 _ rfl; have yl := (HX10.out.next hSw).lt)
                    go_simp
                    try with_reducible rfl
                  (try simp only [Act.put, List.setIfInBounds_toArray, List.set_cons_zero, List.set_cons_succ])
                  refine takeL (i := 12) (v := ?_) rfl (by kernel_rfl) (by kernel_rfl) (by kernel_rfl) (fun _ _ _ h => h) ⟨by rfl, ?_⟩ (by first | assumption | trivial) ?_
                  rotate_left
                  · intro W9 hSw
                    (try dsimp only at hSw)
                    go_simp
                    try with_reducible rfl
                  (try simp only [Act.put, List.setIfInBounds_toArray, List.set_cons_zero, List.set_cons_succ])
                  refine takeL (i := 13) (v := ?_) rfl (by kernel_rfl) (by kernel_rfl) (by kernel_rfl) (fun _ _ _ h => h) ⟨by rfl, ?_⟩ (by first | assumption | trivial) ?_
                  rotate_left
                  · intro W9 hSw
                    (try dsimp only at hSw)
                    (have y0 := (HX10.out.next hSw).c 0 _ rfl; have y1 := (HX10.out.next hSw).c 1 _ rfl; have y2 := (HX10.out.next hSw).c 2 _ rfl; have y3 := (HX10.out.next hSw).c 3 _ rfl; have yl := (HX10.out.next hSw).lt)
                    go_simp
                    try with_reducible rfl
                  (try simp only [Act.put, List.setIfInBounds_toArray, List.set_cons_zero, List.set_cons_succ])
                  refine takeL (i := 15) (v := ?_) rfl (by kernel_rfl) (by kernel_rfl) (by kernel_rfl) (fun _ _ _ h => h) ⟨by rfl, ?_⟩ (by first | assumption | trivial) ?_
                  rotate_left
                  · intro W9 hSw
                    (try dsimp only at hSw)
                    go_simp
                    try with_reducible rfl
                  (try simp only [Act.put, List.setIfInBounds_toArray, List.set_cons_zero, List.set_cons_succ])
                  refine takeL (i := 16) (v := ?_) rfl (by kernel_rfl) (by kernel_rfl) (by kernel_rfl) (fun _ _ _ h => h) ⟨by rfl, ?_⟩ (by first | assumption | trivial) ?_
                  rotate_left
                  · intro W9 hSw
                    (try dsimp only at hSw)
                    go_simp
                    try with_reducible rfl
                  (try simp only [Act.put, List.setIfInBounds_toArray, List.set_cons_zero, List.set_cons_succ])
                  refine takeL (i := 17) (v := ?_) rfl (by kernel_rfl) (by kernel_rfl) (by kernel_rfl) (fun _ _ _ h => h) ⟨by rfl, ?_⟩ (by first | assumption | trivial) ?_
                  rotate_left
                  · intro W9 hSw
                    (try dsimp only at hSw)
                    (have y0 := (HX10.out.next hSw).c 0 _ rfl; have y1 := (HX10.out.next hSw).c 1 _ rfl; have y2 := (HX10.out.next hSw).c 2 _ rfl; have y3 := (HX10.out.next hSw).c 3 _ rfl; have yl := (HX10.out.next hSw).lt)
                    go_simp
                    try with_reducible rfl
                  (try simp only [Act.put, List.setIfInBounds_toArray, List.set_cons_zero, List.set_cons_succ])
                  refine takeL (i := 18) (v := ?_) rfl (by kernel_rfl) (by kernel_rfl) (by kernel_rfl) (fun _ _ _ h => h) ⟨by rfl, ?_⟩ (by first | assumption | trivial) ?_
                  rotate_left
                  · intro W9 hSw
                    (try dsimp only at hSw)
                    go_simp
                    try with_reducible rfl
                  (try simp only [Act.put, List.setIfInBounds_toArray, List.set_cons_zero, List.set_cons_succ])
                  refine takeL (i := 19) (v := ?_) rfl (by kernel_rfl) (by kernel_rfl) (by kernel_rfl) (fun _ _ _ h => h) ⟨by rfl, ?_⟩ (by first | assumption | trivial) ?_
                  rotate_left
                  · intro W9 hSw
                    (try dsimp only at hSw)
                    (have y0 := (HX10.out.next hSw).c 0 _ rfl; have y1 := (HX10.out.next hSw).c 1 _ rfl; have y2 := (HX10.out.next hSw).c 2 _ rfl; have y3 := (HX10.out.next hSw).c 3 _ rfl; have yl := (HX10.out.next hSw).lt)
                    go_simp
                    try with_reducible rfl
                  (try simp only [Act.put, List.setIfInBounds_toArray, List.set_cons_zero, List.set_cons_succ])
                  refine wpAnyH_ready (rs := [14]) (by kernel_rfl) (by simp) ?_
                  refine consL rfl (by rfl) (fun K hK => ?_) ?_
                  · skip
                    go_simp
                    go_at_call 20
                    refine (mcost_any S T hs L hL x.key x.seq v0 (HM.out.next (B10.out.trans (S0.out.mono B10.out.size)))).mono ?_
                    rintro e v1 ⟨rfl, hb⟩
                    have S1 := Lib.hid (S0.out.trans (hb.mono S0.out.size))
                    refine hK.out _ _ S1.out (fun _ => ?_)
                    clear hK K
                    (try simp only [Act.put, List.setIfInBounds_toArray, List.set_cons_zero, List.set_cons_succ])
                    refine wpAnyH_ready (rs := [20]) (by kernel_rfl) (by simp) ?_
                    refine consL rfl (by rfl) (fun K hK => ?_) ?_
                    · skip
                      go_simp
                      go_at_call 49
                      refine (dcost_any S' R hs L hL x.key x.seq v1 (HD.out.next (B10.out.trans (S1.out.mono B10.out.size)))).mono ?_
                      rintro e v2 ⟨rfl, hb⟩
                      have S2 := Lib.hid (S1.out.trans (hb.mono S1.out.size))
                      refine hK.out _ _ S2.out (fun _ => ?_)
                      clear hK K
                      (try simp only [Act.put, List.setIfInBounds_toArray, List.set_cons_zero, List.set_cons_succ])
                      refine takeL (i := 21) (v := ?_) rfl (by kernel_rfl) (by kernel_rfl) (by kernel_rfl) (fun _ _ _ h => h) ⟨by rfl, ?_⟩ (by first | assumption | trivial) ?_
                      rotate_left
                      · intro W9 hSw
                        (try dsimp only at hSw)
                        go_simp
                        try with_reducible rfl
                      (try simp only [Act.put, List.setIfInBounds_toArray, List.set_cons_zero, List.set_cons_succ])
                      refine takeL (i := 22) (v := ?_) rfl (by kernel_rfl) (by kernel_rfl) (by kernel_rfl) (fun _ _ _ h => h) ⟨by rfl, ?_⟩ (by first | assumption | trivial) ?_
                      rotate_left
                      · intro W9 hSw
                        (try dsimp only at hSw)
                        go_simp
                        try with_reducible rfl
                      (try simp only [Act.put, List.setIfInBounds_toArray, List.set_cons_zero, List.set_cons_succ])
                      refine takeL (i := 23) (v := ?_) rfl (by kernel_rfl) (by kernel_rfl) (by kernel_rfl) (fun _ _ _ h => h) ⟨by rfl, ?_⟩ (by first | assumption | trivial) ?_
                      rotate_left
                      · intro W9 hSw
                        (try dsimp only at hSw)
                        go_simp
                        try with_reducible rfl
                      (try simp only [Act.put, List.setIfInBounds_toArray, List.set_cons_zero, List.set_cons_succ])
                      refine takeL (i := 24) (v := ?_) rfl (by kernel_rfl) (by kernel_rfl) (by kernel_rfl) (fun _ _ _ h => h) ⟨by rfl, ?_⟩ (by first | assumption | trivial) ?_
                      rotate_left
                      · intro W9 hSw
                        (try dsimp only at hSw)
                        go_simp
                        try with_reducible rfl
                      (try simp only [Act.put, List.setIfInBounds_toArray, List.set_cons_zero, List.set_cons_succ])
                      refine takeL (i := 25) (v := ?_) rfl (by kernel_rfl) (by kernel_rfl) (by kernel_rfl) (fun _ _ _ h => h) ⟨by rfl, ?_⟩ (by first | assumption | trivial) ?_
                      rotate_left
                      · intro W9 hSw
                        (try dsimp only at hSw)
                        go_simp
                        try with_reducible rfl
                      (try simp only [Act.put, List.setIfInBounds_toArray, List.set_cons_zero, List.set_cons_succ])
                      refine takeL (i := 26) (v := ?_) rfl (by kernel_rfl) (by kernel_rfl) (by kernel_rfl) (fun _ _ _ h => h) ⟨by rfl, ?_⟩ (by first | assumption | trivial) ?_
                      rotate_left
                      · intro W9 hSw
                        (try dsimp only at hSw)
                        (have y0 := (HX10.out.next hSw).c 0 _ rfl; have y1 := (HX10.out.next hSw).c 1 _ rfl; have y2 := (HX10.out.next hSw).c 2 _ rfl; have y3 := (HX10.out.next hSw).c 3 _ rfl; have yl := (HX10.out.next hSw).lt)
                        go_simp
                        try with_reducible rfl
                      (try simp only [Act.put, List.setIfInBounds_toArray, List.set_cons_zero, List.set_cons_succ])
                      refine takeL (i := 27) (v := ?_) rfl (by kernel_rfl) (by kernel_rfl) (by kernel_rfl) (fun _ _ _ h => h) ⟨by rfl, ?_⟩ (by first | assumption | trivial) ?_
                      rotate_left
                      · intro W9 hSw
                        (try dsimp only at hSw)
                        go_simp
                        try with_reducible rfl
                      (try simp only [Act.put, List.setIfInBounds_toArray, List.set_cons_zero, List.set_cons_succ])
                      refine takeL (i := 28) (v := ?_) rfl (by kernel_rfl) (by kernel_rfl) (by kernel_rfl) (fun _ _ _ h => h) ⟨by rfl, ?_⟩ (by first | assumption | trivial) ?_
                      rotate_left
                      · intro W9 hSw
                        (try dsimp only at hSw)
                        (have y0 := (HX10.out.next hSw).c 0 _ rfl; have y1 := (HX10.out.next hSw).c 1 _ rfl; have y2 := (HX10.out.next hSw).c 2 _ rfl; have y3 := (HX10.out.next hSw).c 3 _ rfl; have yl := (HX10.out.next hSw).lt)
                        go_simp
                        try with_reducible rfl
                      (try simp only [Act.put, List.setIfInBounds_toArray, List.set_cons_zero, List.set_cons_succ])
                      refine takeL (i := 30) (v := ?_) rfl (by kernel_rfl) (by kernel_rfl) (by kernel_rfl) (fun _ _ _ h => h) ⟨by rfl, ?_⟩ (by first | assumption | trivial) ?_
                      rotate_left
                      · intro W9 hSw
                        (try dsimp only at hSw)
                        go_simp
                        try with_reducible rfl
                      (try simp only [Act.put, List.setIfInBounds_toArray, List.set_cons_zero, List.set_cons_succ])
                      refine takeL (i := 31) (v := ?_) rfl (by kernel_rfl) (by kernel_rfl) (by kernel_rfl) (fun _ _ _ h => h) ⟨by rfl, ?_⟩ (by first | assumption | trivial) ?_
                      rotate_left
                      · intro W9 hSw
                        (try dsimp only at hSw)
                        go_simp
                        try with_reducible rfl
                      (try simp only [Act.put, List.setIfInBounds_toArray, List.set_cons_zero, List.set_cons_succ])
                      refine takeL (i := 32) (v := ?_) rfl (by kernel_rfl) (by kernel_rfl) (by kernel_rfl) (fun _ _ _ h => h) ⟨by rfl, ?_⟩ (by first | assumption | trivial) ?_
                      rotate_left
                      · intro W9 hSw
                        (try dsimp only at hSw)
                        (have y0 := (HX10.out.next hSw).c 0 _ rfl; have y1 := (HX10.out.next hSw).c 1 _ rfl; have y2 := (HX10.out.next hSw).c 2 _ rfl; have y3 := (HX10.out.next hSw).c 3 _ rfl; have yl := (HX10.out.next hSw).lt)
                        go_simp
                        try with_reducible rfl
                      (try simp only [Act.put, List.setIfInBounds_toArray, List.set_cons_zero, List.set_cons_succ])
                      refine takeL (i := 33) (v := ?_) rfl (by kernel_rfl) (by kernel_rfl) (by kernel_rfl) (fun _ _ _ h => h) ⟨by rfl, ?_⟩ (by first | assumption | trivial) ?_
                      rotate_left
                      · intro W9 hSw
                        (try dsimp only at hSw)
                        go_simp
                        try with_reducible rfl
                      (try simp only [Act.put, List.setIfInBounds_toArray, List.set_cons_zero, List.set_cons_succ])
                      refine takeL (i := 34) (v := ?_) rfl (by kernel_rfl) (by kernel_rfl) (by kernel_rfl) (fun _ _ _ h => h) ⟨by rfl, ?_⟩ (by first | assumption | trivial) ?_
                      rotate_left
                      · intro W9 hSw
                        (try dsimp only at hSw)
                        (have y0 := (HX10.out.next hSw).c 0 _ rfl; have y1 := (HX10.out.next hSw).c 1 _ rfl; have y2 := (HX10.out.next hSw).c 2 _ rfl; have y3 := (HX10.out.next hSw).c 3 _ rfl; have yl := (HX10.out.next hSw).lt)
                        go_simp
                        try with_reducible rfl
                      (try simp only [Act.put, List.setIfInBounds_toArray, List.set_cons_zero, List.set_cons_succ])
                      refine wpAnyH_ready (rs := [29]) (by kernel_rfl) (by simp) ?_
                      refine consL rfl (by rfl) (fun K hK => ?_) ?_
                      · skip
                        go_simp
                        go_at_call 18
                        refine (mscan_any S T hs L hL x.fr x.to_ x.seq v2 (HM.out.next (B10.out.trans (S2.out.mono B10.out.size)))).mono ?_
                        rintro e v3 ⟨u3, rfl, own3, hb⟩
                        have S3 := Lib.hid (S2.out.trans (hb.mono S2.out.size))
                        refine hK.out _ _ S3.out (fun _ => ?_)
                        clear hK K
                        (try simp only [Act.put, List.setIfInBounds_toArray, List.set_cons_zero, List.set_cons_succ])
                        obtain ⟨A3, c3, rfl, -, r3⟩ := own_sl own3
                        have R3 := Lib.hid r3
                        clear r3 own3
                        refine wpAnyH_ready (rs := [35]) (by kernel_rfl) (by simp) ?_
                        refine consL rfl (by rfl) (fun K hK => ?_) ?_
                        · skip
                          go_simp
                          go_at_call 50
                          refine (dscan_any S' R hs L hL x.fr x.to_ x.seq v3 (HD.out.next (B10.out.trans (S3.out.mono B10.out.size)))).mono ?_
                          rintro e v4 ⟨u4, rfl, own4, hb⟩
                          have S4 := Lib.hid (S3.out.trans (hb.mono S3.out.size))
                          refine hK.out _ _ S4.out (fun _ => ?_)
                          clear hK K
                          (try simp only [Act.put, List.setIfInBounds_toArray, List.set_cons_zero, List.set_cons_succ])
                          obtain ⟨A4, c4, rfl, -, r4⟩ := own_sl own4
                          have R4 := Lib.hid r4
                          have R34 := Lib.hid ((R3.out.below hb).more hb.size)
                          clear r4 own4 R3
                          refine wpAnyH_ready (rs := [36]) (by kernel_rfl) (by simp) ?_
                          refine consL rfl (by rfl) (fun K hK => ?_) ?_
                          · skip
                            go_simp
                            go_at_call 15
                            refine (sameT_any A3 A4 _ c3 c4 (visE x.fr x.to_ x.seq (L.map Prod.fst)) rfl (by have := visE_len x.fr x.to_ x.seq (L.map Prod.fst); rw [List.length_map] at this; omega) v4 R34.out R4.out).mono ?_
                            rintro e v5 ⟨rfl, hb⟩
                            have S5 := Lib.hid (S4.out.trans (hb.mono S4.out.size))
                            refine hK.out _ _ S5.out (fun _ => ?_)
                            clear hK K
                            (try simp only [Act.put, List.setIfInBounds_toArray, List.set_cons_zero, List.set_cons_succ])
                            refine takeL (i := 37) (v := ?_) rfl (by kernel_rfl) (by kernel_rfl) (by kernel_rfl) (fun _ _ _ h => h) ⟨by rfl, ?_⟩ (by first | assumption | trivial) ?_
                            rotate_left
                            · intro W9 hSw
                              (try dsimp only at hSw)
                              go_simp
                              try with_reducible rfl
                            (try simp only [Act.put, List.setIfInBounds_toArray, List.set_cons_zero, List.set_cons_succ])
                            refine takeL (i := 38) (v := ?_) rfl (by kernel_rfl) (by kernel_rfl) (by kernel_rfl) (fun _ _ _ h => h) ⟨by rfl, ?_⟩ (by first | assumption | trivial) ?_
                            rotate_left
                            · intro W9 hSw
                              (try dsimp only at hSw)
                              go_simp
                              try with_reducible rfl
                            (try simp only [Act.put, List.setIfInBounds_toArray, List.set_cons_zero, List.set_cons_succ])
                            have B11 := Lib.hid (B10.out.trans (S5.out.mono B10.out.size))
                            refine wpAnyH_done (by kernel_rfl) ?_ _
                            clear R34 R4 S0 S1 S2 S3 S4 S5 B10
                            go_wp2_with fail
                            go_roundw
                            case rel => exact ⟨i + 1, by go_num, by omega, B11⟩
                            case measure => (first | (simp [intOf]; done) | (simp [intOf]; omega))
                          · exact AllReadyH.nil
                        · exact AllReadyH.nil
                      · exact AllReadyH.nil
                    · exact AllReadyH.nil
                  · exact AllReadyH.nil
            · exact AllReadyH.nil
          · exact AllReadyH.nil
        · exact AllReadyH.nil
      · exact AllReadyH.nil
    · exact AllReadyH.nil
  · exact AllReadyH.nil
end Go.Proofs.Ytjhgbdeadkoegaa
