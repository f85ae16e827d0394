/- Walk: whatever is done to a memtable, call by call, it tells what the document says. -/
import Derived.Test.YtjhgbdeadkoegaaMh
import Derived.Test.YtjhgbdeadkoegaaEj
import Derived.Test.YtjhgbdeadkoegaaLy
import Derived.Test.YtjhgbdeadkoegaaPick
namespace Go.Proofs.Ytjhgbdeadkoegaa
open Go.RowKit Go.St Go.Shelf Go.Maps
set_option linter.unusedVariables false
set_option linter.unusedSimpArgs false
set_option maxRecDepth 100000

/-- The program's table and the document's, side by side: each has blocks of its own. -/
def TwoT (W : World) (g0 T R : Nat) (hs : List Int) (L : List Ld) : Prop := ∃ S1 S2 : Nat → Prop, Mt W S1 T hs L ∧ Dt W S2 R hs L ∧ (∀ g, S1 g → ¬ S2 g) ∧ (∀ g, S1 g → g0 ≤ g ∧ g < W.heap.size) ∧ (∀ g, S2 g → g0 ≤ g ∧ g < W.heap.size)
theorem TwoT.oth {W W' : World} {S : Nat → Prop} {g0 T R : Nat} {hs : List Int} {L : List Ld} (h : TwoT W g0 T R hs L) (ho : Oth S W W') (hd : ∀ g, g0 ≤ g → ¬ S g) : TwoT W' g0 T R hs L := by
  obtain ⟨S1, S2, h1, h2, h3, h4, h5⟩ := h
  exact ⟨S1, S2, h1.oth ho (fun g hg => hd g (h4 g hg).1), h2.oth ho (fun g hg => hd g (h5 g hg).1), h3, fun g hg => ⟨(h4 g hg).1, Nat.lt_of_lt_of_le (h4 g hg).2 ho.size⟩, fun g hg => ⟨(h5 g hg).1, Nat.lt_of_lt_of_le (h5 g hg).2 ho.size⟩⟩
theorem TwoT.next {W W' : World} {g0 T R : Nat} {hs : List Int} {L : List Ld} (h : TwoT W g0 T R hs L) (hb : Below W.heap.size W W') : TwoT W' g0 T R hs L := h.oth (S := fun _ => False) (Oth.of hb) (fun _ _ h => h)
/-- One more is put into the program's. -/
theorem TwoT.add1 {W : World} {g0 T R : Nat} {hs : List Int} {L : List Ld} (h : TwoT W g0 T R hs L) (hL : L.length ≤ 100000) (e : Ent) (hk : e.key.size ≤ maxLen) (hg : g0 ≤ W.heap.size) :
    Calls Try.prog 12 #[.pointer (some ⟨T, 0, none⟩), .agg #[.string e.key, .string e.val, .int .i64 e.seq, .bool e.del]] W fun r W' => r = .returned (.int .i64 (addC e L)) ∧ (∃ S1 S2 : Nat → Prop, Mt W' S1 T hs (addL hs e L) ∧ Dt W' S2 R hs L ∧ (∀ g, S1 g → ¬ S2 g) ∧ (∀ g, S1 g → g0 ≤ g ∧ g < W'.heap.size) ∧ (∀ g, S2 g → g0 ≤ g ∧ g < W'.heap.size)) ∧ Below g0 W W' := by
  obtain ⟨S1, S2, h1, h2, h3, h4, h5⟩ := h
  refine (madd_any S1 T hs L hL e hk W h1).mono ?_
  rintro r W' ⟨rfl, hm, ho⟩
  refine ⟨rfl, ⟨_, S2, hm, h2.oth ho (fun g hg h7 => h3 g h7 hg), fun g hg h7 => ?_, fun g hg => ?_, fun g hg => ⟨(h5 g hg).1, Nat.lt_of_lt_of_le (h5 g hg).2 ho.size⟩⟩, ho.below hg (fun g hg7 h7 => by have := (h4 g h7).1; omega)⟩
  · have h8 := (h5 g h7).2
    rcases hg with h9 | h9
    · exact h3 g h9 h7
    · omega
  · rcases hg with h9 | h9
    · exact ⟨(h4 g h9).1, Nat.lt_of_lt_of_le (h4 g h9).2 ho.size⟩
    · exact ⟨Nat.le_trans hg h9.1, h9.2⟩
/-- One more is put into the document's. -/
theorem two_add2 {W : World} {g0 T R : Nat} {hs : List Int} {L L' : List Ld} (h : ∃ S1 S2 : Nat → Prop, Mt W S1 T hs L' ∧ Dt W S2 R hs L ∧ (∀ g, S1 g → ¬ S2 g) ∧ (∀ g, S1 g → g0 ≤ g ∧ g < W.heap.size) ∧ (∀ g, S2 g → g0 ≤ g ∧ g < W.heap.size)) (hL : L.length ≤ 100000) (hhs : ∀ x ∈ hs, 1 ≤ x ∧ x ≤ 12) (e : Ent) (he : L' = addL hs e L) (hg : g0 ≤ W.heap.size) :
    Calls Try.prog 31 #[.pointer (some ⟨R, 0, none⟩), .agg #[.string e.key, .string e.val, .int .i64 e.seq, .bool e.del]] W fun r W' => r = .returned (.int .i64 (addC e L)) ∧ TwoT W' g0 T R hs (addL hs e L) ∧ Below g0 W W' := by
  obtain ⟨S1, S2, h1, h2, h3, h4, h5⟩ := h
  subst he
  have hR : S2 R := by obtain ⟨Ah, ch, Ae, ce, At, ct, -, -, -, -, h, -⟩ := h2; exact h
  refine (dadd_any S2 R hs hhs L hL e W h2).mono ?_
  rintro r W' ⟨rfl, hd, ho⟩
  refine ⟨rfl, ⟨S1, _, h1.oth ho (fun g hg h7 => h3 g hg (by rw [h7]; exact hR)), hd, fun g hg h7 => ?_, fun g hg => ⟨(h4 g hg).1, Nat.lt_of_lt_of_le (h4 g hg).2 ho.size⟩, fun g hg => ?_⟩, ho.below hg (fun g hg7 h7 => by have := (h5 R hR).1; omega)⟩
  · have h8 := (h4 g hg).2
    rcases h7 with h9 | h9
    · exact h3 g hg h9
    · omega
  · rcases hg with h9 | h9
    · exact ⟨(h5 g h9).1, Nat.lt_of_lt_of_le (h5 g h9).2 ho.size⟩
    · exact ⟨Nat.le_trans hg h9.1, h9.2⟩
/-- Ones are written over a row. -/
theorem oth_set {S : Nat → Prop} {w W : World} {g : Nat} (h : Oth S w W) (hg : S g) (o : Nat) (v : Value) : Oth S w (W.setCell ⟨g, o, none⟩ v) :=
  ⟨h.os, h.tape, h.output, by simpa using h.size, fun k hk hn => (Below.heap_setCell _ _ _ _ (fun e => hn (by rw [e]; exact hg))).trans (h.block k hk hn)⟩
theorem adds_mem' (hs : List Int) : ∀ (l : List Ent) (L : List Ld) (x : Ld), x ∈ l.foldl (fun L e => addL hs e L) L → x ∈ L ∨ x.1 ∈ l
  | [], _, _, h => .inl h
  | e :: r, L, x, h => by
    rcases adds_mem' hs r (addL hs e L) x h with h1 | h1
    · rcases addL_mem h1 with h2 | h2
      · exact .inl h2
      · exact .inr (by rw [h2.1]; exact List.mem_cons_self ..)
    · exact .inr (List.mem_cons_of_mem _ h1)
theorem adds_mem {hs : List Int} {l : List Ent} {x : Ld} (h : x ∈ adds hs l) : x.1 ∈ l := by
  rcases adds_mem' hs l [] x h with h1 | h1
  · cases h1
  · exact h1
set_option maxHeartbeats 6400000 in
theorem memScript_walk (w : World) (A : Option Addr) (n c : Nat) (hs : List Int) (hl : hs.length = n) (hn : n ≤ 140737488355328) (hr : Rd w w.heap.size A (nv hs))
    (A2 : Option Addr) (n2 c2 : Nat) (l : List Ent) (hl2 : l.length = n2) (hn2 : n2 ≤ 140737488355328) (hr2 : Rd w w.heap.size A2 (env l))
    (A3 : Option Addr) (n3 c3 : Nat) (qs : List AskM) (hl3 : qs.length = n3) (hn3 : n3 ≤ 140737488355328) (hr3 : Rd w w.heap.size A3 (asv qs)) (o : Int) (ho : -9223372036854775808 ≤ o ∧ o ≤ 9223372036854775807) :
    Calls Try.prog 7 #[.slice A n c, .slice A2 n2 c2, .slice A3 n3 c3, .int .i64 o] w fun e w' => e = .returned (.bool true) ∧ Below w.heap.size w w' := by
  have HL := Lib.hid hl; clear hl
  have HL2 := Lib.hid hl2; clear hl2
  have HL3 := Lib.hid hl3; clear hl3
  have HR := Lib.hid hr; clear hr
  have HR2 := Lib.hid hr2; clear hr2
  have HR3 := Lib.hid hr3; clear hr3
  go_enter Try.func7, Try.ntmps7
  go_wp2_with fail
  refine (lives6_any w).mono ?_
  rintro r w1 ⟨rfl, hb⟩
  have B1 := Lib.hid hb
  clear hb
  go_wp2_with fail
  refine (small6_any A2 n2 c2 l HL2.out (by omega) w.heap.size w1 (HR2.out.below B1.out) B1.out.size).mono ?_
  rintro r w2 ⟨rfl, hb⟩
  have B2 := Lib.hid (B1.out.trans (hb.mono B1.out.size))
  clear hb B1
  cases hsm : smallM l
  · go_wp2_with fail
    go_ret
    exact ⟨rfl, B2.out⟩
  have HSM := Lib.hid (smallM_get hsm)
  clear hsm
  have n60 : n2 ≤ 60 := by rw [← HL2.out]; exact HSM.out.1
  by_cases hn60 : n ≤ 60
  case neg =>
    have q1 : (60 : Int) < (n : Int) := by omega
    go_wp2_with fail
    go_ret
    exact ⟨rfl, B2.out⟩
  by_cases hn603 : n3 ≤ 60
  case neg =>
    have q1 : ¬ (60 : Int) < (n : Int) := by omega
    have q2 : (60 : Int) < (n3 : Int) := by omega
    go_wp2_with fail
    go_ret
    exact ⟨rfl, B2.out⟩
  have q1 : ¬ (60 : Int) < (n : Int) := by omega
  have q2 : ¬ (60 : Int) < (n3 : Int) := by omega
  go_wp2_with fail
  clear q1 q2
  refine (lentI_any A n c w.heap.size hs HL.out (by omega) w2 (HR.out.below B2.out) B2.out.size).mono ?_
  rintro r w3 ⟨v3, rfl, own3, hb⟩
  have B3 := Lib.hid (B2.out.trans (hb.mono B2.out.size))
  obtain ⟨A4, c4, rfl, q4, -⟩ := own_sl own3
  obtain ⟨gf, rfl⟩ := own_blkC own3 (by omega)
  have hgf := own3.lt gf rfl
  have hgf1 : w.heap.size ≤ gf := by have := B2.out.size; omega
  have hgf2 : gf < w3.heap.size := hgf.2
  have XF : Hid (BxV w3 gf (nv (lentI hs))) := Lib.hid ⟨hgf.2, own3.frozenAt, fun i v hv => by
    have := own3.cells (g := gf) rfl i v hv
    unfold Addr.add at this
    split at this
    · rename_i h0
      subst h0
      exact this
    · simpa using this⟩
  have RF : Hid (Rd w3 w3.heap.size (some ⟨gf, 0, none⟩) (nv (lentI hs))) := Lib.hid (by
    obtain ⟨A', c', e, -, r'⟩ := own_sl own3
    injection e with e1
    rw [e1]
    exact r')
  clear own3 hb B2 hgf
  have i1 : (n : Int) ≤ (c4 : Int) := by omega
  go_wp2_with fail
  refine (mnew_any (some ⟨gf, 0, none⟩) n c4 w3.heap.size hs HL.out (by omega) w3 (by have h := rd_to (m := hs.length) RF.out; rwa [lentI_take] at h) (Nat.le_refl _)).mono ?_
  rintro r w4 ⟨hc4, hb⟩
  have B4 := Lib.hid (B3.out.trans (hb.mono B3.out.size))
  have XF4 := Lib.hid (XF.out.next hb)
  have RF4 := Lib.hid ((RF.out.below hb).more hb.size)
  have hz34 := hb.size
  clear hb B3 XF RF
  have hs3 := B4.out.size
  rcases hc4 with ⟨hk4, rfl⟩ | ⟨hk4, T, rfl, M4⟩
  · have HK := Lib.hid hk4
    clear hk4
    go_wp2_with fail
    refine (dnew_any A n c w.heap.size hs HL.out (by omega) w4 (HR.out.below B4.out) B4.out.size).mono ?_
    rintro r w5 ⟨hc5, hb⟩
    have B5 := Lib.hid (B4.out.trans (hb.mono B4.out.size))
    have RF5 := Lib.hid ((RF4.out.below hb).more hb.size)
    clear hb B4 XF4 RF4
    rcases hc5 with ⟨hk5, rfl⟩ | ⟨hk5, -⟩
    case inr =>
      rw [HK.out] at hk5
      cases hk5
    go_wp2_with fail
    refine (keptI_any (some ⟨gf, 0, none⟩) A (n + 3) n c4 c w5.heap.size w.heap.size (lentI hs) hs (by rw [lentI_length, HL.out]) HL.out (by omega) (by omega) w5 RF5.out (Nat.le_refl _) (HR.out.below B5.out) B5.out.size).mono ?_
    rintro r w6 ⟨rfl, hb⟩
    rw [decide_eq_true rfl]
    have B6 := Lib.hid (B5.out.trans (hb.mono B5.out.size))
    clear hb B5 RF5
    go_wp2_with fail
    go_ret
    exact ⟨rfl, B6.out⟩
  have HK := Lib.hid hk4
  have M4 := Lib.hid M4
  clear hk4
  go_wp2_with fail
  refine (dnew_any A n c w.heap.size hs HL.out (by omega) w4 (HR.out.below B4.out) B4.out.size).mono ?_
  rintro r w5 ⟨hc5, hb⟩
  rcases hc5 with ⟨hk5, -⟩ | ⟨-, R, rfl, hd⟩
  case inl =>
    rw [HK.out] at hk5
    cases hk5
  obtain ⟨g0, hg0⟩ : ∃ g, g = w3.heap.size := ⟨_, rfl⟩
  have z45 := hb.size
  have TW5 : Hid (TwoT w5 g0 T R hs []) := Lib.hid ⟨_, _, M4.out.next hb, hd, fun g h1 h2 => by omega, fun g h1 => by omega, fun g h1 => by omega⟩
  have B5 := Lib.hid (B4.out.trans (hb.mono B4.out.size))
  have RF5 := Lib.hid ((RF4.out.below hb).more hb.size)
  have XF5 := Lib.hid (XF4.out.next hb)
  have g05 : g0 ≤ w5.heap.size := by omega
  rw [← hg0] at hgf2
  clear hb B4 XF4 RF4 M4 hd z45 hz34 hg0
  go_wp2_with fail
  refine (keptI_any (some ⟨gf, 0, none⟩) A (n + 3) n c4 c w5.heap.size w.heap.size (lentI hs) hs (by rw [lentI_length, HL.out]) HL.out (by omega) (by omega) w5 RF5.out (Nat.le_refl _) (HR.out.below B5.out) B5.out.size).mono ?_
  rintro r w6 ⟨rfl, hb⟩
  rw [decide_eq_true rfl]
  have TW6 := Lib.hid (TW5.out.next hb)
  have B6 := Lib.hid (B5.out.trans (hb.mono B5.out.size))
  have XF6 := Lib.hid (XF5.out.next hb)
  have g06 : g0 ≤ w6.heap.size := by have := hb.size; omega
  clear hb B5 RF5 TW5 XF5 g05
  have hwg : w.heap.size ≤ g0 := by omega
  go_wp2_with fail
  go_loopw [14] (fun s14 wr => ∃ (i : Nat) (ys : List Value), s14 = .int .i64 (i : Int) ∧ i ≤ n + 3 ∧ ys.length = n + 3 ∧ Hid (BxV wr gf ys) ∧ Hid (Oth (fun g => g = gf) w6 wr)) (fun s14 _ => n + 3 - (intOf s14).toNat)
  case atStart => exact ⟨0, nv (lentI hs), rfl, Nat.zero_le _, by rw [nv_length, lentI_length, HL.out], XF6, Lib.hid (Oth.of (Below.refl _ _))⟩
  case round =>
    clear XF6
    obtain ⟨i, ys, rfl, hi, hys, XB, HO⟩ := hrel
    obtain ⟨w7, rfl⟩ : ∃ x, x = wr := ⟨_, rfl⟩
    by_cases hlt : i < n + 3
    · obtain ⟨y, hy⟩ : ∃ y, ys[i]? = some y := ⟨_, List.getElem?_eq_getElem (by omega)⟩
      have y0 := XB.out.c i y hy
      have yf := XB.out.fz i
      have yl := XB.out.lt
      have j1 : (i : Int) < ((n : Int) + 3) := by omega
      have j0 : (0 : Int) ≤ (i : Int) := by omega
      have XB9 := Lib.hid (bxv_put XB.out i (by omega) (.int .i64 1))
      have HO9 := Lib.hid (oth_set HO.out (g := gf) rfl i (.int .i64 1))
      have hys9 : (ys.set i (.int .i64 1)).length = n + 3 := by rw [List.length_set]; exact hys
      clear hy hys XB HO
      go_wp2_with fail
      go_roundw
      case rel => exact ⟨i + 1, _, by go_num, by omega, hys9, XB9, HO9⟩
      case measure => (first | (simp [intOf]; done) | (simp [intOf]; omega))
    have j1 : ¬ (i : Int) < ((n : Int) + 3) := by omega
    have TW7 := Lib.hid (TW6.out.oth HO.out (fun g hg e => by omega))
    have B7 : Hid (Below w.heap.size w w7) := Lib.hid (B6.out.trans (HO.out.below B6.out.size (fun g hg e => by omega)))
    have g07 : g0 ≤ w7.heap.size := by have := HO.out.size; omega
    clear XB HO TW6 B6 hys
    go_wp2_with fail
    go_loopw [15] (fun s15 wr => ∃ i : Nat, s15 = .int .i64 (i : Int) ∧ i ≤ n2 ∧ g0 ≤ wr.heap.size ∧ Hid (TwoT wr g0 T R hs (adds hs (l.take i))) ∧ Hid (Below w.heap.size w wr)) (fun s15 _ => n2 - (intOf s15).toNat)
    case atStart => exact ⟨0, rfl, Nat.zero_le _, g07, TW7, B7⟩
    case round =>
      clear TW7 B7 g07 hlt j1 hi
      obtain ⟨i, rfl, hi, g08, TW8, B8⟩ := hrel
      obtain ⟨w8, rfl⟩ : ∃ x, x = wr := ⟨_, rfl⟩
      by_cases hlt : i < n2
      · obtain ⟨x, hx⟩ : ∃ x, l[i]? = some x := ⟨_, List.getElem?_eq_getElem (by rw [HL2.out]; exact hlt)⟩
        obtain ⟨b, off, rfl, hb, hce⟩ := en_at HR2.out hx
        obtain ⟨d0, d1, d2, d3⟩ := hce.below hb B8.out
        have HX := Lib.hid hx
        have zb : b < g0 := by omega
        have hkx := (HSM.out.2 i x hx).1
        have HLN : (adds hs (l.take i)).length ≤ 100000 := by have := adds_len hs (l.take i); rw [List.length_take] at this; omega
        have j1 : (i : Int) < (n2 : Int) := by omega
        have j0 : (0 : Int) ≤ (i : Int) := by omega
        have HC1 := Lib.hid (fun W => check6_any x (by unfold maxLen; omega) W)
        have HC2 := Lib.hid (fun W => rcheck6_any x W)
        obtain ⟨cx, hcx⟩ : ∃ z, z = chkE x := ⟨_, rfl⟩
        rw [← hcx] at HC1 HC2
        clear hce hx hcx
        obtain ⟨ax, hax⟩ : ∃ z, z = addC x (adds hs (l.take i)) := ⟨_, rfl⟩
        have HAX := Lib.hid hax
        clear hax
        go_upto_region 19 with (fail)
        have hdr : Below w8.heap.size w8 w8.drew := Below.drew (Below.refl _ _)
        refine wp_heldall (S := fun W => Below g0 w8 W) 53 (by kernel_rfl) rfl (hdr.mono g08) (fun hHeld => ?_)
        clear hHeld
        have S0 : Hid (Below g0 w8 w8.drew) := Lib.hid (hdr.mono g08)
        have TW0 := Lib.hid (TW8.out.next hdr)
        clear hdr TW8
        generalize w8.drew = v0 at *
        by_cases hi0 : i = 0
        · have p1 : decide ((0 : Int) < (i : Int)) = false := decide_eq_false (by omega)
          have p1n : decide (0 < i) = false := decide_eq_false (by omega)
          have HI := Lib.hid hi0
          clear hi0
          refine takeL (i := 0) (v := ?_) rfl (by kernel_rfl) (by kernel_rfl) (by kernel_rfl) (fun _ _ _ h => h) ⟨by rfl, ?_⟩ (by first | assumption | trivial) ?_
          rotate_left
          · intro W9 hSw
            (try dsimp only at hSw)
            go_simp
            try with_reducible rfl
          (try simp only [Act.put, List.setIfInBounds_toArray, List.set_cons_zero, List.set_cons_succ])
          refine takeL (i := 1) (v := ?_) rfl (by kernel_rfl) (by kernel_rfl) (by kernel_rfl) (fun _ _ _ h => h) ⟨by rfl, ?_⟩ (by first | assumption | trivial) ?_
          rotate_left
          · intro W9 hSw
            (try dsimp only at hSw)
            go_simp
            try with_reducible rfl
          (try simp only [Act.put, List.setIfInBounds_toArray, List.set_cons_zero, List.set_cons_succ])
          refine takeL (i := 2) (v := ?_) rfl (by kernel_rfl) (by kernel_rfl) (by kernel_rfl) (fun _ _ _ h => h) ⟨by rfl, ?_⟩ (by first | assumption | trivial) ?_
          rotate_left
          · intro W9 hSw
            (try dsimp only at hSw)
            go_simp
            try with_reducible rfl
          (try simp only [Act.put, List.setIfInBounds_toArray, List.set_cons_zero, List.set_cons_succ])
          refine takeL (i := 3) (v := ?_) rfl (by kernel_rfl) (by kernel_rfl) (by kernel_rfl) (fun _ _ _ h => h) ⟨by rfl, ?_⟩ (by first | assumption | trivial) ?_
          rotate_left
          · intro W9 hSw
            (try dsimp only at hSw)
            (have y0 := (hSw.cell (p := ⟨b, _, none⟩) zb).trans d0; have y1 := (hSw.cell (p := ⟨b, _, none⟩) zb).trans d1; have y2 := (hSw.cell (p := ⟨b, _, none⟩) zb).trans d2; have y3 := (hSw.cell (p := ⟨b, _, none⟩) zb).trans d3; have yl := World.block_lt_of_cell? W9 _ y0)
            go_simp
            try with_reducible rfl
          (try simp only [Act.put, List.setIfInBounds_toArray, List.set_cons_zero, List.set_cons_succ])
          refine takeL (i := 5) (v := ?_) rfl (by kernel_rfl) (by kernel_rfl) (by kernel_rfl) (fun _ _ _ h => h) ⟨by rfl, ?_⟩ (by first | assumption | trivial) ?_
          rotate_left
          · intro W9 hSw
            (try dsimp only at hSw)
            go_simp
            try with_reducible rfl
          (try simp only [Act.put, List.setIfInBounds_toArray, List.set_cons_zero, List.set_cons_succ])
          refine takeL (i := 6) (v := ?_) rfl (by kernel_rfl) (by kernel_rfl) (by kernel_rfl) (fun _ _ _ h => h) ⟨by rfl, ?_⟩ (by first | assumption | trivial) ?_
          rotate_left
          · intro W9 hSw
            (try dsimp only at hSw)
            go_simp
            try with_reducible rfl
          (try simp only [Act.put, List.setIfInBounds_toArray, List.set_cons_zero, List.set_cons_succ])
          refine takeL (i := 7) (v := ?_) rfl (by kernel_rfl) (by kernel_rfl) (by kernel_rfl) (fun _ _ _ h => h) ⟨by rfl, ?_⟩ (by first | assumption | trivial) ?_
          rotate_left
          · intro W9 hSw
            (try dsimp only at hSw)
            go_simp
            try with_reducible rfl
          (try simp only [Act.put, List.setIfInBounds_toArray, List.set_cons_zero, List.set_cons_succ])
          refine takeL (i := 8) (v := ?_) rfl (by kernel_rfl) (by kernel_rfl) (by kernel_rfl) (fun _ _ _ h => h) ⟨by rfl, ?_⟩ (by first | assumption | trivial) ?_
          rotate_left
          · intro W9 hSw
            (try dsimp only at hSw)
            (have y0 := (hSw.cell (p := ⟨b, _, none⟩) zb).trans d0; have y1 := (hSw.cell (p := ⟨b, _, none⟩) zb).trans d1; have y2 := (hSw.cell (p := ⟨b, _, none⟩) zb).trans d2; have y3 := (hSw.cell (p := ⟨b, _, none⟩) zb).trans d3; have yl := World.block_lt_of_cell? W9 _ y0)
            go_simp
            try with_reducible rfl
          (try simp only [Act.put, List.setIfInBounds_toArray, List.set_cons_zero, List.set_cons_succ])
          refine wpAnyH_ready (rs := [4]) (by kernel_rfl) (by simp) ?_
          refine consL rfl (by rfl) (fun K hK => ?_) ?_
          · skip
            go_simp
            go_at_call 28
            refine (HC1.out v0).mono ?_
            rintro e v1 ⟨rfl, hb⟩
            have S1 := Lib.hid (S0.out.trans (hb.mono (by have := S0.out.size; omega)))
            have TW1 := Lib.hid (TW0.out.next hb)
            refine hK.out _ _ S1.out (fun _ => ?_)
            clear hK K hb
            (try simp only [Act.put, List.setIfInBounds_toArray, List.set_cons_zero, List.set_cons_succ])
            refine wpAnyH_ready (rs := [9]) (by kernel_rfl) (by simp) ?_
            refine consL rfl (by rfl) (fun K hK => ?_) ?_
            · skip
              go_simp
              go_at_call 29
              refine (HC2.out v1).mono ?_
              rintro e v2 ⟨rfl, hb⟩
              have S2 := Lib.hid (S1.out.trans (hb.mono (by have := S1.out.size; omega)))
              have TW2 := Lib.hid (TW1.out.next hb)
              refine hK.out _ _ S2.out (fun _ => ?_)
              clear hK K hb
              (try simp only [Act.put, List.setIfInBounds_toArray, List.set_cons_zero, List.set_cons_succ])
              clear TW0 TW1
              refine takeL (i := 10) (v := ?_) rfl (by kernel_rfl) (by kernel_rfl) (by kernel_rfl) (fun _ _ _ h => h) ⟨by rfl, ?_⟩ (by first | assumption | trivial) ?_
              rotate_left
              · intro W9 hSw
                (try dsimp only at hSw)
                go_simp
                try with_reducible rfl
              (try simp only [Act.put, List.setIfInBounds_toArray, List.set_cons_zero, List.set_cons_succ])
              refine takeL (i := 11) (v := ?_) rfl (by kernel_rfl) (by kernel_rfl) (by kernel_rfl) (fun _ _ _ h => h) ⟨by rfl, ?_⟩ (by first | assumption | trivial) ?_
              rotate_left
              · intro W9 hSw
                (try dsimp only at hSw)
                go_simp
                try with_reducible rfl
              (try simp only [Act.put, List.setIfInBounds_toArray, List.set_cons_zero, List.set_cons_succ])
              refine takeL (i := 12) (v := ?_) rfl (by kernel_rfl) (by kernel_rfl) (by kernel_rfl) (fun _ _ _ h => h) ⟨by rfl, ?_⟩ (by first | assumption | trivial) ?_
              rotate_left
              · intro W9 hSw
                (try dsimp only at hSw)
                go_simp
                try with_reducible rfl
              (try simp only [Act.put, List.setIfInBounds_toArray, List.set_cons_zero, List.set_cons_succ])
              refine takeL (i := 13) (v := ?_) rfl (by kernel_rfl) (by kernel_rfl) (by kernel_rfl) (fun _ _ _ h => h) ⟨by rfl, ?_⟩ (by first | assumption | trivial) ?_
              rotate_left
              · intro W9 hSw
                (try dsimp only at hSw)
                go_simp
                try with_reducible rfl
              (try simp only [Act.put, List.setIfInBounds_toArray, List.set_cons_zero, List.set_cons_succ])
              refine takeL (i := 14) (v := ?_) rfl (by kernel_rfl) (by kernel_rfl) (by kernel_rfl) (fun _ _ _ h => h) ⟨by rfl, ?_⟩ (by first | assumption | trivial) ?_
              rotate_left
              · intro W9 hSw
                (try dsimp only at hSw)
                go_simp
                try with_reducible rfl
              (try simp only [Act.put, List.setIfInBounds_toArray, List.set_cons_zero, List.set_cons_succ])
              refine skipL (i := 15) rfl (by kernel_rfl) (by kernel_rfl) (by kernel_rfl) (fun _ _ _ h => h) (by rfl) (by first | assumption | exact S2.out) ?_
              (try simp only [Act.put, List.setIfInBounds_toArray, List.set_cons_zero, List.set_cons_succ])
              refine skipL (i := 16) rfl (by kernel_rfl) (by kernel_rfl) (by kernel_rfl) (fun _ _ _ h => h) (by rfl) (by first | assumption | exact S2.out) ?_
              (try simp only [Act.put, List.setIfInBounds_toArray, List.set_cons_zero, List.set_cons_succ])
              refine skipL (i := 17) rfl (by kernel_rfl) (by kernel_rfl) (by kernel_rfl) (fun _ _ _ h => h) (by rfl) (by first | assumption | exact S2.out) ?_
              (try simp only [Act.put, List.setIfInBounds_toArray, List.set_cons_zero, List.set_cons_succ])
              refine skipL (i := 18) rfl (by kernel_rfl) (by kernel_rfl) (by kernel_rfl) (fun _ _ _ h => h) (by rfl) (by first | assumption | exact S2.out) ?_
              (try simp only [Act.put, List.setIfInBounds_toArray, List.set_cons_zero, List.set_cons_succ])
              refine skipL (i := 19) rfl (by kernel_rfl) (by kernel_rfl) (by kernel_rfl) (fun _ _ _ h => h) (by rfl) (by first | assumption | exact S2.out) ?_
              (try simp only [Act.put, List.setIfInBounds_toArray, List.set_cons_zero, List.set_cons_succ])
              refine skipL (i := 20) rfl (by kernel_rfl) (by kernel_rfl) (by kernel_rfl) (fun _ _ _ h => h) (by rfl) (by first | assumption | exact S2.out) ?_
              (try simp only [Act.put, List.setIfInBounds_toArray, List.set_cons_zero, List.set_cons_succ])
              refine skipL (i := 21) rfl (by kernel_rfl) (by kernel_rfl) (by kernel_rfl) (fun _ _ _ h => h) (by rfl) (by first | assumption | exact S2.out) ?_
              (try simp only [Act.put, List.setIfInBounds_toArray, List.set_cons_zero, List.set_cons_succ])
              refine skipL (i := 22) rfl (by kernel_rfl) (by kernel_rfl) (by kernel_rfl) (fun _ _ _ h => h) (by rfl) (by first | assumption | exact S2.out) ?_
              (try simp only [Act.put, List.setIfInBounds_toArray, List.set_cons_zero, List.set_cons_succ])
              refine skipL (i := 23) rfl (by kernel_rfl) (by kernel_rfl) (by kernel_rfl) (fun _ _ _ h => h) (by rfl) (by first | assumption | exact S2.out) ?_
              (try simp only [Act.put, List.setIfInBounds_toArray, List.set_cons_zero, List.set_cons_succ])
              refine skipL (i := 24) rfl (by kernel_rfl) (by kernel_rfl) (by kernel_rfl) (fun _ _ _ h => h) (by rfl) (by first | assumption | exact S2.out) ?_
              (try simp only [Act.put, List.setIfInBounds_toArray, List.set_cons_zero, List.set_cons_succ])
              refine skipL (i := 25) rfl (by kernel_rfl) (by kernel_rfl) (by kernel_rfl) (fun _ _ _ h => h) (by rfl) (by first | assumption | exact S2.out) ?_
              (try simp only [Act.put, List.setIfInBounds_toArray, List.set_cons_zero, List.set_cons_succ])
              refine skipL (i := 26) rfl (by kernel_rfl) (by kernel_rfl) (by kernel_rfl) (fun _ _ _ h => h) (by rfl) (by first | assumption | exact S2.out) ?_
              (try simp only [Act.put, List.setIfInBounds_toArray, List.set_cons_zero, List.set_cons_succ])
              refine skipL (i := 27) rfl (by kernel_rfl) (by kernel_rfl) (by kernel_rfl) (fun _ _ _ h => h) (by rfl) (by first | assumption | exact S2.out) ?_
              (try simp only [Act.put, List.setIfInBounds_toArray, List.set_cons_zero, List.set_cons_succ])
              refine skipL (i := 28) rfl (by kernel_rfl) (by kernel_rfl) (by kernel_rfl) (fun _ _ _ h => h) (by rfl) (by first | assumption | exact S2.out) ?_
              (try simp only [Act.put, List.setIfInBounds_toArray, List.set_cons_zero, List.set_cons_succ])
              refine skipL (i := 29) rfl (by kernel_rfl) (by kernel_rfl) (by kernel_rfl) (fun _ _ _ h => h) (by rfl) (by first | assumption | exact S2.out) ?_
              (try simp only [Act.put, List.setIfInBounds_toArray, List.set_cons_zero, List.set_cons_succ])
              refine skipL (i := 30) rfl (by kernel_rfl) (by kernel_rfl) (by kernel_rfl) (fun _ _ _ h => h) (by rfl) (by first | assumption | exact S2.out) ?_
              (try simp only [Act.put, List.setIfInBounds_toArray, List.set_cons_zero, List.set_cons_succ])
              refine skipL (i := 31) rfl (by kernel_rfl) (by kernel_rfl) (by kernel_rfl) (fun _ _ _ h => h) (by rfl) (by first | assumption | exact S2.out) ?_
              (try simp only [Act.put, List.setIfInBounds_toArray, List.set_cons_zero, List.set_cons_succ])
              refine skipL (i := 32) rfl (by kernel_rfl) (by kernel_rfl) (by kernel_rfl) (fun _ _ _ h => h) (by rfl) (by first | assumption | exact S2.out) ?_
              (try simp only [Act.put, List.setIfInBounds_toArray, List.set_cons_zero, List.set_cons_succ])
              refine skipL (i := 33) rfl (by kernel_rfl) (by kernel_rfl) (by kernel_rfl) (fun _ _ _ h => h) (by rfl) (by first | assumption | exact S2.out) ?_
              (try simp only [Act.put, List.setIfInBounds_toArray, List.set_cons_zero, List.set_cons_succ])
              refine skipL (i := 34) rfl (by kernel_rfl) (by kernel_rfl) (by kernel_rfl) (fun _ _ _ h => h) (by rfl) (by first | assumption | exact S2.out) ?_
              (try simp only [Act.put, List.setIfInBounds_toArray, List.set_cons_zero, List.set_cons_succ])
              refine skipL (i := 35) rfl (by kernel_rfl) (by kernel_rfl) (by kernel_rfl) (fun _ _ _ h => h) (by rfl) (by first | assumption | exact S2.out) ?_
              (try simp only [Act.put, List.setIfInBounds_toArray, List.set_cons_zero, List.set_cons_succ])
              refine takeL (i := 36) (v := ?_) rfl (by kernel_rfl) (by kernel_rfl) (by kernel_rfl) (fun _ _ _ h => h) ⟨by rfl, ?_⟩ (by first | assumption | trivial) ?_
              rotate_left
              · intro W9 hSw
                (try dsimp only at hSw)
                go_simp
                try with_reducible rfl
              (try simp only [Act.put, List.setIfInBounds_toArray, List.set_cons_zero, List.set_cons_succ])
              refine takeL (i := 37) (v := ?_) rfl (by kernel_rfl) (by kernel_rfl) (by kernel_rfl) (fun _ _ _ h => h) ⟨by rfl, ?_⟩ (by first | assumption | trivial) ?_
              rotate_left
              · intro W9 hSw
                (try dsimp only at hSw)
                go_simp
                try with_reducible rfl
              (try simp only [Act.put, List.setIfInBounds_toArray, List.set_cons_zero, List.set_cons_succ])
              refine takeL (i := 38) (v := ?_) rfl (by kernel_rfl) (by kernel_rfl) (by kernel_rfl) (fun _ _ _ h => h) ⟨by rfl, ?_⟩ (by first | assumption | trivial) ?_
              rotate_left
              · intro W9 hSw
                (try dsimp only at hSw)
                go_simp
                try with_reducible rfl
              (try simp only [Act.put, List.setIfInBounds_toArray, List.set_cons_zero, List.set_cons_succ])
              refine takeL (i := 39) (v := ?_) rfl (by kernel_rfl) (by kernel_rfl) (by kernel_rfl) (fun _ _ _ h => h) ⟨by rfl, ?_⟩ (by first | assumption | trivial) ?_
              rotate_left
              · intro W9 hSw
                (try dsimp only at hSw)
                go_simp
                try with_reducible rfl
              (try simp only [Act.put, List.setIfInBounds_toArray, List.set_cons_zero, List.set_cons_succ])
              refine takeL (i := 40) (v := ?_) rfl (by kernel_rfl) (by kernel_rfl) (by kernel_rfl) (fun _ _ _ h => h) ⟨by rfl, ?_⟩ (by first | assumption | trivial) ?_
              rotate_left
              · intro W9 hSw
                (try dsimp only at hSw)
                go_simp
                try with_reducible rfl
              (try simp only [Act.put, List.setIfInBounds_toArray, List.set_cons_zero, List.set_cons_succ])
              refine takeL (i := 41) (v := ?_) rfl (by kernel_rfl) (by kernel_rfl) (by kernel_rfl) (fun _ _ _ h => h) ⟨by rfl, ?_⟩ (by first | assumption | trivial) ?_
              rotate_left
              · intro W9 hSw
                (try dsimp only at hSw)
                go_simp
                try with_reducible rfl
              (try simp only [Act.put, List.setIfInBounds_toArray, List.set_cons_zero, List.set_cons_succ])
              refine takeL (i := 42) (v := ?_) rfl (by kernel_rfl) (by kernel_rfl) (by kernel_rfl) (fun _ _ _ h => h) ⟨by rfl, ?_⟩ (by first | assumption | trivial) ?_
              rotate_left
              · intro W9 hSw
                (try dsimp only at hSw)
                go_simp
                try with_reducible rfl
              (try simp only [Act.put, List.setIfInBounds_toArray, List.set_cons_zero, List.set_cons_succ])
              refine takeL (i := 43) (v := ?_) rfl (by kernel_rfl) (by kernel_rfl) (by kernel_rfl) (fun _ _ _ h => h) ⟨by rfl, ?_⟩ (by first | assumption | trivial) ?_
              rotate_left
              · intro W9 hSw
                (try dsimp only at hSw)
                (have y0 := (hSw.cell (p := ⟨b, _, none⟩) zb).trans d0; have y1 := (hSw.cell (p := ⟨b, _, none⟩) zb).trans d1; have y2 := (hSw.cell (p := ⟨b, _, none⟩) zb).trans d2; have y3 := (hSw.cell (p := ⟨b, _, none⟩) zb).trans d3; have yl := World.block_lt_of_cell? W9 _ y0)
                go_simp
                try with_reducible rfl
              (try simp only [Act.put, List.setIfInBounds_toArray, List.set_cons_zero, List.set_cons_succ])
              refine takeL (i := 45) (v := ?_) rfl (by kernel_rfl) (by kernel_rfl) (by kernel_rfl) (fun _ _ _ h => h) ⟨by rfl, ?_⟩ (by first | assumption | trivial) ?_
              rotate_left
              · intro W9 hSw
                (try dsimp only at hSw)
                go_simp
                try with_reducible rfl
              (try simp only [Act.put, List.setIfInBounds_toArray, List.set_cons_zero, List.set_cons_succ])
              refine takeL (i := 46) (v := ?_) rfl (by kernel_rfl) (by kernel_rfl) (by kernel_rfl) (fun _ _ _ h => h) ⟨by rfl, ?_⟩ (by first | assumption | trivial) ?_
              rotate_left
              · intro W9 hSw
                (try dsimp only at hSw)
                go_simp
                try with_reducible rfl
              (try simp only [Act.put, List.setIfInBounds_toArray, List.set_cons_zero, List.set_cons_succ])
              refine takeL (i := 47) (v := ?_) rfl (by kernel_rfl) (by kernel_rfl) (by kernel_rfl) (fun _ _ _ h => h) ⟨by rfl, ?_⟩ (by first | assumption | trivial) ?_
              rotate_left
              · intro W9 hSw
                (try dsimp only at hSw)
                go_simp
                try with_reducible rfl
              (try simp only [Act.put, List.setIfInBounds_toArray, List.set_cons_zero, List.set_cons_succ])
              refine takeL (i := 48) (v := ?_) rfl (by kernel_rfl) (by kernel_rfl) (by kernel_rfl) (fun _ _ _ h => h) ⟨by rfl, ?_⟩ (by first | assumption | trivial) ?_
              rotate_left
              · intro W9 hSw
                (try dsimp only at hSw)
                go_simp
                try with_reducible rfl
              (try simp only [Act.put, List.setIfInBounds_toArray, List.set_cons_zero, List.set_cons_succ])
              refine takeL (i := 49) (v := ?_) rfl (by kernel_rfl) (by kernel_rfl) (by kernel_rfl) (fun _ _ _ h => h) ⟨by rfl, ?_⟩ (by first | assumption | trivial) ?_
              rotate_left
              · intro W9 hSw
                (try dsimp only at hSw)
                (have y0 := (hSw.cell (p := ⟨b, _, none⟩) zb).trans d0; have y1 := (hSw.cell (p := ⟨b, _, none⟩) zb).trans d1; have y2 := (hSw.cell (p := ⟨b, _, none⟩) zb).trans d2; have y3 := (hSw.cell (p := ⟨b, _, none⟩) zb).trans d3; have yl := World.block_lt_of_cell? W9 _ y0)
                go_simp
                try with_reducible rfl
              (try simp only [Act.put, List.setIfInBounds_toArray, List.set_cons_zero, List.set_cons_succ])
              refine wpAnyH_ready (rs := [44]) (by kernel_rfl) (by simp) ?_
              refine consL rfl (by rfl) (fun K hK => ?_) ?_
              · skip
                go_simp
                go_at_call 12
                refine (TW2.out.add1 HLN x (by unfold maxLen; omega) (by have := S2.out.size; omega)).mono ?_
                rintro e v5 ⟨rfl, htw, hb⟩
                rw [← HAX.out]
                have S5 := Lib.hid (S2.out.trans hb)
                refine hK.out _ _ S5.out (fun _ => ?_)
                clear hK K hb
                (try simp only [Act.put, List.setIfInBounds_toArray, List.set_cons_zero, List.set_cons_succ])
                refine wpAnyH_ready (rs := [50]) (by kernel_rfl) (by simp) ?_
                refine consL rfl (by rfl) (fun K hK => ?_) ?_
                · skip
                  go_simp
                  go_at_call 31
                  refine (two_add2 htw HLN (okH_all HK.out) x rfl (by have := S5.out.size; omega)).mono ?_
                  rintro e v6 ⟨rfl, htw6, hb⟩
                  rw [← HAX.out]
                  have S6 := Lib.hid (S5.out.trans hb)
                  refine hK.out _ _ S6.out (fun _ => ?_)
                  rw [← adds_succ HX.out] at htw6
                  have TW6 := Lib.hid htw6
                  have B9 := Lib.hid (B8.out.trans (S6.out.mono hwg))
                  have g09 : g0 ≤ v6.heap.size := by have := S6.out.size; omega
                  clear hK K hb htw htw6
                  (try simp only [Act.put, List.setIfInBounds_toArray, List.set_cons_zero, List.set_cons_succ])
                  refine takeL (i := 51) (v := ?_) rfl (by kernel_rfl) (by kernel_rfl) (by kernel_rfl) (fun _ _ _ h => h) ⟨by rfl, ?_⟩ (by first | assumption | trivial) ?_
                  rotate_left
                  · intro W9 hSw
                    (try dsimp only at hSw)
                    go_simp
                    try with_reducible rfl
                  (try simp only [Act.put, List.setIfInBounds_toArray, List.set_cons_zero, List.set_cons_succ])
                  refine takeL (i := 52) (v := ?_) rfl (by kernel_rfl) (by kernel_rfl) (by kernel_rfl) (fun _ _ _ h => h) ⟨by rfl, ?_⟩ (by first | assumption | trivial) ?_
                  rotate_left
                  · intro W9 hSw
                    (try dsimp only at hSw)
                    go_simp
                    try with_reducible rfl
                  (try simp only [Act.put, List.setIfInBounds_toArray, List.set_cons_zero, List.set_cons_succ])
                  refine wpAnyH_done (by kernel_rfl) ?_ _
                  go_wp2_with fail
                  go_roundw
                  case rel => exact ⟨i + 1, by go_num, by omega, g09, TW6, B9⟩
                  case measure => (first | (simp [intOf]; done) | (simp [intOf]; omega))
                · exact AllReadyH.nil
              · exact AllReadyH.nil
            · exact AllReadyH.nil
          · exact AllReadyH.nil
        · obtain ⟨j, hj⟩ : ∃ j, i = j + 1 := ⟨i - 1, by omega⟩
          obtain ⟨y, hy⟩ : ∃ y, l[j]? = some y := ⟨_, List.getElem?_eq_getElem (by rw [HL2.out]; omega)⟩
          obtain ⟨b', off', e', hb', hce'⟩ := en_at HR2.out hy
          injection e' with e'
          injection e' with e1 e2
          subst e1
          subst e2
          obtain ⟨f0, f1, f2, f3⟩ := hce'.below hb' B8.out
          have p1 : decide ((0 : Int) < (i : Int)) = true := decide_eq_true (by omega)
          have p1n : decide (0 < i) = true := decide_eq_true (by omega)
          have p2 : IntKind.i64.wrap ((i : Int) - 1) = (j : Int) := by rw [IntWalk.i64_in _ (by omega)]; omega
          have p3 : (0 : Int) ≤ (j : Int) := by omega
          have p4 : (j : Int) < (n2 : Int) := by omega
          have HJ := Lib.hid hj
          have HA1 := Lib.hid (fun W => ahead_any y x W)
          have HA2 := Lib.hid (fun W => rahead_any y x W)
          obtain ⟨qq, hqq⟩ : ∃ z, z = ltE y x := ⟨_, rfl⟩
          rw [← hqq] at HA1 HA2
          have p5 : (qq != qq) = false := by simp
          clear hce' hy hqq hj hi0 hb'
          refine takeL (i := 0) (v := ?_) rfl (by kernel_rfl) (by kernel_rfl) (by kernel_rfl) (fun _ _ _ h => h) ⟨by rfl, ?_⟩ (by first | assumption | trivial) ?_
          rotate_left
          · intro W9 hSw
            (try dsimp only at hSw)
            go_simp
            try with_reducible rfl
          (try simp only [Act.put, List.setIfInBounds_toArray, List.set_cons_zero, List.set_cons_succ])
          refine takeL (i := 1) (v := ?_) rfl (by kernel_rfl) (by kernel_rfl) (by kernel_rfl) (fun _ _ _ h => h) ⟨by rfl, ?_⟩ (by first | assumption | trivial) ?_
          rotate_left
          · intro W9 hSw
            (try dsimp only at hSw)
            go_simp
            try with_reducible rfl
          (try simp only [Act.put, List.setIfInBounds_toArray, List.set_cons_zero, List.set_cons_succ])
          refine takeL (i := 2) (v := ?_) rfl (by kernel_rfl) (by kernel_rfl) (by kernel_rfl) (fun _ _ _ h => h) ⟨by rfl, ?_⟩ (by first | assumption | trivial) ?_
          rotate_left
          · intro W9 hSw
            (try dsimp only at hSw)
            go_simp
            try with_reducible rfl
          (try simp only [Act.put, List.setIfInBounds_toArray, List.set_cons_zero, List.set_cons_succ])
          refine takeL (i := 3) (v := ?_) rfl (by kernel_rfl) (by kernel_rfl) (by kernel_rfl) (fun _ _ _ h => h) ⟨by rfl, ?_⟩ (by first | assumption | trivial) ?_
          rotate_left
          · intro W9 hSw
            (try dsimp only at hSw)
            (have y0 := (hSw.cell (p := ⟨b, _, none⟩) zb).trans d0; have y1 := (hSw.cell (p := ⟨b, _, none⟩) zb).trans d1; have y2 := (hSw.cell (p := ⟨b, _, none⟩) zb).trans d2; have y3 := (hSw.cell (p := ⟨b, _, none⟩) zb).trans d3; have yl := World.block_lt_of_cell? W9 _ y0)
            go_simp
            try with_reducible rfl
          (try simp only [Act.put, List.setIfInBounds_toArray, List.set_cons_zero, List.set_cons_succ])
          refine takeL (i := 5) (v := ?_) rfl (by kernel_rfl) (by kernel_rfl) (by kernel_rfl) (fun _ _ _ h => h) ⟨by rfl, ?_⟩ (by first | assumption | trivial) ?_
          rotate_left
          · intro W9 hSw
            (try dsimp only at hSw)
            go_simp
            try with_reducible rfl
          (try simp only [Act.put, List.setIfInBounds_toArray, List.set_cons_zero, List.set_cons_succ])
          refine takeL (i := 6) (v := ?_) rfl (by kernel_rfl) (by kernel_rfl) (by kernel_rfl) (fun _ _ _ h => h) ⟨by rfl, ?_⟩ (by first | assumption | trivial) ?_
          rotate_left
          · intro W9 hSw
            (try dsimp only at hSw)
            go_simp
            try with_reducible rfl
          (try simp only [Act.put, List.setIfInBounds_toArray, List.set_cons_zero, List.set_cons_succ])
          refine takeL (i := 7) (v := ?_) rfl (by kernel_rfl) (by kernel_rfl) (by kernel_rfl) (fun _ _ _ h => h) ⟨by rfl, ?_⟩ (by first | assumption | trivial) ?_
          rotate_left
          · intro W9 hSw
            (try dsimp only at hSw)
            go_simp
            try with_reducible rfl
          (try simp only [Act.put, List.setIfInBounds_toArray, List.set_cons_zero, List.set_cons_succ])
          refine takeL (i := 8) (v := ?_) rfl (by kernel_rfl) (by kernel_rfl) (by kernel_rfl) (fun _ _ _ h => h) ⟨by rfl, ?_⟩ (by first | assumption | trivial) ?_
          rotate_left
          · intro W9 hSw
            (try dsimp only at hSw)
            (have y0 := (hSw.cell (p := ⟨b, _, none⟩) zb).trans d0; have y1 := (hSw.cell (p := ⟨b, _, none⟩) zb).trans d1; have y2 := (hSw.cell (p := ⟨b, _, none⟩) zb).trans d2; have y3 := (hSw.cell (p := ⟨b, _, none⟩) zb).trans d3; have yl := World.block_lt_of_cell? W9 _ y0)
            go_simp
            try with_reducible rfl
          (try simp only [Act.put, List.setIfInBounds_toArray, List.set_cons_zero, List.set_cons_succ])
          refine wpAnyH_ready (rs := [4]) (by kernel_rfl) (by simp) ?_
          refine consL rfl (by rfl) (fun K hK => ?_) ?_
          · skip
            go_simp
            go_at_call 28
            refine (HC1.out v0).mono ?_
            rintro e v1 ⟨rfl, hb⟩
            have S1 := Lib.hid (S0.out.trans (hb.mono (by have := S0.out.size; omega)))
            have TW1 := Lib.hid (TW0.out.next hb)
            refine hK.out _ _ S1.out (fun _ => ?_)
            clear hK K hb
            (try simp only [Act.put, List.setIfInBounds_toArray, List.set_cons_zero, List.set_cons_succ])
            refine wpAnyH_ready (rs := [9]) (by kernel_rfl) (by simp) ?_
            refine consL rfl (by rfl) (fun K hK => ?_) ?_
            · skip
              go_simp
              go_at_call 29
              refine (HC2.out v1).mono ?_
              rintro e v2 ⟨rfl, hb⟩
              have S2 := Lib.hid (S1.out.trans (hb.mono (by have := S1.out.size; omega)))
              have TW2 := Lib.hid (TW1.out.next hb)
              refine hK.out _ _ S2.out (fun _ => ?_)
              clear hK K hb
              (try simp only [Act.put, List.setIfInBounds_toArray, List.set_cons_zero, List.set_cons_succ])
              clear TW0 TW1
              refine takeL (i := 10) (v := ?_) rfl (by kernel_rfl) (by kernel_rfl) (by kernel_rfl) (fun _ _ _ h => h) ⟨by rfl, ?_⟩ (by first | assumption | trivial) ?_
              rotate_left
              · intro W9 hSw
                (try dsimp only at hSw)
                go_simp
                try with_reducible rfl
              (try simp only [Act.put, List.setIfInBounds_toArray, List.set_cons_zero, List.set_cons_succ])
              refine takeL (i := 11) (v := ?_) rfl (by kernel_rfl) (by kernel_rfl) (by kernel_rfl) (fun _ _ _ h => h) ⟨by rfl, ?_⟩ (by first | assumption | trivial) ?_
              rotate_left
              · intro W9 hSw
                (try dsimp only at hSw)
                go_simp
                try with_reducible rfl
              (try simp only [Act.put, List.setIfInBounds_toArray, List.set_cons_zero, List.set_cons_succ])
              refine takeL (i := 12) (v := ?_) rfl (by kernel_rfl) (by kernel_rfl) (by kernel_rfl) (fun _ _ _ h => h) ⟨by rfl, ?_⟩ (by first | assumption | trivial) ?_
              rotate_left
              · intro W9 hSw
                (try dsimp only at hSw)
                go_simp
                try with_reducible rfl
              (try simp only [Act.put, List.setIfInBounds_toArray, List.set_cons_zero, List.set_cons_succ])
              refine takeL (i := 13) (v := ?_) rfl (by kernel_rfl) (by kernel_rfl) (by kernel_rfl) (fun _ _ _ h => h) ⟨by rfl, ?_⟩ (by first | assumption | trivial) ?_
              rotate_left
              · intro W9 hSw
                (try dsimp only at hSw)
                go_simp
                try with_reducible rfl
              (try simp only [Act.put, List.setIfInBounds_toArray, List.set_cons_zero, List.set_cons_succ])
              refine takeL (i := 14) (v := ?_) rfl (by kernel_rfl) (by kernel_rfl) (by kernel_rfl) (fun _ _ _ h => h) ⟨by rfl, ?_⟩ (by first | assumption | trivial) ?_
              rotate_left
              · intro W9 hSw
                (try dsimp only at hSw)
                go_simp
                try with_reducible rfl
              (try simp only [Act.put, List.setIfInBounds_toArray, List.set_cons_zero, List.set_cons_succ])
              refine takeL (i := 15) (v := ?_) rfl (by kernel_rfl) (by kernel_rfl) (by kernel_rfl) (fun _ _ _ h => h) ⟨by rfl, ?_⟩ (by first | assumption | trivial) ?_
              rotate_left
              · intro W9 hSw
                (try dsimp only at hSw)
                go_simp
                try with_reducible rfl
              (try simp only [Act.put, List.setIfInBounds_toArray, List.set_cons_zero, List.set_cons_succ])
              refine takeL (i := 16) (v := ?_) rfl (by kernel_rfl) (by kernel_rfl) (by kernel_rfl) (fun _ _ _ h => h) ⟨by rfl, ?_⟩ (by first | assumption | trivial) ?_
              rotate_left
              · intro W9 hSw
                (try dsimp only at hSw)
                go_simp
                try with_reducible rfl
              (try simp only [Act.put, List.setIfInBounds_toArray, List.set_cons_zero, List.set_cons_succ])
              refine takeL (i := 17) (v := ?_) rfl (by kernel_rfl) (by kernel_rfl) (by kernel_rfl) (fun _ _ _ h => h) ⟨by rfl, ?_⟩ (by first | assumption | trivial) ?_
              rotate_left
              · intro W9 hSw
                (try dsimp only at hSw)
                go_simp
                try with_reducible rfl
              (try simp only [Act.put, List.setIfInBounds_toArray, List.set_cons_zero, List.set_cons_succ])
              refine takeL (i := 18) (v := ?_) rfl (by kernel_rfl) (by kernel_rfl) (by kernel_rfl) (fun _ _ _ h => h) ⟨by rfl, ?_⟩ (by first | assumption | trivial) ?_
              rotate_left
              · intro W9 hSw
                (try dsimp only at hSw)
                go_simp
                try with_reducible rfl
              (try simp only [Act.put, List.setIfInBounds_toArray, List.set_cons_zero, List.set_cons_succ])
              refine takeL (i := 19) (v := ?_) rfl (by kernel_rfl) (by kernel_rfl) (by kernel_rfl) (fun _ _ _ h => h) ⟨by rfl, ?_⟩ (by first | assumption | trivial) ?_
              rotate_left
              · intro W9 hSw
                (try dsimp only at hSw)
                (have y0 := (hSw.cell (p := ⟨b, _, none⟩) zb).trans f0; have y1 := (hSw.cell (p := ⟨b, _, none⟩) zb).trans f1; have y2 := (hSw.cell (p := ⟨b, _, none⟩) zb).trans f2; have y3 := (hSw.cell (p := ⟨b, _, none⟩) zb).trans f3; have yl := World.block_lt_of_cell? W9 _ y0)
                go_simp
                try with_reducible rfl
              (try simp only [Act.put, List.setIfInBounds_toArray, List.set_cons_zero, List.set_cons_succ])
              refine takeL (i := 20) (v := ?_) rfl (by kernel_rfl) (by kernel_rfl) (by kernel_rfl) (fun _ _ _ h => h) ⟨by rfl, ?_⟩ (by first | assumption | trivial) ?_
              rotate_left
              · intro W9 hSw
                (try dsimp only at hSw)
                go_simp
                try with_reducible rfl
              (try simp only [Act.put, List.setIfInBounds_toArray, List.set_cons_zero, List.set_cons_succ])
              refine takeL (i := 21) (v := ?_) rfl (by kernel_rfl) (by kernel_rfl) (by kernel_rfl) (fun _ _ _ h => h) ⟨by rfl, ?_⟩ (by first | assumption | trivial) ?_
              rotate_left
              · intro W9 hSw
                (try dsimp only at hSw)
                go_simp
                try with_reducible rfl
              (try simp only [Act.put, List.setIfInBounds_toArray, List.set_cons_zero, List.set_cons_succ])
              refine takeL (i := 22) (v := ?_) rfl (by kernel_rfl) (by kernel_rfl) (by kernel_rfl) (fun _ _ _ h => h) ⟨by rfl, ?_⟩ (by first | assumption | trivial) ?_
              rotate_left
              · intro W9 hSw
                (try dsimp only at hSw)
                go_simp
                try with_reducible rfl
              (try simp only [Act.put, List.setIfInBounds_toArray, List.set_cons_zero, List.set_cons_succ])
              refine takeL (i := 23) (v := ?_) rfl (by kernel_rfl) (by kernel_rfl) (by kernel_rfl) (fun _ _ _ h => h) ⟨by rfl, ?_⟩ (by first | assumption | trivial) ?_
              rotate_left
              · intro W9 hSw
                (try dsimp only at hSw)
                (have y0 := (hSw.cell (p := ⟨b, _, none⟩) zb).trans d0; have y1 := (hSw.cell (p := ⟨b, _, none⟩) zb).trans d1; have y2 := (hSw.cell (p := ⟨b, _, none⟩) zb).trans d2; have y3 := (hSw.cell (p := ⟨b, _, none⟩) zb).trans d3; have yl := World.block_lt_of_cell? W9 _ y0)
                go_simp
                try with_reducible rfl
              (try simp only [Act.put, List.setIfInBounds_toArray, List.set_cons_zero, List.set_cons_succ])
              refine takeL (i := 25) (v := ?_) rfl (by kernel_rfl) (by kernel_rfl) (by kernel_rfl) (fun _ _ _ h => h) ⟨by rfl, ?_⟩ (by first | assumption | trivial) ?_
              rotate_left
              · intro W9 hSw
                (try dsimp only at hSw)
                go_simp
                try with_reducible rfl
              (try simp only [Act.put, List.setIfInBounds_toArray, List.set_cons_zero, List.set_cons_succ])
              refine takeL (i := 26) (v := ?_) rfl (by kernel_rfl) (by kernel_rfl) (by kernel_rfl) (fun _ _ _ h => h) ⟨by rfl, ?_⟩ (by first | assumption | trivial) ?_
              rotate_left
              · intro W9 hSw
                (try dsimp only at hSw)
                go_simp
                try with_reducible rfl
              (try simp only [Act.put, List.setIfInBounds_toArray, List.set_cons_zero, List.set_cons_succ])
              refine takeL (i := 27) (v := ?_) rfl (by kernel_rfl) (by kernel_rfl) (by kernel_rfl) (fun _ _ _ h => h) ⟨by rfl, ?_⟩ (by first | assumption | trivial) ?_
              rotate_left
              · intro W9 hSw
                (try dsimp only at hSw)
                go_simp
                try with_reducible rfl
              (try simp only [Act.put, List.setIfInBounds_toArray, List.set_cons_zero, List.set_cons_succ])
              refine takeL (i := 28) (v := ?_) rfl (by kernel_rfl) (by kernel_rfl) (by kernel_rfl) (fun _ _ _ h => h) ⟨by rfl, ?_⟩ (by first | assumption | trivial) ?_
              rotate_left
              · intro W9 hSw
                (try dsimp only at hSw)
                go_simp
                try with_reducible rfl
              (try simp only [Act.put, List.setIfInBounds_toArray, List.set_cons_zero, List.set_cons_succ])
              refine takeL (i := 29) (v := ?_) rfl (by kernel_rfl) (by kernel_rfl) (by kernel_rfl) (fun _ _ _ h => h) ⟨by rfl, ?_⟩ (by first | assumption | trivial) ?_
              rotate_left
              · intro W9 hSw
                (try dsimp only at hSw)
                (have y0 := (hSw.cell (p := ⟨b, _, none⟩) zb).trans f0; have y1 := (hSw.cell (p := ⟨b, _, none⟩) zb).trans f1; have y2 := (hSw.cell (p := ⟨b, _, none⟩) zb).trans f2; have y3 := (hSw.cell (p := ⟨b, _, none⟩) zb).trans f3; have yl := World.block_lt_of_cell? W9 _ y0)
                go_simp
                try with_reducible rfl
              (try simp only [Act.put, List.setIfInBounds_toArray, List.set_cons_zero, List.set_cons_succ])
              refine takeL (i := 30) (v := ?_) rfl (by kernel_rfl) (by kernel_rfl) (by kernel_rfl) (fun _ _ _ h => h) ⟨by rfl, ?_⟩ (by first | assumption | trivial) ?_
              rotate_left
              · intro W9 hSw
                (try dsimp only at hSw)
                go_simp
                try with_reducible rfl
              (try simp only [Act.put, List.setIfInBounds_toArray, List.set_cons_zero, List.set_cons_succ])
              refine takeL (i := 31) (v := ?_) rfl (by kernel_rfl) (by kernel_rfl) (by kernel_rfl) (fun _ _ _ h => h) ⟨by rfl, ?_⟩ (by first | assumption | trivial) ?_
              rotate_left
              · intro W9 hSw
                (try dsimp only at hSw)
                go_simp
                try with_reducible rfl
              (try simp only [Act.put, List.setIfInBounds_toArray, List.set_cons_zero, List.set_cons_succ])
              refine takeL (i := 32) (v := ?_) rfl (by kernel_rfl) (by kernel_rfl) (by kernel_rfl) (fun _ _ _ h => h) ⟨by rfl, ?_⟩ (by first | assumption | trivial) ?_
              rotate_left
              · intro W9 hSw
                (try dsimp only at hSw)
                go_simp
                try with_reducible rfl
              (try simp only [Act.put, List.setIfInBounds_toArray, List.set_cons_zero, List.set_cons_succ])
              refine takeL (i := 33) (v := ?_) rfl (by kernel_rfl) (by kernel_rfl) (by kernel_rfl) (fun _ _ _ h => h) ⟨by rfl, ?_⟩ (by first | assumption | trivial) ?_
              rotate_left
              · intro W9 hSw
                (try dsimp only at hSw)
                (have y0 := (hSw.cell (p := ⟨b, _, none⟩) zb).trans d0; have y1 := (hSw.cell (p := ⟨b, _, none⟩) zb).trans d1; have y2 := (hSw.cell (p := ⟨b, _, none⟩) zb).trans d2; have y3 := (hSw.cell (p := ⟨b, _, none⟩) zb).trans d3; have yl := World.block_lt_of_cell? W9 _ y0)
                go_simp
                try with_reducible rfl
              (try simp only [Act.put, List.setIfInBounds_toArray, List.set_cons_zero, List.set_cons_succ])
              refine wpAnyH_ready (rs := [24]) (by kernel_rfl) (by simp) ?_
              refine consL rfl (by rfl) (fun K hK => ?_) ?_
              · skip
                go_simp
                go_at_call 16
                refine (HA1.out v2).mono ?_
                rintro e v3 ⟨rfl, hb⟩
                have S3 := Lib.hid (S2.out.trans (hb.mono (by have := S2.out.size; omega)))
                have TW3 := Lib.hid (TW2.out.next hb)
                refine hK.out _ _ S3.out (fun _ => ?_)
                clear hK K hb
                (try simp only [Act.put, List.setIfInBounds_toArray, List.set_cons_zero, List.set_cons_succ])
                refine wpAnyH_ready (rs := [34]) (by kernel_rfl) (by simp) ?_
                refine consL rfl (by rfl) (fun K hK => ?_) ?_
                · skip
                  go_simp
                  go_at_call 30
                  refine (HA2.out v3).mono ?_
                  rintro e v4 ⟨rfl, hb⟩
                  have S4 := Lib.hid (S3.out.trans (hb.mono (by have := S3.out.size; omega)))
                  have TW4 := Lib.hid (TW3.out.next hb)
                  refine hK.out _ _ S4.out (fun _ => ?_)
                  clear hK K hb
                  (try simp only [Act.put, List.setIfInBounds_toArray, List.set_cons_zero, List.set_cons_succ])
                  refine takeL (i := 35) (v := ?_) rfl (by kernel_rfl) (by kernel_rfl) (by kernel_rfl) (fun _ _ _ h => h) ⟨by rfl, ?_⟩ (by first | assumption | trivial) ?_
                  rotate_left
                  · intro W9 hSw
                    (try dsimp only at hSw)
                    go_simp
                    try with_reducible rfl
                  (try simp only [Act.put, List.setIfInBounds_toArray, List.set_cons_zero, List.set_cons_succ])
                  refine takeL (i := 36) (v := ?_) rfl (by kernel_rfl) (by kernel_rfl) (by kernel_rfl) (fun _ _ _ h => h) ⟨by rfl, ?_⟩ (by first | assumption | trivial) ?_
                  rotate_left
                  · intro W9 hSw
                    (try dsimp only at hSw)
                    go_simp
                    try with_reducible rfl
                  (try simp only [Act.put, List.setIfInBounds_toArray, List.set_cons_zero, List.set_cons_succ])
                  refine takeL (i := 37) (v := ?_) rfl (by kernel_rfl) (by kernel_rfl) (by kernel_rfl) (fun _ _ _ h => h) ⟨by rfl, ?_⟩ (by first | assumption | trivial) ?_
                  rotate_left
                  · intro W9 hSw
                    (try dsimp only at hSw)
                    go_simp
                    try with_reducible rfl
                  (try simp only [Act.put, List.setIfInBounds_toArray, List.set_cons_zero, List.set_cons_succ])
                  refine takeL (i := 38) (v := ?_) rfl (by kernel_rfl) (by kernel_rfl) (by kernel_rfl) (fun _ _ _ h => h) ⟨by rfl, ?_⟩ (by first | assumption | trivial) ?_
                  rotate_left
                  · intro W9 hSw
                    (try dsimp only at hSw)
                    go_simp
                    try with_reducible rfl
                  (try simp only [Act.put, List.setIfInBounds_toArray, List.set_cons_zero, List.set_cons_succ])
                  refine takeL (i := 39) (v := ?_) rfl (by kernel_rfl) (by kernel_rfl) (by kernel_rfl) (fun _ _ _ h => h) ⟨by rfl, ?_⟩ (by first | assumption | trivial) ?_
                  rotate_left
                  · intro W9 hSw
                    (try dsimp only at hSw)
                    go_simp
                    try with_reducible rfl
                  (try simp only [Act.put, List.setIfInBounds_toArray, List.set_cons_zero, List.set_cons_succ])
                  refine takeL (i := 40) (v := ?_) rfl (by kernel_rfl) (by kernel_rfl) (by kernel_rfl) (fun _ _ _ h => h) ⟨by rfl, ?_⟩ (by first | assumption | trivial) ?_
                  rotate_left
                  · intro W9 hSw
                    (try dsimp only at hSw)
                    go_simp
                    try with_reducible rfl
                  (try simp only [Act.put, List.setIfInBounds_toArray, List.set_cons_zero, List.set_cons_succ])
                  refine takeL (i := 41) (v := ?_) rfl (by kernel_rfl) (by kernel_rfl) (by kernel_rfl) (fun _ _ _ h => h) ⟨by rfl, ?_⟩ (by first | assumption | trivial) ?_
                  rotate_left
                  · intro W9 hSw
                    (try dsimp only at hSw)
                    go_simp
                    try with_reducible rfl
                  (try simp only [Act.put, List.setIfInBounds_toArray, List.set_cons_zero, List.set_cons_succ])
                  refine takeL (i := 42) (v := ?_) rfl (by kernel_rfl) (by kernel_rfl) (by kernel_rfl) (fun _ _ _ h => h) ⟨by rfl, ?_⟩ (by first | assumption | trivial) ?_
                  rotate_left
                  · intro W9 hSw
                    (try dsimp only at hSw)
                    go_simp
                    try with_reducible rfl
                  (try simp only [Act.put, List.setIfInBounds_toArray, List.set_cons_zero, List.set_cons_succ])
                  refine takeL (i := 43) (v := ?_) rfl (by kernel_rfl) (by kernel_rfl) (by kernel_rfl) (fun _ _ _ h => h) ⟨by rfl, ?_⟩ (by first | assumption | trivial) ?_
                  rotate_left
                  · intro W9 hSw
                    (try dsimp only at hSw)
                    (have y0 := (hSw.cell (p := ⟨b, _, none⟩) zb).trans d0; have y1 := (hSw.cell (p := ⟨b, _, none⟩) zb).trans d1; have y2 := (hSw.cell (p := ⟨b, _, none⟩) zb).trans d2; have y3 := (hSw.cell (p := ⟨b, _, none⟩) zb).trans d3; have yl := World.block_lt_of_cell? W9 _ y0)
                    go_simp
                    try with_reducible rfl
                  (try simp only [Act.put, List.setIfInBounds_toArray, List.set_cons_zero, List.set_cons_succ])
                  refine takeL (i := 45) (v := ?_) rfl (by kernel_rfl) (by kernel_rfl) (by kernel_rfl) (fun _ _ _ h => h) ⟨by rfl, ?_⟩ (by first | assumption | trivial) ?_
                  rotate_left
                  · intro W9 hSw
                    (try dsimp only at hSw)
                    go_simp
                    try with_reducible rfl
                  (try simp only [Act.put, List.setIfInBounds_toArray, List.set_cons_zero, List.set_cons_succ])
                  refine takeL (i := 46) (v := ?_) rfl (by kernel_rfl) (by kernel_rfl) (by kernel_rfl) (fun _ _ _ h => h) ⟨by rfl, ?_⟩ (by first | assumption | trivial) ?_
                  rotate_left
                  · intro W9 hSw
                    (try dsimp only at hSw)
                    go_simp
                    try with_reducible rfl
                  (try simp only [Act.put, List.setIfInBounds_toArray, List.set_cons_zero, List.set_cons_succ])
                  refine takeL (i := 47) (v := ?_) rfl (by kernel_rfl) (by kernel_rfl) (by kernel_rfl) (fun _ _ _ h => h) ⟨by rfl, ?_⟩ (by first | assumption | trivial) ?_
                  rotate_left
                  · intro W9 hSw
                    (try dsimp only at hSw)
                    go_simp
                    try with_reducible rfl
                  (try simp only [Act.put, List.setIfInBounds_toArray, List.set_cons_zero, List.set_cons_succ])
                  refine takeL (i := 48) (v := ?_) rfl (by kernel_rfl) (by kernel_rfl) (by kernel_rfl) (fun _ _ _ h => h) ⟨by rfl, ?_⟩ (by first | assumption | trivial) ?_
                  rotate_left
                  · intro W9 hSw
                    (try dsimp only at hSw)
                    go_simp
                    try with_reducible rfl
                  (try simp only [Act.put, List.setIfInBounds_toArray, List.set_cons_zero, List.set_cons_succ])
                  refine takeL (i := 49) (v := ?_) rfl (by kernel_rfl) (by kernel_rfl) (by kernel_rfl) (fun _ _ _ h => h) ⟨by rfl, ?_⟩ (by first | assumption | trivial) ?_
                  rotate_left
                  · intro W9 hSw
                    (try dsimp only at hSw)
                    (have y0 := (hSw.cell (p := ⟨b, _, none⟩) zb).trans d0; have y1 := (hSw.cell (p := ⟨b, _, none⟩) zb).trans d1; have y2 := (hSw.cell (p := ⟨b, _, none⟩) zb).trans d2; have y3 := (hSw.cell (p := ⟨b, _, none⟩) zb).trans d3; have yl := World.block_lt_of_cell? W9 _ y0)
                    go_simp
                    try with_reducible rfl
                  (try simp only [Act.put, List.setIfInBounds_toArray, List.set_cons_zero, List.set_cons_succ])
                  refine wpAnyH_ready (rs := [44]) (by kernel_rfl) (by simp) ?_
                  refine consL rfl (by rfl) (fun K hK => ?_) ?_
                  · skip
                    go_simp
                    go_at_call 12
                    refine (TW4.out.add1 HLN x (by unfold maxLen; omega) (by have := S4.out.size; omega)).mono ?_
                    rintro e v5 ⟨rfl, htw, hb⟩
                    rw [← HAX.out]
                    have S5 := Lib.hid (S4.out.trans hb)
                    refine hK.out _ _ S5.out (fun _ => ?_)
                    clear hK K hb
                    (try simp only [Act.put, List.setIfInBounds_toArray, List.set_cons_zero, List.set_cons_succ])
                    refine wpAnyH_ready (rs := [50]) (by kernel_rfl) (by simp) ?_
                    refine consL rfl (by rfl) (fun K hK => ?_) ?_
                    · skip
                      go_simp
                      go_at_call 31
                      refine (two_add2 htw HLN (okH_all HK.out) x rfl (by have := S5.out.size; omega)).mono ?_
                      rintro e v6 ⟨rfl, htw6, hb⟩
                      rw [← HAX.out]
                      have S6 := Lib.hid (S5.out.trans hb)
                      refine hK.out _ _ S6.out (fun _ => ?_)
                      rw [← adds_succ HX.out] at htw6
                      have TW6 := Lib.hid htw6
                      have B9 := Lib.hid (B8.out.trans (S6.out.mono hwg))
                      have g09 : g0 ≤ v6.heap.size := by have := S6.out.size; omega
                      clear hK K hb htw htw6
                      (try simp only [Act.put, List.setIfInBounds_toArray, List.set_cons_zero, List.set_cons_succ])
                      refine takeL (i := 51) (v := ?_) rfl (by kernel_rfl) (by kernel_rfl) (by kernel_rfl) (fun _ _ _ h => h) ⟨by rfl, ?_⟩ (by first | assumption | trivial) ?_
                      rotate_left
                      · intro W9 hSw
                        (try dsimp only at hSw)
                        go_simp
                        try with_reducible rfl
                      (try simp only [Act.put, List.setIfInBounds_toArray, List.set_cons_zero, List.set_cons_succ])
                      refine takeL (i := 52) (v := ?_) rfl (by kernel_rfl) (by kernel_rfl) (by kernel_rfl) (fun _ _ _ h => h) ⟨by rfl, ?_⟩ (by first | assumption | trivial) ?_
                      rotate_left
                      · intro W9 hSw
                        (try dsimp only at hSw)
                        go_simp
                        try with_reducible rfl
                      (try simp only [Act.put, List.setIfInBounds_toArray, List.set_cons_zero, List.set_cons_succ])
                      refine wpAnyH_done (by kernel_rfl) ?_ _
                      go_wp2_with fail
                      go_roundw
                      case rel => exact ⟨i + 1, by go_num, by omega, g09, TW6, B9⟩
                      case measure => (first | (simp [intOf]; done) | (simp [intOf]; omega))
                    · exact AllReadyH.nil
                  · exact AllReadyH.nil
                · exact AllReadyH.nil
              · exact AllReadyH.nil
            · exact AllReadyH.nil
          · exact AllReadyH.nil
      obtain rfl : i = n2 := by omega
      rw [List.take_of_length_le (by rw [HL2.out]; exact Nat.le_refl _)] at TW8
      have j1 : ¬ (i : Int) < (i : Int) := by omega
      clear hlt
      go_wp2_with fail
      have hLL : (adds hs l).length ≤ 60 := by have := adds_len hs l; have := HL2.out; omega
      have HKS : Hid (∀ x ∈ (adds hs l).map Prod.fst, x.key.size ≤ 1000000) := Lib.hid (fun x hx => by
        obtain ⟨y, hy, rfl⟩ := List.mem_map.1 hx
        obtain ⟨j, hj⟩ := List.mem_iff_getElem?.1 (adds_mem hy)
        have := (HSM.out.2 j _ hj).1
        omega)
      generalize adds hs l = L at *
      obtain ⟨S1, S2, m8, d8, -, k1, k2⟩ := TW8.out
      have HM8 := Lib.hid m8
      have HD8 := Lib.hid d8
      have KS := Lib.hid (And.intro k1 k2)
      clear m8 d8 k1 k2 TW8
      refine (same6_any S1 S2 T R hs L (by omega) A3 n3 c3 w.heap.size qs HL3.out (by omega) w8 HM8.out HD8.out (HR3.out.below B8.out) B8.out.size).mono ?_
      rintro r w9 ⟨rfl, hb⟩
      have HM9 := Lib.hid (HM8.out.next hb)
      have HD9 := Lib.hid (HD8.out.next hb)
      have B9 := Lib.hid (B8.out.trans (hb.mono B8.out.size))
      have z89 := hb.size
      obtain ⟨Ae, ce, c2, cl⟩ : ∃ Ae ce, w9.cell? ⟨R, 2, none⟩ = some (.slice Ae L.length ce) ∧ R < w9.heap.size := by
        obtain ⟨Ah, ch, Ae, ce, At, ct, h1, -⟩ := HD9.out
        exact ⟨Ae, ce, h1.c 2 _ rfl, h1.lt⟩
      clear hb HM8 HD8 B8
      have hw : IntKind.i64.wrap ((L.length : Int) + 1) = (L.length : Int) + 1 := IntWalk.i64_in _ (by omega)
      go_wp2_with fail
      refine (pick_any o ((L.length : Int) + 1) (by omega) (by omega) ho w9).mono ?_
      rintro r w10 ⟨rfl, rfl⟩
      obtain ⟨m, hm, hmL⟩ : ∃ m : Nat, o % ((L.length : Int) + 1) = (m : Int) ∧ m ≤ L.length := ⟨(o % ((L.length : Int) + 1)).toNat, by
        have := Int.emod_nonneg o (show ((L.length : Int) + 1) ≠ 0 by omega)
        omega, by
        have := Int.emod_lt_of_pos o (show 0 < ((L.length : Int) + 1) by omega)
        have := Int.emod_nonneg o (show ((L.length : Int) + 1) ≠ 0 by omega)
        omega⟩
      rw [hm]
      clear hm c2 cl hw
      go_wp2_with fail
      refine (mscan_any S1 T hs L (by omega) { data := #[] } { data := #[] } 1073741824 w9 HM9.out).mono ?_
      rintro r w10 ⟨u, rfl, own, hb⟩
      have HKV : Hid (∀ x ∈ visE { data := #[] } { data := #[] } 1073741824 (L.map Prod.fst), x.key.size ≤ 1000000) := Lib.hid (fun x hx => HKS.out x (vis_mem1 _ _ _ _ _ x hx).1)
      have hVl := visE_len { data := #[] } { data := #[] } 1073741824 (L.map Prod.fst)
      rw [List.length_map] at hVl
      have HSC := Lib.hid (fun W h => mscan_any S1 T hs L (by omega) { data := #[] } { data := #[] } 1073741824 W h)
      generalize visE { data := #[] } { data := #[] } 1073741824 (L.map Prod.fst) = V at *
      obtain ⟨A10, c10, rfl, -, -⟩ := own_sl own
      have OA10 := Lib.hid own
      have HPA := Lib.hid (fun g hg => own.lt g hg)
      have HM10 := Lib.hid (HM9.out.next hb)
      have HD10 := Lib.hid (HD9.out.next hb)
      have B10 := Lib.hid (B9.out.trans (hb.mono B9.out.size))
      have z910 := hb.size
      clear own hb HM9 HD9 B9 HKS
      go_wp2_with fail
      refine (HSC.out w10 HM10.out).mono ?_
      rintro r w11 ⟨u, rfl, own, hb⟩
      obtain ⟨A11, c11, rfl, -, -⟩ := own_sl own
      have OB11 := Lib.hid own
      have HPB := Lib.hid (fun g hg => own.lt g hg)
      have OA11 := Lib.hid (own_keep OA10.out hb (Nat.le_refl _))
      have HM11 := Lib.hid (HM10.out.next hb)
      have HD11 := Lib.hid (HD10.out.next hb)
      have B11 := Lib.hid (B10.out.trans (hb.mono B10.out.size))
      have z1011 := hb.size
      clear own hb HM10 HD10 B10 HSC OA10
      go_wp2_with fail
      refine (mall_any S1 T hs L (by omega) m w11 HM11.out).mono ?_
      rintro r w12 ⟨u, rfl, own, hb⟩
      have hml : ((L.map Prod.fst).take m).length = m := by rw [List.length_take, List.length_map]; omega
      rw [hml] at own
      obtain ⟨A12, c12, rfl, -, r12⟩ := own_sl own
      have R12 := Lib.hid r12
      have OA12 := Lib.hid (own_keep OA11.out hb (Nat.le_refl _))
      have OB12 := Lib.hid (own_keep OB11.out hb (Nat.le_refl _))
      have HM12 := Lib.hid (HM11.out.next hb)
      have HD12 := Lib.hid (HD11.out.next hb)
      have B12 := Lib.hid (B11.out.trans (hb.mono B11.out.size))
      have z1112 := hb.size
      clear own hb r12 HM11 HD11 B11 OA11 OB11
      go_wp2_with fail
      refine (dall_e S2 R hs L (by omega) w12 HD12.out).mono ?_
      rintro r w13 ⟨A13, c13, rfl, q13, r13, hb⟩
      have R13 : Hid (Rd w13 w13.heap.size A13 (env ((L.map Prod.fst).take m))) := Lib.hid (by rw [env_take]; exact rd_to r13)
      have R12' := Lib.hid ((R12.out.below hb).more hb.size)
      have OA13 := Lib.hid (own_keep OA12.out hb (Nat.le_refl _))
      have OB13 := Lib.hid (own_keep OB12.out hb (Nat.le_refl _))
      have HM13 := Lib.hid (HM12.out.next hb)
      have HD13 := Lib.hid (HD12.out.next hb)
      have B13 := Lib.hid (B12.out.trans (hb.mono B12.out.size))
      have z1213 := hb.size
      clear hb r13 HM12 HD12 B12 OA12 OB12 R12
      have i3 : (m : Int) ≤ (c13 : Int) := by omega
      go_wp2_with fail
      refine (sameT_any A12 A13 m c12 c13 ((L.map Prod.fst).take m) hml (by omega) w13 R12'.out R13.out).mono ?_
      rintro r w14 ⟨rfl, hb⟩
      have OA14 := Lib.hid (own_keep OA13.out hb (Nat.le_refl _))
      have OB14 := Lib.hid (own_keep OB13.out hb (Nat.le_refl _))
      have HM14 := Lib.hid (HM13.out.next hb)
      have HD14 := Lib.hid (HD13.out.next hb)
      have B14 := Lib.hid (B13.out.trans (hb.mono B13.out.size))
      have z1314 := hb.size
      clear hb HM13 HD13 B13 OA13 OB13 R12' R13
      go_wp2_with fail
      have hb : Below w14.heap.size w14 (w14.alloc (.cells #[.slice A11 V.length c11] 22)) := (Below.refl _ _).alloc (Nat.le_refl _) _
      have RN := Lib.hid (rd_frC w14 #[.slice A11 V.length c11] 22 (0, 0))
      have OA15 := Lib.hid (own_keep OA14.out hb (Nat.le_refl _))
      have OB15 := Lib.hid (own_keep OB14.out hb (Nat.le_refl _))
      have HM15 := Lib.hid (HM14.out.next hb)
      have HD15 := Lib.hid (HD14.out.next hb)
      have B15 := Lib.hid (B14.out.trans (hb.mono B14.out.size))
      have z1415 := hb.size
      clear hb HM14 HD14 B14 OA14 OB14
      generalize w14.alloc (.cells #[.slice A11 V.length c11] 22) = w15 at *
      have zw := B15.out.size
      refine (apartE_any A10 V.length c10 w9.heap.size V (some ⟨w14.heap.size, 0, none⟩) 1 1 [.slice A11 V.length c11] [V] rfl (by omega) (by omega) rfl rfl (by
        intro l' hl'
        rw [List.mem_singleton.1 hl']
        omega) HKV.out w15 OA15.out RN.out (by
        intro g o h1 h2
        injection h1 with h1
        injection h1 with h1
        have := (HPA.out g h2).2
        omega) (by
        intro i l' hl'
        cases i with
        | zero =>
          obtain rfl : V = l' := by simpa using hl'
          obtain ⟨A', c', e', -, r'⟩ := own_sl OB15.out
          injection e' with e1 _ e2
          subst e1
          exact ⟨_, c11, rfl, r', fun g o h1 h2 => by
            have h3 := (HPA.out g h2).2
            have h4 := (HPB.out g (by rw [h1]; rfl)).1
            omega⟩
        | succ i => simp at hl')).mono ?_
      rintro e w16 ⟨rfl, gr⟩
      have B16 := Lib.hid (B15.out.grown gr zw (fun g hg => by have := (HPA.out g hg).1; have := KS.out.2; omega))
      have HM16 := Lib.hid (HM15.out.keep gr.size (fun g hg hlt => gr.block g hlt (fun e => by have := (HPA.out g e.symm).1; have := (KS.out.1 g hg).2; omega)))
      have HD16 := Lib.hid (HD15.out.keep gr.size (fun g hg hlt => gr.block g hlt (fun e => by have := (HPA.out g e.symm).1; have := (KS.out.2 g hg).2; omega)))
      clear gr HM15 HD15 B15 OA15 OB15 RN
      go_wp2_with fail
      refine (same6_any S1 S2 T R hs L (by omega) A3 n3 c3 w.heap.size qs HL3.out (by omega) w16 HM16.out HD16.out (HR3.out.below B16.out) B16.out.size).mono ?_
      rintro r w17 ⟨rfl, hb⟩
      have B17 := Lib.hid (B16.out.trans (hb.mono B16.out.size))
      clear hb B16 HM16 HD16
      go_wp2_with fail
      go_ret
      exact ⟨rfl, B17.out⟩
end Go.Proofs.Ytjhgbdeadkoegaa
