/- Walk: a memtable that nobody made. -/
import Derived.Test.YtjhgbdeadkoegaaLp
namespace Go.Proofs.Ytjhgbdeadkoegaa
open Go.RowKit Go.St Go.Shelf Go.Maps
set_option linter.unusedVariables false
set_option linter.unusedSimpArgs false
set_option maxRecDepth 100000

/-- A question to a memtable. -/
structure AskM where
  key : ByteArray
  seq : Int
  fr : ByteArray
  to_ : ByteArray
  lane : Int
def AskM.c (a : AskM) : List Value := [.string a.key, .int .i64 a.seq, .string a.fr, .string a.to_, .int .i64 a.lane]
def InAsk (a : AskM) : Prop := a.key.size ≤ 140737488351232 ∧ a.fr.size ≤ 140737488351232 ∧ a.to_.size ≤ 140737488351232 ∧ (-9223372036854775808 ≤ a.seq ∧ a.seq ≤ 9223372036854775807) ∧ (-9223372036854775808 ≤ a.lane ∧ a.lane ≤ 9223372036854775807)
theorem itr_no {W : World} {v : Option Addr} (h : NoT W v) : Itr W v [] := .inl ⟨h, rfl⟩
set_option maxHeartbeats 6400000 in
theorem memNil_walk (w : World) (x : Ent) (a : AskM) : Calls Try.prog 8 #[.agg #[.string x.key, .string x.val, .int .i64 x.seq, .bool x.del], .agg #[.string a.key, .int .i64 a.seq, .string a.fr, .string a.to_, .int .i64 a.lane]] w fun e w' => e = .returned (.bool true) ∧ Below w.heap.size w w' := by
  go_enter Try.func8, Try.ntmps8
  go_wp2_with fail
  obtain ⟨v0, hv0⟩ : ∃ y, y = w.alloc (.cells #[.string x.key, .string x.val, .int .i64 x.seq, .bool x.del] 32) := ⟨_, rfl⟩
  have z0 : v0.heap.size = w.heap.size + 1 := by rw [hv0]; simp
  have S0 : BxV v0 w.heap.size [.string x.key, .string x.val, .int .i64 x.seq, .bool x.del] := by rw [hv0]; exact BxV.new w _ _
  have b0 : Below w.heap.size w v0 := by rw [hv0]; exact (Below.refl _ _).alloc (Nat.le_refl _) _
  rw [← hv0]
  obtain ⟨v1, hv1⟩ : ∃ y, y = v0.alloc (.cells #[.string a.key, .int .i64 a.seq, .string a.fr, .string a.to_, .int .i64 a.lane] 41) := ⟨_, rfl⟩
  have z1 : v1.heap.size = w.heap.size + 1 + 1 := by rw [hv1, World.size_alloc, z0]
  have S1 : BxV v1 (w.heap.size + 1) [.string a.key, .int .i64 a.seq, .string a.fr, .string a.to_, .int .i64 a.lane] := by rw [hv1, ← z0]; exact BxV.new v0 _ _
  have b1 : Below v0.heap.size v0 v1 := by rw [hv1]; exact (Below.refl _ _).alloc (Nat.le_refl _) _
  rw [← hv1]
  obtain ⟨v2, hv2⟩ : ∃ y, y = v1.alloc (.cells #[.string { data := #[] }, .string { data := #[] }, .int .i64 0, .bool false, .int .i64 0, .pointer none, .pointer none, .pointer none, .pointer none, .pointer none, .pointer none, .pointer none, .pointer none, .pointer none, .pointer none, .pointer none, .pointer none, .slice none 0 0, .int .i64 0, .int .i64 0, .bool false] 69) := ⟨_, rfl⟩
  have z2 : v2.heap.size = w.heap.size + 1 + 1 + 1 := by rw [hv2, World.size_alloc, z1]
  have S2 : BxV v2 (w.heap.size + 1 + 1) [.string { data := #[] }, .string { data := #[] }, .int .i64 0, .bool false, .int .i64 0, .pointer none, .pointer none, .pointer none, .pointer none, .pointer none, .pointer none, .pointer none, .pointer none, .pointer none, .pointer none, .pointer none, .pointer none, .slice none 0 0, .int .i64 0, .int .i64 0, .bool false] := by rw [hv2, ← z1]; exact BxV.new v1 _ _
  have b2 : Below v1.heap.size v1 v2 := by rw [hv2]; exact (Below.refl _ _).alloc (Nat.le_refl _) _
  rw [← hv2]
  obtain ⟨wS, hv3⟩ : ∃ y, y = v2.alloc (.cells #[.pointer none, .pointer (some ⟨w.heap.size + 1 + 1, 0, none⟩)] 25) := ⟨_, rfl⟩
  have S3 : BxV wS (w.heap.size + 1 + 1 + 1) [.pointer none, .pointer (some ⟨w.heap.size + 1 + 1, 0, none⟩)] := by rw [hv3, ← z2]; exact BxV.new v2 _ _
  have b3 : Below v2.heap.size v2 wS := by rw [hv3]; exact (Below.refl _ _).alloc (Nat.le_refl _) _
  rw [← hv3]
  have XX := Lib.hid (((S0.next b1).next b2).next b3)
  have XA := Lib.hid ((S1.next b2).next b3)
  have XT := Lib.hid (S2.next b3)
  have XL := Lib.hid S3
  have BS : Hid (Below w.heap.size w wS) := Lib.hid (((b0.trans (b1.mono (by omega))).trans (b2.mono (by omega))).trans (b3.mono (by omega)))
  clear S0 S1 S2 S3 b0 b1 b2 b3 hv0 hv1 hv2 hv3 z0 z1 z2 v0 v1 v2
  generalize hq : w.heap.size = q at *
  go_loopw [6] (fun s6 wr => ∃ i : Nat, s6 = .int .i64 (i : Int) ∧ i ≤ 2 ∧ Hid (Below wS.heap.size wS wr)) (fun s6 _ => 2 - (intOf s6).toNat)
  case atStart => exact ⟨0, rfl, by omega, Lib.hid (Below.refl _ _)⟩
  case round =>
    obtain ⟨i, rfl, hi, D0⟩ := hrel
    obtain ⟨w1, rfl⟩ : ∃ x, x = wr := ⟨_, rfl⟩
    have r0 := (XL.out.next D0.out).c 0 _ rfl
    have r1 := (XL.out.next D0.out).c 1 _ rfl
    have rl := (XL.out.next D0.out).lt
    rcases Nat.lt_or_ge i 2 with h2 | h2
    · rcases Nat.lt_or_ge i 1 with h1 | h1
      · obtain rfl : i = 0 := by omega
        have HN : Hid (NoT wS none) := Lib.hid (.inl rfl)
        have a0 := (XA.out.next D0.out).c 0 _ rfl
        have a1 := (XA.out.next D0.out).c 1 _ rfl
        have a2 := (XA.out.next D0.out).c 2 _ rfl
        have a3 := (XA.out.next D0.out).c 3 _ rfl
        have a4 := (XA.out.next D0.out).c 4 _ rfl
        have la := (XA.out.next D0.out).lt
        go_wp2_with fail
        refine (tget_no none a.key a.seq w1 (HN.out.next D0.out)).mono ?_
        rintro r w2 ⟨rfl, hb⟩
        have D2 := Lib.hid (D0.out.trans (hb.mono D0.out.size))
        clear hb D0 a0 a1 a2 a3 a4 la
        have a0 := (XA.out.next D2.out).c 0 _ rfl
        have a1 := (XA.out.next D2.out).c 1 _ rfl
        have a2 := (XA.out.next D2.out).c 2 _ rfl
        have a3 := (XA.out.next D2.out).c 3 _ rfl
        have a4 := (XA.out.next D2.out).c 4 _ rfl
        have la := (XA.out.next D2.out).lt
        go_upto_region 7 with (fail)
        have hb : Below w2.heap.size w2 (w2.alloc (.cells #[.string { data := #[] }, .string { data := #[] }, .int .i64 0, .bool false] 32)) := (Below.refl _ _).alloc (Nat.le_refl _) _
        have ZB3 : Hid (BxV (w2.alloc (.cells #[.string { data := #[] }, .string { data := #[] }, .int .i64 0, .bool false] 32)) w2.heap.size [.string { data := #[] }, .string { data := #[] }, .int .i64 0, .bool false]) := Lib.hid (BxV.new w2 _ _)
        obtain ⟨w3, hw3⟩ : ∃ x, x = w2.alloc (.cells #[.string { data := #[] }, .string { data := #[] }, .int .i64 0, .bool false] 32) := ⟨_, rfl⟩
        rw [← hw3] at hb ZB3 ⊢
        clear hw3
        obtain ⟨bz, hbz⟩ : ∃ b, b = w2.heap.size := ⟨_, rfl⟩
        rw [← hbz] at ZB3 ⊢
        have D3 := Lib.hid (D2.out.trans (hb.mono D2.out.size))
        clear hb D2 a0 a1 a2 a3 a4 la
        have a0 := (XA.out.next D3.out).c 0 _ rfl
        have a1 := (XA.out.next D3.out).c 1 _ rfl
        have a2 := (XA.out.next D3.out).c 2 _ rfl
        have a3 := (XA.out.next D3.out).c 3 _ rfl
        have a4 := (XA.out.next D3.out).c 4 _ rfl
        have la := (XA.out.next D3.out).lt
        clear hbz
        have x0 := (XX.out.next D3.out).c 0 _ rfl
        have x1 := (XX.out.next D3.out).c 1 _ rfl
        have x2 := (XX.out.next D3.out).c 2 _ rfl
        have x3 := (XX.out.next D3.out).c 3 _ rfl
        have lx := (XX.out.next D3.out).lt
        go_wp2_with fail
        refine (tadd_no none x w3 (HN.out.next D3.out)).mono ?_
        rintro r w4 ⟨rfl, hb⟩
        clear x0 x1 x2 x3 lx
        have ZB4 := Lib.hid (ZB3.out.next hb)
        clear ZB3
        have D4 := Lib.hid (D3.out.trans (hb.mono D3.out.size))
        clear hb D3 a0 a1 a2 a3 a4 la
        have a0 := (XA.out.next D4.out).c 0 _ rfl
        have a1 := (XA.out.next D4.out).c 1 _ rfl
        have a2 := (XA.out.next D4.out).c 2 _ rfl
        have a3 := (XA.out.next D4.out).c 3 _ rfl
        have a4 := (XA.out.next D4.out).c 4 _ rfl
        have la := (XA.out.next D4.out).lt
        have z0 := ZB4.out.c 0 _ rfl
        have z1 := ZB4.out.c 1 _ rfl
        have z2 := ZB4.out.c 2 _ rfl
        have z3 := ZB4.out.c 3 _ rfl
        have lz := ZB4.out.lt
        go_wp2_with fail
        refine (tscan_any none [] (by simp) a.fr a.to_ a.seq w4 (itr_no (HN.out.next D4.out))).mono ?_
        rintro r w5 ⟨u, rfl, own, hb⟩
        clear z0 z1 z2 z3 lz
        rw [show visE a.fr a.to_ a.seq [] = [] from rfl] at own
        obtain ⟨A5, c5, rfl, -, r5⟩ := own_sl own
        clear own r5
        have D5 := Lib.hid (D4.out.trans (hb.mono D4.out.size))
        clear hb D4 a0 a1 a2 a3 a4 la
        have a0 := (XA.out.next D5.out).c 0 _ rfl
        have a1 := (XA.out.next D5.out).c 1 _ rfl
        have a2 := (XA.out.next D5.out).c 2 _ rfl
        have a3 := (XA.out.next D5.out).c 3 _ rfl
        have a4 := (XA.out.next D5.out).c 4 _ rfl
        have la := (XA.out.next D5.out).lt
        go_wp2_with fail
        refine (tlen_no none w5 (HN.out.next D5.out)).mono ?_
        rintro r w6 ⟨rfl, rfl⟩
        go_wp2_with fail
        refine (tsize_no none w5 (HN.out.next D5.out)).mono ?_
        rintro r w6 ⟨rfl, rfl⟩
        go_wp2_with fail
        refine (tlane_no none a.lane w5 (HN.out.next D5.out)).mono ?_
        rintro r w6 ⟨rfl, rfl⟩
        go_wp2_with fail
        refine (tcost_no none a.key a.seq w5 (HN.out.next D5.out)).mono ?_
        rintro r w6 ⟨rfl, rfl⟩
        go_wp2_with fail
        refine (all_any none [] (by simp) 2 w5 (itr_no (HN.out.next D5.out))).mono ?_
        rintro r w6 ⟨u, rfl, own, hb⟩
        obtain ⟨A6, c6, rfl, -, r6⟩ := own_sl own
        clear own r6
        have D6 := Lib.hid (D5.out.trans (hb.mono D5.out.size))
        clear hb D5 a0 a1 a2 a3 a4 la
        have a0 := (XA.out.next D6.out).c 0 _ rfl
        have a1 := (XA.out.next D6.out).c 1 _ rfl
        have a2 := (XA.out.next D6.out).c 2 _ rfl
        have a3 := (XA.out.next D6.out).c 3 _ rfl
        have a4 := (XA.out.next D6.out).c 4 _ rfl
        have la := (XA.out.next D6.out).lt
        go_wp2_with fail
        go_roundw
        case rel => exact ⟨1, by first | rfl | go_num, by omega, D6⟩
        case measure => (first | (simp [intOf]; done) | (simp [intOf]; omega))
      · obtain rfl : i = 1 := by omega
        have HN : Hid (NoT wS (some ⟨q + 1 + 1, 0, none⟩)) := Lib.hid (.inr ⟨_, rfl, XT.out.c 20 _ rfl⟩)
        have a0 := (XA.out.next D0.out).c 0 _ rfl
        have a1 := (XA.out.next D0.out).c 1 _ rfl
        have a2 := (XA.out.next D0.out).c 2 _ rfl
        have a3 := (XA.out.next D0.out).c 3 _ rfl
        have a4 := (XA.out.next D0.out).c 4 _ rfl
        have la := (XA.out.next D0.out).lt
        go_wp2_with fail
        refine (tget_no (some ⟨q + 1 + 1, 0, none⟩) a.key a.seq w1 (HN.out.next D0.out)).mono ?_
        rintro r w2 ⟨rfl, hb⟩
        have D2 := Lib.hid (D0.out.trans (hb.mono D0.out.size))
        clear hb D0 a0 a1 a2 a3 a4 la
        have a0 := (XA.out.next D2.out).c 0 _ rfl
        have a1 := (XA.out.next D2.out).c 1 _ rfl
        have a2 := (XA.out.next D2.out).c 2 _ rfl
        have a3 := (XA.out.next D2.out).c 3 _ rfl
        have a4 := (XA.out.next D2.out).c 4 _ rfl
        have la := (XA.out.next D2.out).lt
        go_upto_region 7 with (fail)
        have hb : Below w2.heap.size w2 (w2.alloc (.cells #[.string { data := #[] }, .string { data := #[] }, .int .i64 0, .bool false] 32)) := (Below.refl _ _).alloc (Nat.le_refl _) _
        have ZB3 : Hid (BxV (w2.alloc (.cells #[.string { data := #[] }, .string { data := #[] }, .int .i64 0, .bool false] 32)) w2.heap.size [.string { data := #[] }, .string { data := #[] }, .int .i64 0, .bool false]) := Lib.hid (BxV.new w2 _ _)
        obtain ⟨w3, hw3⟩ : ∃ x, x = w2.alloc (.cells #[.string { data := #[] }, .string { data := #[] }, .int .i64 0, .bool false] 32) := ⟨_, rfl⟩
        rw [← hw3] at hb ZB3 ⊢
        clear hw3
        obtain ⟨bz, hbz⟩ : ∃ b, b = w2.heap.size := ⟨_, rfl⟩
        rw [← hbz] at ZB3 ⊢
        have D3 := Lib.hid (D2.out.trans (hb.mono D2.out.size))
        clear hb D2 a0 a1 a2 a3 a4 la
        have a0 := (XA.out.next D3.out).c 0 _ rfl
        have a1 := (XA.out.next D3.out).c 1 _ rfl
        have a2 := (XA.out.next D3.out).c 2 _ rfl
        have a3 := (XA.out.next D3.out).c 3 _ rfl
        have a4 := (XA.out.next D3.out).c 4 _ rfl
        have la := (XA.out.next D3.out).lt
        clear hbz
        have x0 := (XX.out.next D3.out).c 0 _ rfl
        have x1 := (XX.out.next D3.out).c 1 _ rfl
        have x2 := (XX.out.next D3.out).c 2 _ rfl
        have x3 := (XX.out.next D3.out).c 3 _ rfl
        have lx := (XX.out.next D3.out).lt
        go_wp2_with fail
        refine (tadd_no (some ⟨q + 1 + 1, 0, none⟩) x w3 (HN.out.next D3.out)).mono ?_
        rintro r w4 ⟨rfl, hb⟩
        clear x0 x1 x2 x3 lx
        have ZB4 := Lib.hid (ZB3.out.next hb)
        clear ZB3
        have D4 := Lib.hid (D3.out.trans (hb.mono D3.out.size))
        clear hb D3 a0 a1 a2 a3 a4 la
        have a0 := (XA.out.next D4.out).c 0 _ rfl
        have a1 := (XA.out.next D4.out).c 1 _ rfl
        have a2 := (XA.out.next D4.out).c 2 _ rfl
        have a3 := (XA.out.next D4.out).c 3 _ rfl
        have a4 := (XA.out.next D4.out).c 4 _ rfl
        have la := (XA.out.next D4.out).lt
        have z0 := ZB4.out.c 0 _ rfl
        have z1 := ZB4.out.c 1 _ rfl
        have z2 := ZB4.out.c 2 _ rfl
        have z3 := ZB4.out.c 3 _ rfl
        have lz := ZB4.out.lt
        go_wp2_with fail
        refine (tscan_any (some ⟨q + 1 + 1, 0, none⟩) [] (by simp) a.fr a.to_ a.seq w4 (itr_no (HN.out.next D4.out))).mono ?_
        rintro r w5 ⟨u, rfl, own, hb⟩
        clear z0 z1 z2 z3 lz
        rw [show visE a.fr a.to_ a.seq [] = [] from rfl] at own
        obtain ⟨A5, c5, rfl, -, r5⟩ := own_sl own
        clear own r5
        have D5 := Lib.hid (D4.out.trans (hb.mono D4.out.size))
        clear hb D4 a0 a1 a2 a3 a4 la
        have a0 := (XA.out.next D5.out).c 0 _ rfl
        have a1 := (XA.out.next D5.out).c 1 _ rfl
        have a2 := (XA.out.next D5.out).c 2 _ rfl
        have a3 := (XA.out.next D5.out).c 3 _ rfl
        have a4 := (XA.out.next D5.out).c 4 _ rfl
        have la := (XA.out.next D5.out).lt
        go_wp2_with fail
        refine (tlen_no (some ⟨q + 1 + 1, 0, none⟩) w5 (HN.out.next D5.out)).mono ?_
        rintro r w6 ⟨rfl, rfl⟩
        go_wp2_with fail
        refine (tsize_no (some ⟨q + 1 + 1, 0, none⟩) w5 (HN.out.next D5.out)).mono ?_
        rintro r w6 ⟨rfl, rfl⟩
        go_wp2_with fail
        refine (tlane_no (some ⟨q + 1 + 1, 0, none⟩) a.lane w5 (HN.out.next D5.out)).mono ?_
        rintro r w6 ⟨rfl, rfl⟩
        go_wp2_with fail
        refine (tcost_no (some ⟨q + 1 + 1, 0, none⟩) a.key a.seq w5 (HN.out.next D5.out)).mono ?_
        rintro r w6 ⟨rfl, rfl⟩
        go_wp2_with fail
        refine (all_any (some ⟨q + 1 + 1, 0, none⟩) [] (by simp) 2 w5 (itr_no (HN.out.next D5.out))).mono ?_
        rintro r w6 ⟨u, rfl, own, hb⟩
        obtain ⟨A6, c6, rfl, -, r6⟩ := own_sl own
        clear own r6
        have D6 := Lib.hid (D5.out.trans (hb.mono D5.out.size))
        clear hb D5 a0 a1 a2 a3 a4 la
        have a0 := (XA.out.next D6.out).c 0 _ rfl
        have a1 := (XA.out.next D6.out).c 1 _ rfl
        have a2 := (XA.out.next D6.out).c 2 _ rfl
        have a3 := (XA.out.next D6.out).c 3 _ rfl
        have a4 := (XA.out.next D6.out).c 4 _ rfl
        have la := (XA.out.next D6.out).lt
        go_wp2_with fail
        go_roundw
        case rel => exact ⟨2, by first | rfl | go_num, by omega, D6⟩
        case measure => (first | (simp [intOf]; done) | (simp [intOf]; omega))
    · obtain rfl : i = 2 := by omega
      go_wp2_with fail
      refine (lives6_any w1).mono ?_
      rintro r w2 ⟨rfl, hb⟩
      have B9 := Lib.hid (BS.out.trans (D0.out.mono (by have := BS.out.size; rw [hq] at this; exact this)))
      have B10 := Lib.hid (B9.out.trans (hb.mono (by have := B9.out.size; rw [hq] at this; exact this)))
      clear hb
      go_wp2_with fail
      go_ret
      exact ⟨rfl, by rw [hq]; exact B10.out⟩
end Go.Proofs.Ytjhgbdeadkoegaa
