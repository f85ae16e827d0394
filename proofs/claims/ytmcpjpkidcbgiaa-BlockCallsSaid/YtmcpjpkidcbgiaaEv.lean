/- Walk: the document reads an entry. -/
import Derived.Test.YtmcpjpkidcbgiaaEt
import Derived.Test.YtmcpjpkidcbgiaaEo
import Derived.Test.YtmcpjpkidcbgiaaEp
import Derived.Test.YtmcpjpkidcbgiaaEh
namespace Go.Proofs.Ytmcpjpkidcbgiaa
open Go.RowKit Go.St Go.Maps
set_option linter.unusedVariables false
set_option linter.unusedSimpArgs false
set_option maxRecDepth 100000

def entS (o : Option (Ent × List UInt8)) : Ent := match o with
  | none => Ent.z
  | some q => q.1
def entP (n : Nat) (o : Option (Ent × List UInt8)) : Int := match o with
  | none => -1
  | some q => ((n - q.2.length : Nat) : Int)
theorem smU_nil (most : Int) : smU [] most = none := rfl
theorem rs_none (A : Option Addr) (n c B : Nat) (bs : List UInt8) (hl : bs.length = n) (hn : n ≤ 100000000) (most : Int) (hm : most ≤ 9223372036854775807) (w : World) (hr : Rd w B A (bv bs)) (hB : B ≤ w.heap.size) (h : smU bs most = none) :
    Calls Try.prog 48 #[.slice A n c, .int .i64 most] w fun e w' => e = .returned (.tuple #[.int .i64 0, .int .i64 0, .int .i64 5]) ∧ Below w.heap.size w w' := by
  have := rsmall_any A n c B bs hl hn most hm w hr hB
  rw [smV_none h] at this
  exact this
theorem rs_some (A : Option Addr) (n c B : Nat) (bs : List UInt8) (hl : bs.length = n) (hn : n ≤ 100000000) (most : Int) (hm : most ≤ 9223372036854775807) (w : World) (hr : Rd w B A (bv bs)) (hB : B ≤ w.heap.size) {x k : Nat} (h : smU bs most = some (x, k)) :
    Calls Try.prog 48 #[.slice A n c, .int .i64 most] w fun e w' => e = .returned (.tuple #[.int .i64 (x : Int), .int .i64 (k : Int), .int .i64 0]) ∧ Below w.heap.size w w' := by
  have := rsmall_any A n c B bs hl hn most hm w hr hB
  rw [smV_some h] at this
  exact this
theorem smU_len {bs : List UInt8} {most : Int} {x k : Nat} (h : smU bs most = some (x, k)) : 0 < k ∧ k ≤ bs.length ∧ k ≤ 10 ∧ (x : Int) ≤ most := by
  obtain ⟨h1, h2, h3⟩ := smU_sound h
  obtain ⟨g1, g2, g3, g4⟩ := rdU_sound h1
  have := rdU_len h1
  have := uv_pos x
  exact ⟨by omega, g2, g3, h3⟩
theorem smU1 (ch : UInt8) (r : List UInt8) : smU (ch :: r) 1 = if ch.toNat ≤ 1 then some (ch.toNat, 1) else none := by
  have h0 : rdU (ch :: r) = if ch.toNat < 128 then some (ch.toNat, 1) else (rdN 1 r).map (fun p => (ch.toNat % 128 + 128 * p.1, p.2 + 1)) := by
    unfold rdU
    rw [rdN, if_neg (by omega), if_neg (by omega)]
  unfold smU
  rw [h0]
  by_cases h1 : ch.toNat < 128
  · rw [if_pos h1, Option.bind_some]
    by_cases h2 : ch.toNat ≤ 1
    · rw [if_pos h2, if_pos (by dsimp only; omega)]
    · rw [if_neg h2, if_neg (by dsimp only; omega)]
  · rw [if_neg h1, if_neg (show ¬ ch.toNat ≤ 1 by omega)]
    cases hr : rdN 1 r with
    | none => rfl
    | some q =>
      have := (rdN_sound r 1 q.1 q.2 hr).2.2.1 (by omega)
      rw [Option.map_some, Option.bind_some, if_neg (by dsimp only; omega)]
theorem bxv_far1 {W : World} {b p : Nat} {xs : List Value} (h : BxV W b xs) (hp : p ≠ b) (o : Nat) (v : Value) : BxV (W.setCell ⟨p, o, none⟩ v) b xs := by
  have := h.other hp o [v]
  rwa [World.setCells, World.setCells] at this
theorem rd_at {w : World} {B : Nat} {A : Option Addr} {bs : List UInt8} {n c : Nat} (h : Rd w B A (bv bs)) (hl : bs.length = n) (hnc : n ≤ c) (k : Nat) : Rd w B (if c = k then A else A.map (·.add k)) (bv (bs.drop k)) := by
  have h1 := h.drop k (cap := c) (by rw [bv_length, hl]; exact hnc)
  have e : (bv bs).drop k = bv (bs.drop k) := by simp [bv]
  rwa [e] at h1
set_option maxHeartbeats 9600000 in
theorem rentry_any (A : Option Addr) (n c B : Nat) (bs : List UInt8) (hl : bs.length = n) (hnc : n ≤ c) (hc : c ≤ 9223372036854775807) (hn : n ≤ 1000000) (a0 : Nat) (ha0 : a0 ≤ n) (last : ByteArray) (hls : last.size ≤ 100000) (w : World) (hr : Rd w B A (bv bs)) (hB : B ≤ w.heap.size) :
    Calls Try.prog 49 #[.slice A n c, .int .i64 (a0 : Int), .string last] w fun e w' => e = .returned (.tuple #[(entS (pE last (bs.drop a0))).v, .int .i64 (entP n (pE last (bs.drop a0)))]) ∧ Below w.heap.size w w' := by
  have HL := Lib.hid hl
  have RR : ∀ k, Hid (∀ W, Below w.heap.size w W → Rd W w.heap.size (if c = k then A else A.map (·.add k)) (bv (bs.drop k))) := fun k => Lib.hid (fun W h => ((rd_at hr hl hnc k).more hB).below h)
  have RRa0 := RR a0
  have HRR := Lib.hid RR
  have HRD := Lib.hid (fun W (h : Below w.heap.size w W) => (hr.more hB).below h)
  clear hl hr RR
  obtain ⟨O, hO⟩ : ∃ O, O = pE last (bs.drop a0) := ⟨_, rfl⟩
  rw [← hO]
  have HO := Lib.hid hO
  clear hO
  obtain ⟨S, hS⟩ : ∃ S, S = entS O := ⟨_, rfl⟩
  obtain ⟨E, hE⟩ : ∃ E, E = entP n O := ⟨_, rfl⟩
  rw [← hS, ← hE]
  have HS := Lib.hid hS
  have HE := Lib.hid hE
  clear hS hE
  unfold Ent.v
  have i0 : (0 : Int) ≤ (a0 : Int) := by omega
  have i1 : (a0 : Int) ≤ (n : Int) := by omega
  have i2 : (a0 : Int) ≤ (c : Int) := by omega
  have i3 : (n : Int) ≤ (c : Int) := by omega
  go_enter Try.func49, Try.ntmps49
  go_upto_region 1 with (fail)
  have X1 : Hid (BxV (w.alloc (.cells #[.string { data := #[] }, .string { data := #[] }, .int .i64 0, .bool false] 43)) w.heap.size [.string { data := #[] }, .string { data := #[] }, .int .i64 0, .bool false]) := Lib.hid (BxV.new w _ _)
  have B1 : Hid (Below w.heap.size w (w.alloc (.cells #[.string { data := #[] }, .string { data := #[] }, .int .i64 0, .bool false] 43))) := Lib.hid ((Below.refl _ _).alloc (Nat.le_refl _) _)
  generalize w.alloc (.cells #[.string { data := #[] }, .string { data := #[] }, .int .i64 0, .bool false] 43) = w1 at *
  cases hs1 : smU (bs.drop a0) last.size with
  | none =>
    have H := Lib.hid hs1
    have HN : Hid (O = none) := Lib.hid (by rw [HO.out]; unfold pE; rw [H.out]; rfl)
    clear hs1 HO
    by_cases hca : c = a0
    · subst hca
      obtain rfl : n = c := by omega
      go_wp2_with fail
      refine (rs_none A 0 0 0 [] rfl (by omega) (last.size : Int) (by omega) w1 Rd.nil (Nat.zero_le _) (smU_nil _)).mono ?_
      have SE1 : Hid (S = Ent.z) := Lib.hid (by rw [HS.out, HN.out]; rfl)
      have SE2 : Hid (E = -1) := Lib.hid (by rw [HE.out, HN.out]; rfl)
      rintro e wx ⟨rfl, hb⟩
      have X9 := Lib.hid (X1.out.next hb)
      have B9 := Lib.hid (B1.out.trans (hb.mono B1.out.size))
      clear hb X1 B1 HS HE HN
      have y0 := X9.out.c 0 _ rfl
      have y1 := X9.out.c 1 _ rfl
      have y2 := X9.out.c 2 _ rfl
      have y3 := X9.out.c 3 _ rfl
      have yf := X9.out.fz
      go_wp2_with fail
      change bodyPost _ _ _ _ _ (World.setCells wx w.heap.size 0 [.string { data := #[] }, .string { data := #[] }, .int .i64 0, .bool false])
      have RB := (X9.out.set [.string { data := #[] }, .string { data := #[] }, .int .i64 0, .bool false] rfl)
      have BZ := bel_setCells (b := w.heap.size) (Nat.le_refl _) [.string { data := #[] }, .string { data := #[] }, .int .i64 0, .bool false] 0 _ B9.out
      have r0 := RB.c 0 _ rfl
      have r1 := RB.c 1 _ rfl
      have r2 := RB.c 2 _ rfl
      have r3 := RB.c 3 _ rfl
      generalize World.setCells wx w.heap.size 0 [.string { data := #[] }, .string { data := #[] }, .int .i64 0, .bool false] = wz at *
      refine bodyPost_ret (v := .tuple #[.agg #[.string { data := #[] }, .string { data := #[] }, .int .i64 0, .bool false], .int .i64 (-1)]) (by simp [results, Try.results49, go_sem, r0, r1, r2, r3]) rfl ⟨?_, BZ⟩
      rw [SE1.out, SE2.out]
      all_goals rfl
    · have RS := Lib.hid (RRa0.out w1 B1.out)
      rw [if_neg hca] at RS
      go_wp2_with fail
      refine (rs_none _ (n - a0) (c - a0) w.heap.size (bs.drop a0) (by rw [List.length_drop, HL.out]) (by omega) (last.size : Int) (by omega) w1 RS.out B1.out.size H.out).mono ?_
      have SE1 : Hid (S = Ent.z) := Lib.hid (by rw [HS.out, HN.out]; rfl)
      have SE2 : Hid (E = -1) := Lib.hid (by rw [HE.out, HN.out]; rfl)
      rintro e wx ⟨rfl, hb⟩
      have X9 := Lib.hid (X1.out.next hb)
      have B9 := Lib.hid (B1.out.trans (hb.mono B1.out.size))
      clear hb X1 B1 HS HE HN
      have y0 := X9.out.c 0 _ rfl
      have y1 := X9.out.c 1 _ rfl
      have y2 := X9.out.c 2 _ rfl
      have y3 := X9.out.c 3 _ rfl
      have yf := X9.out.fz
      go_wp2_with fail
      change bodyPost _ _ _ _ _ (World.setCells wx w.heap.size 0 [.string { data := #[] }, .string { data := #[] }, .int .i64 0, .bool false])
      have RB := (X9.out.set [.string { data := #[] }, .string { data := #[] }, .int .i64 0, .bool false] rfl)
      have BZ := bel_setCells (b := w.heap.size) (Nat.le_refl _) [.string { data := #[] }, .string { data := #[] }, .int .i64 0, .bool false] 0 _ B9.out
      have r0 := RB.c 0 _ rfl
      have r1 := RB.c 1 _ rfl
      have r2 := RB.c 2 _ rfl
      have r3 := RB.c 3 _ rfl
      generalize World.setCells wx w.heap.size 0 [.string { data := #[] }, .string { data := #[] }, .int .i64 0, .bool false] = wz at *
      refine bodyPost_ret (v := .tuple #[.agg #[.string { data := #[] }, .string { data := #[] }, .int .i64 0, .bool false], .int .i64 (-1)]) (by simp [results, Try.results49, go_sem, r0, r1, r2, r3]) rfl ⟨?_, BZ⟩
      rw [SE1.out, SE2.out]
      all_goals rfl
  | some q =>
    obtain ⟨k, k1⟩ := q
    have H1 := Lib.hid hs1
    obtain ⟨l1, l2, l3, l4⟩ := smU_len hs1
    clear hs1
    rw [List.length_drop, HL.out] at l2
    have hca : ¬ c = a0 := by omega
    have RS := Lib.hid (RRa0.out w1 B1.out)
    rw [if_neg hca] at RS
    go_wp2_with fail
    refine (rs_some _ (n - a0) (c - a0) w.heap.size (bs.drop a0) (by rw [List.length_drop, HL.out]) (by omega) (last.size : Int) (by omega) w1 RS.out B1.out.size H1.out).mono ?_
    rintro e w2 ⟨rfl, hb⟩
    have X2 := Lib.hid (X1.out.next hb)
    have B2 := Lib.hid (B1.out.trans (hb.mono B1.out.size))
    obtain ⟨a1, ha1⟩ : ∃ a1, a1 = a0 + k1 := ⟨_, rfl⟩
    have HA1 := Lib.hid ha1
    have ea1 : (a0 : Int) + (k1 : Int) = (a1 : Int) := by omega
    have j1 : (a1 : Int) ≤ (n : Int) := by omega
    have j0 : (0 : Int) ≤ (a1 : Int) := by omega
    have j2 : (a1 : Int) ≤ (c : Int) := by omega
    have HD1 : Hid ((bs.drop a0).drop k1 = bs.drop a1) := Lib.hid (by rw [List.drop_drop, HA1.out])
    have RRa1 := HRR.out a1
    have HO1 : Hid (O = (pT 512 (bs.drop a1)).bind fun q2 => (smU q2.2 1073741824).bind fun q3 => (smU (q2.2.drop q3.2) 1).bind fun q4 => if q4.1 = 1 then some (⟨last.extract 0 k ++ q2.1, zB, (q3.1 : Int), true⟩, (q2.2.drop q3.2).drop q4.2) else (pT 4096 ((q2.2.drop q3.2).drop q4.2)).bind fun q5 => some (⟨last.extract 0 k ++ q2.1, q5.1, (q3.1 : Int), false⟩, q5.2)) := Lib.hid (by rw [HO.out]; unfold pE; rw [H1.out, Option.bind_some]; dsimp only; rw [HD1.out])
    have hk0 : (0 : Int) ≤ (k : Int) := by omega
    clear hb X1 B1 ha1 RS H1 HO hca RRa0 l2 i0 i1 i2
    go_upto_region 5 with (fail)
    clear ea1
    cases hs2 : smU (bs.drop a1) 512 with
    | none =>
      have H := Lib.hid hs2
      have HN : Hid (O = none) := Lib.hid (by rw [HO1.out]; unfold pT; rw [H.out]; rfl)
      clear hs2 HO1
      by_cases hca : c = a1
      · subst hca
        obtain rfl : n = c := by omega
        go_wp2_with fail
        refine (rs_none A 0 0 0 [] rfl (by omega) 512 (by omega) w2 Rd.nil (Nat.zero_le _) (smU_nil _)).mono ?_
        have SE1 : Hid (S = Ent.z) := Lib.hid (by rw [HS.out, HN.out]; rfl)
        have SE2 : Hid (E = -1) := Lib.hid (by rw [HE.out, HN.out]; rfl)
        rintro e wx ⟨rfl, hb⟩
        have X9 := Lib.hid (X2.out.next hb)
        have B9 := Lib.hid (B2.out.trans (hb.mono B2.out.size))
        clear hb X2 B2 HS HE HN
        have y0 := X9.out.c 0 _ rfl
        have y1 := X9.out.c 1 _ rfl
        have y2 := X9.out.c 2 _ rfl
        have y3 := X9.out.c 3 _ rfl
        have yf := X9.out.fz
        go_wp2_with fail
        change bodyPost _ _ _ _ _ (World.setCells wx w.heap.size 0 [.string { data := #[] }, .string { data := #[] }, .int .i64 0, .bool false])
        have RB := (X9.out.set [.string { data := #[] }, .string { data := #[] }, .int .i64 0, .bool false] rfl)
        have BZ := bel_setCells (b := w.heap.size) (Nat.le_refl _) [.string { data := #[] }, .string { data := #[] }, .int .i64 0, .bool false] 0 _ B9.out
        have r0 := RB.c 0 _ rfl
        have r1 := RB.c 1 _ rfl
        have r2 := RB.c 2 _ rfl
        have r3 := RB.c 3 _ rfl
        generalize World.setCells wx w.heap.size 0 [.string { data := #[] }, .string { data := #[] }, .int .i64 0, .bool false] = wz at *
        refine bodyPost_ret (v := .tuple #[.agg #[.string { data := #[] }, .string { data := #[] }, .int .i64 0, .bool false], .int .i64 (-1)]) (by simp [results, Try.results49, go_sem, r0, r1, r2, r3]) rfl ⟨?_, BZ⟩
        rw [SE1.out, SE2.out]
        all_goals rfl
      · have RS := Lib.hid (RRa1.out w2 B2.out)
        rw [if_neg hca] at RS
        go_wp2_with fail
        refine (rs_none _ (n - a1) (c - a1) w.heap.size (bs.drop a1) (by rw [List.length_drop, HL.out]) (by omega) 512 (by omega) w2 RS.out B2.out.size H.out).mono ?_
        have SE1 : Hid (S = Ent.z) := Lib.hid (by rw [HS.out, HN.out]; rfl)
        have SE2 : Hid (E = -1) := Lib.hid (by rw [HE.out, HN.out]; rfl)
        rintro e wx ⟨rfl, hb⟩
        have X9 := Lib.hid (X2.out.next hb)
        have B9 := Lib.hid (B2.out.trans (hb.mono B2.out.size))
        clear hb X2 B2 HS HE HN
        have y0 := X9.out.c 0 _ rfl
        have y1 := X9.out.c 1 _ rfl
        have y2 := X9.out.c 2 _ rfl
        have y3 := X9.out.c 3 _ rfl
        have yf := X9.out.fz
        go_wp2_with fail
        change bodyPost _ _ _ _ _ (World.setCells wx w.heap.size 0 [.string { data := #[] }, .string { data := #[] }, .int .i64 0, .bool false])
        have RB := (X9.out.set [.string { data := #[] }, .string { data := #[] }, .int .i64 0, .bool false] rfl)
        have BZ := bel_setCells (b := w.heap.size) (Nat.le_refl _) [.string { data := #[] }, .string { data := #[] }, .int .i64 0, .bool false] 0 _ B9.out
        have r0 := RB.c 0 _ rfl
        have r1 := RB.c 1 _ rfl
        have r2 := RB.c 2 _ rfl
        have r3 := RB.c 3 _ rfl
        generalize World.setCells wx w.heap.size 0 [.string { data := #[] }, .string { data := #[] }, .int .i64 0, .bool false] = wz at *
        refine bodyPost_ret (v := .tuple #[.agg #[.string { data := #[] }, .string { data := #[] }, .int .i64 0, .bool false], .int .i64 (-1)]) (by simp [results, Try.results49, go_sem, r0, r1, r2, r3]) rfl ⟨?_, BZ⟩
        rw [SE1.out, SE2.out]
        all_goals rfl
    | some q =>
      obtain ⟨q2, k2⟩ := q
      have H2 := Lib.hid hs2
      obtain ⟨l1, l2, l5, l6⟩ := smU_len hs2
      clear hs2
      rw [List.length_drop, HL.out] at l2
      have hca : ¬ c = a1 := by omega
      have RS := Lib.hid (RRa1.out w2 B2.out)
      rw [if_neg hca] at RS
      go_wp2_with fail
      refine (rs_some _ (n - a1) (c - a1) w.heap.size (bs.drop a1) (by rw [List.length_drop, HL.out]) (by omega) 512 (by omega) w2 RS.out B2.out.size H2.out).mono ?_
      rintro e w3 ⟨rfl, hb⟩
      have X3 := Lib.hid (X2.out.next hb)
      have B3 := Lib.hid (B2.out.trans (hb.mono B2.out.size))
      clear hb X2 B2 RS hca RRa1
      obtain ⟨a2, ha2⟩ : ∃ a2, a2 = a1 + k2 := ⟨_, rfl⟩
      have HA2 := Lib.hid ha2
      have HD2 : Hid ((bs.drop a1).drop k2 = bs.drop a2) := Lib.hid (by rw [List.drop_drop, HA2.out])
      by_cases hq : n - a2 < q2
      · have HN : Hid (O = none) := Lib.hid (by
          rw [HO1.out]
          unfold pT
          rw [H2.out, Option.bind_some, if_pos (by dsimp only; rw [HD2.out, List.length_drop, HL.out]; exact hq)]
          rfl)
        have hq1 : (n : Int) - (a1 : Int) - (k2 : Int) < (q2 : Int) := by omega
        clear hq HO1 H2 ha2
        have SE1 : Hid (S = Ent.z) := Lib.hid (by rw [HS.out, HN.out]; rfl)
        have SE2 : Hid (E = -1) := Lib.hid (by rw [HE.out, HN.out]; rfl)
        have X9 := Lib.hid X3.out
        have B9 := Lib.hid B3.out
        clear X3 B3 HS HE HN
        have y0 := X9.out.c 0 _ rfl
        have y1 := X9.out.c 1 _ rfl
        have y2 := X9.out.c 2 _ rfl
        have y3 := X9.out.c 3 _ rfl
        have yf := X9.out.fz
        go_wp2_with fail
        change bodyPost _ _ _ _ _ (World.setCells w3 w.heap.size 0 [.string { data := #[] }, .string { data := #[] }, .int .i64 0, .bool false])
        have RB := (X9.out.set [.string { data := #[] }, .string { data := #[] }, .int .i64 0, .bool false] rfl)
        have BZ := bel_setCells (b := w.heap.size) (Nat.le_refl _) [.string { data := #[] }, .string { data := #[] }, .int .i64 0, .bool false] 0 _ B9.out
        have r0 := RB.c 0 _ rfl
        have r1 := RB.c 1 _ rfl
        have r2 := RB.c 2 _ rfl
        have r3 := RB.c 3 _ rfl
        generalize World.setCells w3 w.heap.size 0 [.string { data := #[] }, .string { data := #[] }, .int .i64 0, .bool false] = wz at *
        refine bodyPost_ret (v := .tuple #[.agg #[.string { data := #[] }, .string { data := #[] }, .int .i64 0, .bool false], .int .i64 (-1)]) (by simp [results, Try.results49, go_sem, r0, r1, r2, r3]) rfl ⟨?_, BZ⟩
        rw [SE1.out, SE2.out]
        all_goals rfl
      · have hq1 : ¬ (n : Int) - (a1 : Int) - (k2 : Int) < (q2 : Int) := by omega
        have ea2 : (a1 : Int) + (k2 : Int) = (a2 : Int) := by omega
        obtain ⟨a3, ha3⟩ : ∃ a3, a3 = a2 + q2 := ⟨_, rfl⟩
        have HA3 := Lib.hid ha3
        obtain ⟨s2, hs2⟩ : ∃ s : ByteArray, s = ⟨((bs.drop a2).take q2).toArray⟩ := ⟨_, rfl⟩
        have HO2 : Hid (O = (smU (bs.drop a3) 1073741824).bind fun q3 => (smU ((bs.drop a3).drop q3.2) 1).bind fun q4 => if q4.1 = 1 then some (⟨last.extract 0 k ++ s2, zB, (q3.1 : Int), true⟩, ((bs.drop a3).drop q3.2).drop q4.2) else (pT 4096 (((bs.drop a3).drop q3.2).drop q4.2)).bind fun q5 => some (⟨last.extract 0 k ++ s2, q5.1, (q3.1 : Int), false⟩, q5.2)) := Lib.hid (by
          rw [HO1.out]
          unfold pT
          rw [H2.out, Option.bind_some, if_neg (by dsimp only; rw [HD2.out, List.length_drop, HL.out]; exact hq), Option.bind_some]
          dsimp only
          rw [HD2.out, List.drop_drop, ← HA3.out, ← hs2])
        have hz2 : s2.size = q2 := by
          rw [hs2]
          show (((bs.drop a2).take q2).toArray).size = q2
          rw [List.size_toArray, List.length_take, List.length_drop, HL.out]
          omega
        have HS2 := Lib.hid hs2
        have m1 : (a2 : Int) ≤ (a3 : Int) := by omega
        have m2 : (a3 : Int) ≤ (n : Int) := by omega
        have m3 : (0 : Int) ≤ (a2 : Int) := by omega
        have m4 : (a3 : Int) ≤ (c : Int) := by omega
        have m5 : (0 : Int) ≤ (a3 : Int) := by omega
        have m6 : a2 ≤ a3 := by omega
        have m7 : a3 ≤ n := by omega
        have RRa2 := HRR.out a2
        have hk2 : (k : Int) ≤ (last.size : Int) := by omega
        have ea3 : (a2 : Int) + (q2 : Int) = (a3 : Int) := by omega
        have hcat : ¬ (9223372036854775807 < min k last.size + q2) := by omega
        clear hs2 HO1 H2 HD2 ha2 ha3 j0 j1 j2 l2
        go_upto_region 9 with (fail)
        clear ea2 hq1
        by_cases hca : c = a2
        · subst hca
          have KC : ∀ W, Below w3.heap.size w3 W → (convert 23 9 (.slice A (a3 - c) 0)).run Try.prog W = .ok (.string s2) W := fun W hW => by
            have RS := (RRa2.out W (B3.out.trans (hW.mono B3.out.size)))
            rw [if_pos rfl] at RS
            have h := RS.take q2
            have e : (bv (bs.drop c)).take q2 = bv ((bs.drop c).take q2) := by simp [bv, List.map_take]
            rw [e] at h
            rw [HS2.out]
            exact conv_str (P := Try.prog) 23 9 5 (a3 - c) 0 Try.underlying23 Try.underlying5 Try.underlying9 h (by rw [List.length_take, List.length_drop, HL.out]; omega)
          have KH := Lib.hid KC
          have wr3 : IntKind.i64.wrap (a3 : Int) = (a3 : Int) := IntWalk.i64_in _ (by omega)
          clear KC
          refine wp_heldall (S := fun W => Below w3.heap.size w3 W) 14 (by kernel_rfl) rfl (Below.drew (Below.refl _ _)) (fun hHeld => ?_)
          refine takeL (i := 0) (v := ?_) rfl (by kernel_rfl) (by kernel_rfl) (by kernel_rfl) (fun _ _ _ h => h) ⟨by rfl, ?_⟩ (by first | assumption | trivial) ?_
          rotate_left
          · intro W9 hSw
            (try dsimp only at hSw)
            go_simp
            try with_reducible rfl
          (try simp only [Act.put, List.setIfInBounds_toArray, List.set_cons_zero, List.set_cons_succ])
          refine takeL (i := 1) (v := ?_) rfl (by kernel_rfl) (by kernel_rfl) (by kernel_rfl) (fun _ _ _ h => h) ⟨by rfl, ?_⟩ (by first | assumption | trivial) ?_
          rotate_left
          · intro W9 hSw
            (try dsimp only at hSw)
            go_simp
            try with_reducible rfl
          (try simp only [Act.put, List.setIfInBounds_toArray, List.set_cons_zero, List.set_cons_succ])
          refine takeL (i := 2) (v := ?_) rfl (by kernel_rfl) (by kernel_rfl) (by kernel_rfl) (fun _ _ _ h => h) ⟨by rfl, ?_⟩ (by first | assumption | trivial) ?_
          rotate_left
          · intro W9 hSw
            (try dsimp only at hSw)
            go_simp
            try with_reducible rfl
          (try simp only [Act.put, List.setIfInBounds_toArray, List.set_cons_zero, List.set_cons_succ])
          refine takeL (i := 3) (v := ?_) rfl (by kernel_rfl) (by kernel_rfl) (by kernel_rfl) (fun _ _ _ h => h) ⟨by rfl, ?_⟩ (by first | assumption | trivial) ?_
          rotate_left
          · intro W9 hSw
            (try dsimp only at hSw)
            go_simp
            try with_reducible rfl
          (try simp only [Act.put, List.setIfInBounds_toArray, List.set_cons_zero, List.set_cons_succ])
          refine takeL (i := 4) (v := ?_) rfl (by kernel_rfl) (by kernel_rfl) (by kernel_rfl) (fun _ _ _ h => h) ⟨by rfl, ?_⟩ (by first | assumption | trivial) ?_
          rotate_left
          · intro W9 hSw
            (try dsimp only at hSw)
            go_simp
            try with_reducible rfl
          (try simp only [Act.put, List.setIfInBounds_toArray, List.set_cons_zero, List.set_cons_succ])
          refine takeL (i := 5) (v := ?_) rfl (by kernel_rfl) (by kernel_rfl) (by kernel_rfl) (fun _ _ _ h => h) ⟨by rfl, ?_⟩ (by first | assumption | trivial) ?_
          rotate_left
          · intro W9 hSw
            (try dsimp only at hSw)
            go_simp
            try with_reducible rfl
          (try simp only [Act.put, List.setIfInBounds_toArray, List.set_cons_zero, List.set_cons_succ])
          refine takeL (i := 6) (v := ?_) rfl (by kernel_rfl) (by kernel_rfl) (by kernel_rfl) (fun _ _ _ h => h) ⟨by rfl, ?_⟩ (by first | assumption | trivial) ?_
          rotate_left
          · intro W9 hSw
            (try dsimp only at hSw)
            go_simp
            try with_reducible rfl
          (try simp only [Act.put, List.setIfInBounds_toArray, List.set_cons_zero, List.set_cons_succ])
          refine takeL (i := 7) (v := ?_) rfl (by kernel_rfl) (by kernel_rfl) (by kernel_rfl) (fun _ _ _ h => h) ⟨by rfl, ?_⟩ (by first | assumption | trivial) ?_
          rotate_left
          · intro W9 hSw
            (try dsimp only at hSw)
            go_simp
            try with_reducible rfl
          (try simp only [Act.put, List.setIfInBounds_toArray, List.set_cons_zero, List.set_cons_succ])
          refine takeL (i := 8) (v := ?_) rfl (by kernel_rfl) (by kernel_rfl) (by kernel_rfl) (fun _ _ _ h => h) ⟨by rfl, ?_⟩ (by first | assumption | trivial) ?_
          rotate_left
          · intro W9 hSw
            (try dsimp only at hSw)
            go_simp
            try with_reducible rfl
          (try simp only [Act.put, List.setIfInBounds_toArray, List.set_cons_zero, List.set_cons_succ])
          refine takeL (i := 9) (v := ?_) rfl (by kernel_rfl) (by kernel_rfl) (by kernel_rfl) (fun _ _ _ h => h) ⟨by rfl, ?_⟩ (by first | assumption | trivial) ?_
          rotate_left
          · intro W9 hSw
            (try dsimp only at hSw)
            (have kc := KH.out W9 hSw)
            go_simp
            try with_reducible rfl
          (try simp only [Act.put, List.setIfInBounds_toArray, List.set_cons_zero, List.set_cons_succ])
          refine takeL (i := 10) (v := ?_) rfl (by kernel_rfl) (by kernel_rfl) (by kernel_rfl) (fun _ _ _ h => h) ⟨by rfl, ?_⟩ (by first | assumption | trivial) ?_
          rotate_left
          · intro W9 hSw
            (try dsimp only at hSw)
            go_simp
            try with_reducible rfl
          (try simp only [Act.put, List.setIfInBounds_toArray, List.set_cons_zero, List.set_cons_succ])
          refine takeL (i := 11) (v := ?_) rfl (by kernel_rfl) (by kernel_rfl) (by kernel_rfl) (fun _ _ _ h => h) ⟨by rfl, ?_⟩ (by first | assumption | trivial) ?_
          rotate_left
          · intro W9 hSw
            (try dsimp only at hSw)
            go_simp
            try with_reducible rfl
          (try simp only [Act.put, List.setIfInBounds_toArray, List.set_cons_zero, List.set_cons_succ])
          clear RRa2
          have SB := Lib.hid hHeld
          clear hHeld wr3 hcat
          obtain ⟨K1, hK1⟩ : ∃ s : ByteArray, s = last.extract 0 k ++ s2 := ⟨_, rfl⟩
          have HK1 := Lib.hid hK1
          rw [← hK1]
          clear hK1
          generalize w3.drew = X at *
          refine wpAnyH_ready (rs := [12]) (by kernel_rfl) (by simp) ?_
          refine consL rfl (by rfl) (fun K hK => ?_) ?_
          · go_simp
            have BN := BxV.new X #[.string { data := #[] }, .string { data := #[] }, .int .i64 0, .bool false] 43
            refine hK.out _ _ (SB.out.alloc SB.out.size _) (fun _ => ?_)
            clear hK K
            (try simp only [Act.put, List.setIfInBounds_toArray, List.set_cons_zero, List.set_cons_succ])
            have q0 := BN.c 0 _ rfl
            have q1 := BN.c 1 _ rfl
            have q2' := BN.c 2 _ rfl
            have q3 := BN.c 3 _ rfl
            have qf := BN.fz
            have ql := BN.lt
            refine wpAnyH_ready (rs := [13]) (by kernel_rfl) (by simp) ?_
            refine consL rfl (by rfl) (fun K hK => ?_) ?_
            · go_simp
              have BK4 := Lib.hid (BxV.new X #[.string K1, .string { data := #[] }, .int .i64 0, .bool false] 43)
              have hbn : Below w3.heap.size w3 (X.alloc (.cells #[.string K1, .string { data := #[] }, .int .i64 0, .bool false] 43)) := SB.out.alloc SB.out.size _
              have X4 := Lib.hid (X3.out.next hbn)
              have B4 := Lib.hid (B3.out.trans (hbn.mono B3.out.size))
              have hbx : w.heap.size < X.heap.size := Nat.lt_of_lt_of_le X3.out.lt SB.out.size
              refine hK.out _ _ hbn (fun _ => ?_)
              clear hK K hbn BN q0 q1 q2' q3 qf ql X3 B3 SB
              (try simp only [Act.put, List.setIfInBounds_toArray, List.set_cons_zero, List.set_cons_succ])
              generalize X.alloc (.cells #[.string K1, .string { data := #[] }, .int .i64 0, .bool false] 43) = w4 at *
              generalize X.heap.size = bx at *
              refine wpAnyH_done (by kernel_rfl) ?_ _
              go_upto_region 11 with (fail)
              have hca : c = a3 := by omega
              have HN : Hid (O = none) := Lib.hid (by
                rw [HO2.out, List.drop_eq_nil_of_le (show bs.length ≤ a3 by rw [HL.out]; omega), smU_nil]
                rfl)
              clear HO2
              subst hca
              obtain rfl : n = c := by omega
              go_wp2_with fail
              refine (rs_none A 0 0 0 [] rfl (by omega) 1073741824 (by omega) w4 Rd.nil (Nat.zero_le _) (smU_nil _)).mono ?_
              rintro e w5 ⟨rfl, hb⟩
              have X5 := Lib.hid (X4.out.next hb)
              have B5 := Lib.hid (B4.out.trans (hb.mono B4.out.size))
              have BK5 := Lib.hid (BK4.out.next hb)
              clear hb X4 B4 BK4
              have g0 := BK5.out.c 0 _ rfl
              have g1 := BK5.out.c 1 _ rfl
              have g2 := BK5.out.c 2 _ rfl
              have g3 := BK5.out.c 3 _ rfl
              have gf := BK5.out.fz
              have gl := BK5.out.lt
              go_upto_region 12 with (fail)
              have X6 := Lib.hid (bxv_far1 X5.out (p := bx) (by omega) 2 (.int .i64 0))
              have B6 := Lib.hid (B5.out.setCell (p := ⟨bx, 2, none⟩) (by show w.heap.size ≤ bx; omega) (.int .i64 0))
              have BK6 := Lib.hid (BxV.put BK5.out 2 (by simp) (.int .i64 0))
              clear X5 B5 BK5 g0 g1 g2 g3 gf gl
              generalize w5.setCell ⟨bx, 2, none⟩ (.int .i64 0) = w6 at *
              have SE1 : Hid (S = Ent.z) := Lib.hid (by rw [HS.out, HN.out]; rfl)
              have SE2 : Hid (E = -1) := Lib.hid (by rw [HE.out, HN.out]; rfl)
              have X9 := Lib.hid X6.out
              have B9 := Lib.hid B6.out
              clear X6 B6 HS HE HN
              have y0 := X9.out.c 0 _ rfl
              have y1 := X9.out.c 1 _ rfl
              have y2 := X9.out.c 2 _ rfl
              have y3 := X9.out.c 3 _ rfl
              have yf := X9.out.fz
              go_wp2_with fail
              change bodyPost _ _ _ _ _ (World.setCells w6 w.heap.size 0 [.string { data := #[] }, .string { data := #[] }, .int .i64 0, .bool false])
              have RB := (X9.out.set [.string { data := #[] }, .string { data := #[] }, .int .i64 0, .bool false] rfl)
              have BZ := bel_setCells (b := w.heap.size) (Nat.le_refl _) [.string { data := #[] }, .string { data := #[] }, .int .i64 0, .bool false] 0 _ B9.out
              have r0 := RB.c 0 _ rfl
              have r1 := RB.c 1 _ rfl
              have r2 := RB.c 2 _ rfl
              have r3 := RB.c 3 _ rfl
              generalize World.setCells w6 w.heap.size 0 [.string { data := #[] }, .string { data := #[] }, .int .i64 0, .bool false] = wz at *
              refine bodyPost_ret (v := .tuple #[.agg #[.string { data := #[] }, .string { data := #[] }, .int .i64 0, .bool false], .int .i64 (-1)]) (by simp [results, Try.results49, go_sem, r0, r1, r2, r3]) rfl ⟨?_, BZ⟩
              rw [SE1.out, SE2.out]
              all_goals rfl
            · exact AllReadyH.nil
          · exact AllReadyH.nil
        · have KC : ∀ W, Below w3.heap.size w3 W → (convert 23 9 (.slice (A.map (fun x => x.add a2)) (a3 - a2) (c - a2))).run Try.prog W = .ok (.string s2) W := fun W hW => by
            have RS := (RRa2.out W (B3.out.trans (hW.mono B3.out.size)))
            rw [if_neg hca] at RS
            have h := RS.take q2
            have e : (bv (bs.drop a2)).take q2 = bv ((bs.drop a2).take q2) := by simp [bv, List.map_take]
            rw [e] at h
            rw [HS2.out]
            exact conv_str (P := Try.prog) 23 9 5 (a3 - a2) (c - a2) Try.underlying23 Try.underlying5 Try.underlying9 h (by rw [List.length_take, List.length_drop, HL.out]; omega)
          have KH := Lib.hid KC
          have wr3 : IntKind.i64.wrap (a3 : Int) = (a3 : Int) := IntWalk.i64_in _ (by omega)
          clear KC
          refine wp_heldall (S := fun W => Below w3.heap.size w3 W) 14 (by kernel_rfl) rfl (Below.drew (Below.refl _ _)) (fun hHeld => ?_)
          refine takeL (i := 0) (v := ?_) rfl (by kernel_rfl) (by kernel_rfl) (by kernel_rfl) (fun _ _ _ h => h) ⟨by rfl, ?_⟩ (by first | assumption | trivial) ?_
          rotate_left
          · intro W9 hSw
            (try dsimp only at hSw)
            go_simp
            try with_reducible rfl
          (try simp only [Act.put, List.setIfInBounds_toArray, List.set_cons_zero, List.set_cons_succ])
          refine takeL (i := 1) (v := ?_) rfl (by kernel_rfl) (by kernel_rfl) (by kernel_rfl) (fun _ _ _ h => h) ⟨by rfl, ?_⟩ (by first | assumption | trivial) ?_
          rotate_left
          · intro W9 hSw
            (try dsimp only at hSw)
            go_simp
            try with_reducible rfl
          (try simp only [Act.put, List.setIfInBounds_toArray, List.set_cons_zero, List.set_cons_succ])
          refine takeL (i := 2) (v := ?_) rfl (by kernel_rfl) (by kernel_rfl) (by kernel_rfl) (fun _ _ _ h => h) ⟨by rfl, ?_⟩ (by first | assumption | trivial) ?_
          rotate_left
          · intro W9 hSw
            (try dsimp only at hSw)
            go_simp
            try with_reducible rfl
          (try simp only [Act.put, List.setIfInBounds_toArray, List.set_cons_zero, List.set_cons_succ])
          refine takeL (i := 3) (v := ?_) rfl (by kernel_rfl) (by kernel_rfl) (by kernel_rfl) (fun _ _ _ h => h) ⟨by rfl, ?_⟩ (by first | assumption | trivial) ?_
          rotate_left
          · intro W9 hSw
            (try dsimp only at hSw)
            go_simp
            try with_reducible rfl
          (try simp only [Act.put, List.setIfInBounds_toArray, List.set_cons_zero, List.set_cons_succ])
          refine takeL (i := 4) (v := ?_) rfl (by kernel_rfl) (by kernel_rfl) (by kernel_rfl) (fun _ _ _ h => h) ⟨by rfl, ?_⟩ (by first | assumption | trivial) ?_
          rotate_left
          · intro W9 hSw
            (try dsimp only at hSw)
            go_simp
            try with_reducible rfl
          (try simp only [Act.put, List.setIfInBounds_toArray, List.set_cons_zero, List.set_cons_succ])
          refine takeL (i := 5) (v := ?_) rfl (by kernel_rfl) (by kernel_rfl) (by kernel_rfl) (fun _ _ _ h => h) ⟨by rfl, ?_⟩ (by first | assumption | trivial) ?_
          rotate_left
          · intro W9 hSw
            (try dsimp only at hSw)
            go_simp
            try with_reducible rfl
          (try simp only [Act.put, List.setIfInBounds_toArray, List.set_cons_zero, List.set_cons_succ])
          refine takeL (i := 6) (v := ?_) rfl (by kernel_rfl) (by kernel_rfl) (by kernel_rfl) (fun _ _ _ h => h) ⟨by rfl, ?_⟩ (by first | assumption | trivial) ?_
          rotate_left
          · intro W9 hSw
            (try dsimp only at hSw)
            go_simp
            try with_reducible rfl
          (try simp only [Act.put, List.setIfInBounds_toArray, List.set_cons_zero, List.set_cons_succ])
          refine takeL (i := 7) (v := ?_) rfl (by kernel_rfl) (by kernel_rfl) (by kernel_rfl) (fun _ _ _ h => h) ⟨by rfl, ?_⟩ (by first | assumption | trivial) ?_
          rotate_left
          · intro W9 hSw
            (try dsimp only at hSw)
            go_simp
            try with_reducible rfl
          (try simp only [Act.put, List.setIfInBounds_toArray, List.set_cons_zero, List.set_cons_succ])
          refine takeL (i := 8) (v := ?_) rfl (by kernel_rfl) (by kernel_rfl) (by kernel_rfl) (fun _ _ _ h => h) ⟨by rfl, ?_⟩ (by first | assumption | trivial) ?_
          rotate_left
          · intro W9 hSw
            (try dsimp only at hSw)
            go_simp
            try with_reducible rfl
          (try simp only [Act.put, List.setIfInBounds_toArray, List.set_cons_zero, List.set_cons_succ])
          refine takeL (i := 9) (v := ?_) rfl (by kernel_rfl) (by kernel_rfl) (by kernel_rfl) (fun _ _ _ h => h) ⟨by rfl, ?_⟩ (by first | assumption | trivial) ?_
          rotate_left
          · intro W9 hSw
            (try dsimp only at hSw)
            (have kc := KH.out W9 hSw)
            go_simp
            try with_reducible rfl
          (try simp only [Act.put, List.setIfInBounds_toArray, List.set_cons_zero, List.set_cons_succ])
          refine takeL (i := 10) (v := ?_) rfl (by kernel_rfl) (by kernel_rfl) (by kernel_rfl) (fun _ _ _ h => h) ⟨by rfl, ?_⟩ (by first | assumption | trivial) ?_
          rotate_left
          · intro W9 hSw
            (try dsimp only at hSw)
            go_simp
            try with_reducible rfl
          (try simp only [Act.put, List.setIfInBounds_toArray, List.set_cons_zero, List.set_cons_succ])
          refine takeL (i := 11) (v := ?_) rfl (by kernel_rfl) (by kernel_rfl) (by kernel_rfl) (fun _ _ _ h => h) ⟨by rfl, ?_⟩ (by first | assumption | trivial) ?_
          rotate_left
          · intro W9 hSw
            (try dsimp only at hSw)
            go_simp
            try with_reducible rfl
          (try simp only [Act.put, List.setIfInBounds_toArray, List.set_cons_zero, List.set_cons_succ])
          have SB := Lib.hid hHeld
          clear hHeld wr3 hcat
          obtain ⟨K1, hK1⟩ : ∃ s : ByteArray, s = last.extract 0 k ++ s2 := ⟨_, rfl⟩
          have HK1 := Lib.hid hK1
          rw [← hK1]
          clear hK1
          generalize w3.drew = X at *
          refine wpAnyH_ready (rs := [12]) (by kernel_rfl) (by simp) ?_
          refine consL rfl (by rfl) (fun K hK => ?_) ?_
          · go_simp
            have BN := BxV.new X #[.string { data := #[] }, .string { data := #[] }, .int .i64 0, .bool false] 43
            refine hK.out _ _ (SB.out.alloc SB.out.size _) (fun _ => ?_)
            clear hK K
            (try simp only [Act.put, List.setIfInBounds_toArray, List.set_cons_zero, List.set_cons_succ])
            have q0 := BN.c 0 _ rfl
            have q1 := BN.c 1 _ rfl
            have q2' := BN.c 2 _ rfl
            have q3 := BN.c 3 _ rfl
            have qf := BN.fz
            have ql := BN.lt
            refine wpAnyH_ready (rs := [13]) (by kernel_rfl) (by simp) ?_
            refine consL rfl (by rfl) (fun K hK => ?_) ?_
            · go_simp
              have BK4 := Lib.hid (BxV.new X #[.string K1, .string { data := #[] }, .int .i64 0, .bool false] 43)
              have hbn : Below w3.heap.size w3 (X.alloc (.cells #[.string K1, .string { data := #[] }, .int .i64 0, .bool false] 43)) := SB.out.alloc SB.out.size _
              have X4 := Lib.hid (X3.out.next hbn)
              have B4 := Lib.hid (B3.out.trans (hbn.mono B3.out.size))
              have hbx : w.heap.size < X.heap.size := Nat.lt_of_lt_of_le X3.out.lt SB.out.size
              refine hK.out _ _ hbn (fun _ => ?_)
              clear hK K hbn BN q0 q1 q2' q3 qf ql X3 B3 SB
              (try simp only [Act.put, List.setIfInBounds_toArray, List.set_cons_zero, List.set_cons_succ])
              generalize X.alloc (.cells #[.string K1, .string { data := #[] }, .int .i64 0, .bool false] 43) = w4 at *
              generalize X.heap.size = bx at *
              refine wpAnyH_done (by kernel_rfl) ?_ _
              go_upto_region 11 with (fail)
              have RRa3 := HRR.out a3
              cases hs3 : smU (bs.drop a3) 1073741824 with
              | none =>
                have H := Lib.hid hs3
                have HN : Hid (O = none) := Lib.hid (by rw [HO2.out, H.out]; rfl)
                clear hs3 HO2
                by_cases hca : c = a3
                · subst hca
                  obtain rfl : n = c := by omega
                  go_wp2_with fail
                  refine (rs_none A 0 0 0 [] rfl (by omega) 1073741824 (by omega) w4 Rd.nil (Nat.zero_le _) (smU_nil _)).mono ?_
                  rintro e w5 ⟨rfl, hb⟩
                  have X5 := Lib.hid (X4.out.next hb)
                  have B5 := Lib.hid (B4.out.trans (hb.mono B4.out.size))
                  have BK5 := Lib.hid (BK4.out.next hb)
                  clear hb X4 B4 BK4
                  have g0 := BK5.out.c 0 _ rfl
                  have g1 := BK5.out.c 1 _ rfl
                  have g2 := BK5.out.c 2 _ rfl
                  have g3 := BK5.out.c 3 _ rfl
                  have gf := BK5.out.fz
                  have gl := BK5.out.lt
                  go_upto_region 12 with (fail)
                  have X6 := Lib.hid (bxv_far1 X5.out (p := bx) (by omega) 2 (.int .i64 0))
                  have B6 := Lib.hid (B5.out.setCell (p := ⟨bx, 2, none⟩) (by show w.heap.size ≤ bx; omega) (.int .i64 0))
                  have BK6 := Lib.hid (BxV.put BK5.out 2 (by simp) (.int .i64 0))
                  clear X5 B5 BK5 g0 g1 g2 g3 gf gl
                  generalize w5.setCell ⟨bx, 2, none⟩ (.int .i64 0) = w6 at *
                  have SE1 : Hid (S = Ent.z) := Lib.hid (by rw [HS.out, HN.out]; rfl)
                  have SE2 : Hid (E = -1) := Lib.hid (by rw [HE.out, HN.out]; rfl)
                  have X9 := Lib.hid X6.out
                  have B9 := Lib.hid B6.out
                  clear X6 B6 HS HE HN
                  have y0 := X9.out.c 0 _ rfl
                  have y1 := X9.out.c 1 _ rfl
                  have y2 := X9.out.c 2 _ rfl
                  have y3 := X9.out.c 3 _ rfl
                  have yf := X9.out.fz
                  go_wp2_with fail
                  change bodyPost _ _ _ _ _ (World.setCells w6 w.heap.size 0 [.string { data := #[] }, .string { data := #[] }, .int .i64 0, .bool false])
                  have RB := (X9.out.set [.string { data := #[] }, .string { data := #[] }, .int .i64 0, .bool false] rfl)
                  have BZ := bel_setCells (b := w.heap.size) (Nat.le_refl _) [.string { data := #[] }, .string { data := #[] }, .int .i64 0, .bool false] 0 _ B9.out
                  have r0 := RB.c 0 _ rfl
                  have r1 := RB.c 1 _ rfl
                  have r2 := RB.c 2 _ rfl
                  have r3 := RB.c 3 _ rfl
                  generalize World.setCells w6 w.heap.size 0 [.string { data := #[] }, .string { data := #[] }, .int .i64 0, .bool false] = wz at *
                  refine bodyPost_ret (v := .tuple #[.agg #[.string { data := #[] }, .string { data := #[] }, .int .i64 0, .bool false], .int .i64 (-1)]) (by simp [results, Try.results49, go_sem, r0, r1, r2, r3]) rfl ⟨?_, BZ⟩
                  rw [SE1.out, SE2.out]
                  all_goals rfl
                · have RS := Lib.hid (RRa3.out w4 B4.out)
                  rw [if_neg hca] at RS
                  go_wp2_with fail
                  refine (rs_none _ (n - a3) (c - a3) w.heap.size (bs.drop a3) (by rw [List.length_drop, HL.out]) (by omega) 1073741824 (by omega) w4 RS.out B4.out.size H.out).mono ?_
                  rintro e w5 ⟨rfl, hb⟩
                  have X5 := Lib.hid (X4.out.next hb)
                  have B5 := Lib.hid (B4.out.trans (hb.mono B4.out.size))
                  have BK5 := Lib.hid (BK4.out.next hb)
                  clear hb X4 B4 BK4
                  have g0 := BK5.out.c 0 _ rfl
                  have g1 := BK5.out.c 1 _ rfl
                  have g2 := BK5.out.c 2 _ rfl
                  have g3 := BK5.out.c 3 _ rfl
                  have gf := BK5.out.fz
                  have gl := BK5.out.lt
                  go_upto_region 12 with (fail)
                  have X6 := Lib.hid (bxv_far1 X5.out (p := bx) (by omega) 2 (.int .i64 0))
                  have B6 := Lib.hid (B5.out.setCell (p := ⟨bx, 2, none⟩) (by show w.heap.size ≤ bx; omega) (.int .i64 0))
                  have BK6 := Lib.hid (BxV.put BK5.out 2 (by simp) (.int .i64 0))
                  clear X5 B5 BK5 g0 g1 g2 g3 gf gl
                  generalize w5.setCell ⟨bx, 2, none⟩ (.int .i64 0) = w6 at *
                  have SE1 : Hid (S = Ent.z) := Lib.hid (by rw [HS.out, HN.out]; rfl)
                  have SE2 : Hid (E = -1) := Lib.hid (by rw [HE.out, HN.out]; rfl)
                  have X9 := Lib.hid X6.out
                  have B9 := Lib.hid B6.out
                  clear X6 B6 HS HE HN
                  have y0 := X9.out.c 0 _ rfl
                  have y1 := X9.out.c 1 _ rfl
                  have y2 := X9.out.c 2 _ rfl
                  have y3 := X9.out.c 3 _ rfl
                  have yf := X9.out.fz
                  go_wp2_with fail
                  change bodyPost _ _ _ _ _ (World.setCells w6 w.heap.size 0 [.string { data := #[] }, .string { data := #[] }, .int .i64 0, .bool false])
                  have RB := (X9.out.set [.string { data := #[] }, .string { data := #[] }, .int .i64 0, .bool false] rfl)
                  have BZ := bel_setCells (b := w.heap.size) (Nat.le_refl _) [.string { data := #[] }, .string { data := #[] }, .int .i64 0, .bool false] 0 _ B9.out
                  have r0 := RB.c 0 _ rfl
                  have r1 := RB.c 1 _ rfl
                  have r2 := RB.c 2 _ rfl
                  have r3 := RB.c 3 _ rfl
                  generalize World.setCells w6 w.heap.size 0 [.string { data := #[] }, .string { data := #[] }, .int .i64 0, .bool false] = wz at *
                  refine bodyPost_ret (v := .tuple #[.agg #[.string { data := #[] }, .string { data := #[] }, .int .i64 0, .bool false], .int .i64 (-1)]) (by simp [results, Try.results49, go_sem, r0, r1, r2, r3]) rfl ⟨?_, BZ⟩
                  rw [SE1.out, SE2.out]
                  all_goals rfl
              | some q =>
                obtain ⟨q3, k3⟩ := q
                have H3 := Lib.hid hs3
                obtain ⟨l1, l2, l5, l6⟩ := smU_len hs3
                clear hs3
                rw [List.length_drop, HL.out] at l2
                have hca : ¬ c = a3 := by omega
                have RS := Lib.hid (RRa3.out w4 B4.out)
                rw [if_neg hca] at RS
                go_wp2_with fail
                refine (rs_some _ (n - a3) (c - a3) w.heap.size (bs.drop a3) (by rw [List.length_drop, HL.out]) (by omega) 1073741824 (by omega) w4 RS.out B4.out.size H3.out).mono ?_
                rintro e w5 ⟨rfl, hb⟩
                have X5 := Lib.hid (X4.out.next hb)
                have B5 := Lib.hid (B4.out.trans (hb.mono B4.out.size))
                have BK5 := Lib.hid (BK4.out.next hb)
                clear hb X4 B4 BK4
                have g0 := BK5.out.c 0 _ rfl
                have g1 := BK5.out.c 1 _ rfl
                have g2 := BK5.out.c 2 _ rfl
                have g3 := BK5.out.c 3 _ rfl
                have gf := BK5.out.fz
                have gl := BK5.out.lt
                go_upto_region 12 with (fail)
                have X6 := Lib.hid (bxv_far1 X5.out (p := bx) (by omega) 2 (.int .i64 (q3 : Int)))
                have B6 := Lib.hid (B5.out.setCell (p := ⟨bx, 2, none⟩) (by show w.heap.size ≤ bx; omega) (.int .i64 (q3 : Int)))
                have BK6 := Lib.hid (BxV.put BK5.out 2 (by simp) (.int .i64 (q3 : Int)))
                clear X5 B5 BK5 g0 g1 g2 g3 gf gl
                generalize w5.setCell ⟨bx, 2, none⟩ (.int .i64 (q3 : Int)) = w6 at *
                clear RS hca RRa3
                obtain ⟨a4, ha4⟩ : ∃ a4, a4 = a3 + k3 := ⟨_, rfl⟩
                have HA4 := Lib.hid ha4
                have ea4 : (a3 : Int) + (k3 : Int) = (a4 : Int) := by omega
                have HO3 : Hid (O = (smU (bs.drop a4) 1).bind fun q4 => if q4.1 = 1 then some (⟨K1, zB, (q3 : Int), true⟩, (bs.drop a4).drop q4.2) else (pT 4096 ((bs.drop a4).drop q4.2)).bind fun q5 => some (⟨K1, q5.1, (q3 : Int), false⟩, q5.2)) := Lib.hid (by
                  rw [HO2.out, H3.out, Option.bind_some]
                  dsimp only
                  rw [List.drop_drop, ← HA4.out, ← HK1.out])
                have hw4 : a4 ≤ n := by omega
                clear HO2 H3 ha4 l2
                go_upto_region 13 with (fail)
                clear ea4
                by_cases hend : a4 < n
                · obtain ⟨ch, hch⟩ : ∃ ch, bs[a4]? = some ch := ⟨_, List.getElem?_eq_getElem (by rw [HL.out]; exact hend)⟩
                  have HCH := Lib.hid hch
                  have hdr : bs.drop a4 = ch :: bs.drop (a4 + 1) := drop_at' hch
                  have ho4 := HO3.out
                  rw [hdr, smU1] at ho4
                  have HO4 := Lib.hid ho4
                  clear ho4 HO3
                  obtain ⟨b, off, rfl, hbA, hcell⟩ := HRD.out w6 B6.out (by intro e; have h2 := congrArg List.length e; rw [bv_length, HL.out] at h2; simp at h2; omega)
                  have ca : w6.cell? ⟨b, off + a4, none⟩ = some (.int .u8 (ch.toNat : Int)) := hcell a4 _ (by simp [bv, hch, bt])
                  have zb : b < w6.heap.size := Nat.lt_of_lt_of_le hbA B6.out.size
                  have u0 : (0 : Int) ≤ (a4 : Int) := by omega
                  have u1 : (a4 : Int) < (n : Int) := by omega
                  have u2 : ¬ (n : Int) ≤ (a4 : Int) := by omega
                  clear hcell hch hdr hw4
                  by_cases hc1 : ch.toNat ≤ 1
                  · have v1 : ¬ (1 : Int) < (ch.toNat : Int) := by omega
                    have ho5 := HO4.out
                    rw [if_pos hc1, Option.bind_some] at ho5
                    dsimp only at ho5
                    have HO5 := Lib.hid ho5
                    clear ho5 HO4
                    obtain ⟨a5, ha5⟩ : ∃ a5, a5 = a4 + 1 := ⟨_, rfl⟩
                    have HA5 := Lib.hid ha5
                    have ea5 : (a4 : Int) + 1 = (a5 : Int) := by omega
                    clear ha5
                    by_cases hd : ch.toNat = 1
                    · have v2 : ((ch.toNat : Int) == 1) = true := by rw [beq_iff_eq]; omega
                      have HO6 : Hid (O = some (⟨K1, zB, (q3 : Int), true⟩, bs.drop a5)) := Lib.hid (by
                        rw [HO5.out, if_pos hd, ← drop_at' HCH.out, List.drop_drop, HA5.out])
                      clear HO5 hd hc1
                      have g0 := BK6.out.c 0 _ rfl
                      have g1 := BK6.out.c 1 _ rfl
                      have g2 := BK6.out.c 2 _ rfl
                      have g3 := BK6.out.c 3 _ rfl
                      have gf := BK6.out.fz
                      have gl := BK6.out.lt
                      go_upto_region 16 with (fail)
                      have X7 := Lib.hid (bxv_far1 X6.out (p := bx) (by omega) 3 (.bool true))
                      have B7 := Lib.hid (B6.out.setCell (p := ⟨bx, 3, none⟩) (by show w.heap.size ≤ bx; omega) (.bool true))
                      have BK7 := Lib.hid (BxV.put BK6.out 3 (by simp) (.bool true))
                      clear X6 B6 BK6 g0 g1 g2 g3 gf gl ca zb hbA v1 v2
                      generalize w6.setCell ⟨bx, 3, none⟩ (.bool true) = w7 at *
                      have SE1 : Hid (S = ⟨K1, zB, (q3 : Int), true⟩) := Lib.hid (by rw [HS.out, HO6.out]; rfl)
                      have SE2 : Hid (E = (a5 : Int)) := Lib.hid (by
                        rw [HE.out, HO6.out]
                        show ((n - (bs.drop a5).length : Nat) : Int) = _
                        rw [List.length_drop, HL.out]
                        have := HA5.out
                        omega)
                      have X9 := Lib.hid X7.out
                      have B9 := Lib.hid B7.out
                      have g0 := BK7.out.c 0 _ rfl
                      have g1 := BK7.out.c 1 _ rfl
                      have g2 := BK7.out.c 2 _ rfl
                      have g3 := BK7.out.c 3 _ rfl
                      have gf := BK7.out.fz
                      have gl := BK7.out.lt
                      clear X7 B7 HS HE HO6 BK7
                      have y0 := X9.out.c 0 _ rfl
                      have y1 := X9.out.c 1 _ rfl
                      have y2 := X9.out.c 2 _ rfl
                      have y3 := X9.out.c 3 _ rfl
                      have yf := X9.out.fz
                      go_wp2_with fail
                      change bodyPost _ _ _ _ _ (World.setCells w7 w.heap.size 0 [.string K1, .string { data := #[] }, .int .i64 (q3 : Int), .bool true])
                      have RB := (X9.out.set [.string K1, .string { data := #[] }, .int .i64 (q3 : Int), .bool true] rfl)
                      have BZ := bel_setCells (b := w.heap.size) (Nat.le_refl _) [.string K1, .string { data := #[] }, .int .i64 (q3 : Int), .bool true] 0 _ B9.out
                      have r0 := RB.c 0 _ rfl
                      have r1 := RB.c 1 _ rfl
                      have r2 := RB.c 2 _ rfl
                      have r3 := RB.c 3 _ rfl
                      generalize World.setCells w7 w.heap.size 0 [.string K1, .string { data := #[] }, .int .i64 (q3 : Int), .bool true] = wz at *
                      refine bodyPost_ret (v := .tuple #[.agg #[.string K1, .string { data := #[] }, .int .i64 (q3 : Int), .bool true], .int .i64 ((a5 : Int))]) (by simp [results, Try.results49, go_sem, r0, r1, r2, r3]) rfl ⟨?_, BZ⟩
                      rw [SE1.out, SE2.out]
                      all_goals rfl
                    · have v2 : ((ch.toNat : Int) == 1) = false := by rw [beq_eq_false_iff_ne]; omega
                      have HO6 : Hid (O = (pT 4096 (bs.drop a5)).bind fun q5 => some (⟨K1, q5.1, (q3 : Int), false⟩, q5.2)) := Lib.hid (by
                        rw [HO5.out, if_neg hd, ← drop_at' HCH.out, List.drop_drop, HA5.out])
                      clear HO5 hd hc1
                      have g0 := BK6.out.c 0 _ rfl
                      have g1 := BK6.out.c 1 _ rfl
                      have g2 := BK6.out.c 2 _ rfl
                      have g3 := BK6.out.c 3 _ rfl
                      have gf := BK6.out.fz
                      have gl := BK6.out.lt
                      go_upto_region 16 with (fail)
                      have X7 := Lib.hid (bxv_far1 X6.out (p := bx) (by omega) 3 (.bool false))
                      have B7 := Lib.hid (B6.out.setCell (p := ⟨bx, 3, none⟩) (by show w.heap.size ≤ bx; omega) (.bool false))
                      have BK7 := Lib.hid (BxV.put BK6.out 3 (by simp) (.bool false))
                      clear X6 B6 BK6 g0 g1 g2 g3 gf gl ca zb hbA v1 v2
                      generalize w6.setCell ⟨bx, 3, none⟩ (.bool false) = w7 at *
                      generalize (some (⟨b, off, none⟩ : Addr)) = A at *
                      have g0 := BK7.out.c 0 _ rfl
                      have g1 := BK7.out.c 1 _ rfl
                      have g2 := BK7.out.c 2 _ rfl
                      have g3 := BK7.out.c 3 _ rfl
                      have gf := BK7.out.fz
                      have gl := BK7.out.lt
                      go_upto_region 19 with (fail)
                      clear ea5 g0 g1 g2 g3 gf gl
                      have RRa5 := HRR.out a5
                      have h5 : a5 ≤ n := by have := HA5.out; omega
                      have j0 : (0 : Int) ≤ (a5 : Int) := by omega
                      have j1 : (a5 : Int) ≤ (n : Int) := by omega
                      have j2 : (a5 : Int) ≤ (c : Int) := by omega
                      cases hs6 : smU (bs.drop a5) 4096 with
                      | none =>
                        have H := Lib.hid hs6
                        have HN : Hid (O = none) := Lib.hid (by rw [HO6.out]; unfold pT; rw [H.out]; rfl)
                        clear hs6 HO6
                        by_cases hca : c = a5
                        · subst hca
                          obtain rfl : n = c := by omega
                          go_wp2_with fail
                          refine (rs_none A 0 0 0 [] rfl (by omega) 4096 (by omega) w7 Rd.nil (Nat.zero_le _) (smU_nil _)).mono ?_
                          have SE1 : Hid (S = Ent.z) := Lib.hid (by rw [HS.out, HN.out]; rfl)
                          have SE2 : Hid (E = -1) := Lib.hid (by rw [HE.out, HN.out]; rfl)
                          rintro e wx ⟨rfl, hb⟩
                          have X9 := Lib.hid (X7.out.next hb)
                          have B9 := Lib.hid (B7.out.trans (hb.mono B7.out.size))
                          clear hb X7 B7 HS HE HN
                          have y0 := X9.out.c 0 _ rfl
                          have y1 := X9.out.c 1 _ rfl
                          have y2 := X9.out.c 2 _ rfl
                          have y3 := X9.out.c 3 _ rfl
                          have yf := X9.out.fz
                          go_wp2_with fail
                          change bodyPost _ _ _ _ _ (World.setCells wx w.heap.size 0 [.string { data := #[] }, .string { data := #[] }, .int .i64 0, .bool false])
                          have RB := (X9.out.set [.string { data := #[] }, .string { data := #[] }, .int .i64 0, .bool false] rfl)
                          have BZ := bel_setCells (b := w.heap.size) (Nat.le_refl _) [.string { data := #[] }, .string { data := #[] }, .int .i64 0, .bool false] 0 _ B9.out
                          have r0 := RB.c 0 _ rfl
                          have r1 := RB.c 1 _ rfl
                          have r2 := RB.c 2 _ rfl
                          have r3 := RB.c 3 _ rfl
                          generalize World.setCells wx w.heap.size 0 [.string { data := #[] }, .string { data := #[] }, .int .i64 0, .bool false] = wz at *
                          refine bodyPost_ret (v := .tuple #[.agg #[.string { data := #[] }, .string { data := #[] }, .int .i64 0, .bool false], .int .i64 (-1)]) (by simp [results, Try.results49, go_sem, r0, r1, r2, r3]) rfl ⟨?_, BZ⟩
                          rw [SE1.out, SE2.out]
                          all_goals rfl
                        · have RS := Lib.hid (RRa5.out w7 B7.out)
                          rw [if_neg hca] at RS
                          go_wp2_with fail
                          refine (rs_none _ (n - a5) (c - a5) w.heap.size (bs.drop a5) (by rw [List.length_drop, HL.out]) (by omega) 4096 (by omega) w7 RS.out B7.out.size H.out).mono ?_
                          have SE1 : Hid (S = Ent.z) := Lib.hid (by rw [HS.out, HN.out]; rfl)
                          have SE2 : Hid (E = -1) := Lib.hid (by rw [HE.out, HN.out]; rfl)
                          rintro e wx ⟨rfl, hb⟩
                          have X9 := Lib.hid (X7.out.next hb)
                          have B9 := Lib.hid (B7.out.trans (hb.mono B7.out.size))
                          clear hb X7 B7 HS HE HN
                          have y0 := X9.out.c 0 _ rfl
                          have y1 := X9.out.c 1 _ rfl
                          have y2 := X9.out.c 2 _ rfl
                          have y3 := X9.out.c 3 _ rfl
                          have yf := X9.out.fz
                          go_wp2_with fail
                          change bodyPost _ _ _ _ _ (World.setCells wx w.heap.size 0 [.string { data := #[] }, .string { data := #[] }, .int .i64 0, .bool false])
                          have RB := (X9.out.set [.string { data := #[] }, .string { data := #[] }, .int .i64 0, .bool false] rfl)
                          have BZ := bel_setCells (b := w.heap.size) (Nat.le_refl _) [.string { data := #[] }, .string { data := #[] }, .int .i64 0, .bool false] 0 _ B9.out
                          have r0 := RB.c 0 _ rfl
                          have r1 := RB.c 1 _ rfl
                          have r2 := RB.c 2 _ rfl
                          have r3 := RB.c 3 _ rfl
                          generalize World.setCells wx w.heap.size 0 [.string { data := #[] }, .string { data := #[] }, .int .i64 0, .bool false] = wz at *
                          refine bodyPost_ret (v := .tuple #[.agg #[.string { data := #[] }, .string { data := #[] }, .int .i64 0, .bool false], .int .i64 (-1)]) (by simp [results, Try.results49, go_sem, r0, r1, r2, r3]) rfl ⟨?_, BZ⟩
                          rw [SE1.out, SE2.out]
                          all_goals rfl
                      | some q =>
                        obtain ⟨q6, k6⟩ := q
                        have H6 := Lib.hid hs6
                        obtain ⟨l1, l2, l5, l6⟩ := smU_len hs6
                        clear hs6
                        rw [List.length_drop, HL.out] at l2
                        have hca : ¬ c = a5 := by omega
                        have RS := Lib.hid (RRa5.out w7 B7.out)
                        rw [if_neg hca] at RS
                        go_wp2_with fail
                        refine (rs_some _ (n - a5) (c - a5) w.heap.size (bs.drop a5) (by rw [List.length_drop, HL.out]) (by omega) 4096 (by omega) w7 RS.out B7.out.size H6.out).mono ?_
                        rintro e w8 ⟨rfl, hb⟩
                        have X8 := Lib.hid (X7.out.next hb)
                        have B8 := Lib.hid (B7.out.trans (hb.mono B7.out.size))
                        have BK8 := Lib.hid (BK7.out.next hb)
                        clear hb X7 B7 BK7 RS hca RRa5
                        obtain ⟨a6, ha6⟩ : ∃ a6, a6 = a5 + k6 := ⟨_, rfl⟩
                        have HA6 := Lib.hid ha6
                        have HD6 : Hid ((bs.drop a5).drop k6 = bs.drop a6) := Lib.hid (by rw [List.drop_drop, HA6.out])
                        by_cases hq : n - a6 < q6
                        · have HN : Hid (O = none) := Lib.hid (by
                            rw [HO6.out]
                            unfold pT
                            rw [H6.out, Option.bind_some, if_pos (by dsimp only; rw [HD6.out, List.length_drop, HL.out]; exact hq)]
                            rfl)
                          have hq1 : (n : Int) - (a5 : Int) - (k6 : Int) < (q6 : Int) := by omega
                          clear hq HO6 H6 ha6
                          have SE1 : Hid (S = Ent.z) := Lib.hid (by rw [HS.out, HN.out]; rfl)
                          have SE2 : Hid (E = -1) := Lib.hid (by rw [HE.out, HN.out]; rfl)
                          have X9 := Lib.hid X8.out
                          have B9 := Lib.hid B8.out
                          clear X8 B8 HS HE HN
                          have y0 := X9.out.c 0 _ rfl
                          have y1 := X9.out.c 1 _ rfl
                          have y2 := X9.out.c 2 _ rfl
                          have y3 := X9.out.c 3 _ rfl
                          have yf := X9.out.fz
                          go_wp2_with fail
                          change bodyPost _ _ _ _ _ (World.setCells w8 w.heap.size 0 [.string { data := #[] }, .string { data := #[] }, .int .i64 0, .bool false])
                          have RB := (X9.out.set [.string { data := #[] }, .string { data := #[] }, .int .i64 0, .bool false] rfl)
                          have BZ := bel_setCells (b := w.heap.size) (Nat.le_refl _) [.string { data := #[] }, .string { data := #[] }, .int .i64 0, .bool false] 0 _ B9.out
                          have r0 := RB.c 0 _ rfl
                          have r1 := RB.c 1 _ rfl
                          have r2 := RB.c 2 _ rfl
                          have r3 := RB.c 3 _ rfl
                          generalize World.setCells w8 w.heap.size 0 [.string { data := #[] }, .string { data := #[] }, .int .i64 0, .bool false] = wz at *
                          refine bodyPost_ret (v := .tuple #[.agg #[.string { data := #[] }, .string { data := #[] }, .int .i64 0, .bool false], .int .i64 (-1)]) (by simp [results, Try.results49, go_sem, r0, r1, r2, r3]) rfl ⟨?_, BZ⟩
                          rw [SE1.out, SE2.out]
                          all_goals rfl
                        · have hq1 : ¬ (n : Int) - (a5 : Int) - (k6 : Int) < (q6 : Int) := by omega
                          have ea6 : (a5 : Int) + (k6 : Int) = (a6 : Int) := by omega
                          obtain ⟨a7, ha7⟩ : ∃ a7, a7 = a6 + q6 := ⟨_, rfl⟩
                          have HA7 := Lib.hid ha7
                          obtain ⟨s6, hs6⟩ : ∃ s : ByteArray, s = ⟨((bs.drop a6).take q6).toArray⟩ := ⟨_, rfl⟩
                          have HO7 : Hid (O = some (⟨K1, s6, (q3 : Int), false⟩, bs.drop a7)) := Lib.hid (by
                            rw [HO6.out]
                            unfold pT
                            rw [H6.out, Option.bind_some, if_neg (by dsimp only; rw [HD6.out, List.length_drop, HL.out]; exact hq), Option.bind_some]
                            dsimp only
                            rw [HD6.out, List.drop_drop, ← HA7.out, ← hs6])
                          have HS6 := Lib.hid hs6
                          have m1 : (a6 : Int) ≤ (a7 : Int) := by omega
                          have m2 : (a7 : Int) ≤ (n : Int) := by omega
                          have m3 : (0 : Int) ≤ (a6 : Int) := by omega
                          have m4 : (a7 : Int) ≤ (c : Int) := by omega
                          have m5 : (0 : Int) ≤ (a7 : Int) := by omega
                          have m6 : a6 ≤ a7 := by omega
                          have m7 : a7 ≤ n := by omega
                          have RRa6 := HRR.out a6
                          have ea7 : (a6 : Int) + (q6 : Int) = (a7 : Int) := by omega
                          have SE1 : Hid (S = ⟨K1, s6, (q3 : Int), false⟩) := Lib.hid (by rw [HS.out, HO7.out]; rfl)
                          have SE2 : Hid (E = (a7 : Int)) := Lib.hid (by
                            rw [HE.out, HO7.out]
                            show ((n - (bs.drop a7).length : Nat) : Int) = _
                            rw [List.length_drop, HL.out]
                            omega)
                          clear hs6 HO6 HO7 H6 HD6 ha6 ha7 j0 j1 j2 l2 HS HE
                          have wr7 : IntKind.i64.wrap (a7 : Int) = (a7 : Int) := IntWalk.i64_in _ (by omega)
                          have g0 := BK8.out.c 0 _ rfl
                          have g1 := BK8.out.c 1 _ rfl
                          have g2 := BK8.out.c 2 _ rfl
                          have g3 := BK8.out.c 3 _ rfl
                          have gf := BK8.out.fz
                          have gl := BK8.out.lt
                          by_cases hca : c = a6
                          · subst hca
                            have KC : (convert 23 9 (.slice A (a7 - c) 0)).run Try.prog w8 = .ok (.string s6) w8 := by
                              have RS := (RRa6.out w8 B8.out)
                              rw [if_pos rfl] at RS
                              have h := RS.take q6
                              have e : (bv (bs.drop c)).take q6 = bv ((bs.drop c).take q6) := by simp [bv, List.map_take]
                              rw [e] at h
                              rw [HS6.out]
                              exact conv_str (P := Try.prog) 23 9 5 (a7 - c) 0 Try.underlying23 Try.underlying5 Try.underlying9 h (by rw [List.length_take, List.length_drop, HL.out]; omega)
                            go_upto_region 23 with (fail)
                            have X9 := Lib.hid (bxv_far1 X8.out (p := bx) (by omega) 1 (.string s6))
                            have B9 := Lib.hid (B8.out.setCell (p := ⟨bx, 1, none⟩) (by show w.heap.size ≤ bx; omega) (.string s6))
                            have BK9 := Lib.hid (BxV.put BK8.out 1 (by simp) (.string s6))
                            clear X8 B8 BK8 g0 g1 g2 g3 gf gl KC
                            generalize w8.setCell ⟨bx, 1, none⟩ (.string s6) = w9 at *
                            have g0 := BK9.out.c 0 _ rfl
                            have g1 := BK9.out.c 1 _ rfl
                            have g2 := BK9.out.c 2 _ rfl
                            have g3 := BK9.out.c 3 _ rfl
                            have gf := BK9.out.fz
                            have gl := BK9.out.lt
                            clear BK9
                            have y0 := X9.out.c 0 _ rfl
                            have y1 := X9.out.c 1 _ rfl
                            have y2 := X9.out.c 2 _ rfl
                            have y3 := X9.out.c 3 _ rfl
                            have yf := X9.out.fz
                            go_wp2_with fail
                            change bodyPost _ _ _ _ _ (World.setCells w9 w.heap.size 0 [.string K1, .string s6, .int .i64 (q3 : Int), .bool false])
                            have RB := (X9.out.set [.string K1, .string s6, .int .i64 (q3 : Int), .bool false] rfl)
                            have BZ := bel_setCells (b := w.heap.size) (Nat.le_refl _) [.string K1, .string s6, .int .i64 (q3 : Int), .bool false] 0 _ B9.out
                            have r0 := RB.c 0 _ rfl
                            have r1 := RB.c 1 _ rfl
                            have r2 := RB.c 2 _ rfl
                            have r3 := RB.c 3 _ rfl
                            generalize World.setCells w9 w.heap.size 0 [.string K1, .string s6, .int .i64 (q3 : Int), .bool false] = wz at *
                            refine bodyPost_ret (v := .tuple #[.agg #[.string K1, .string s6, .int .i64 (q3 : Int), .bool false], .int .i64 ((a7 : Int))]) (by simp [results, Try.results49, go_sem, r0, r1, r2, r3]) rfl ⟨?_, BZ⟩
                            rw [SE1.out, SE2.out]
                            all_goals rfl
                          · have KC : (convert 23 9 (.slice (A.map (fun x => x.add a6)) (a7 - a6) (c - a6))).run Try.prog w8 = .ok (.string s6) w8 := by
                              have RS := (RRa6.out w8 B8.out)
                              rw [if_neg hca] at RS
                              have h := RS.take q6
                              have e : (bv (bs.drop a6)).take q6 = bv ((bs.drop a6).take q6) := by simp [bv, List.map_take]
                              rw [e] at h
                              rw [HS6.out]
                              exact conv_str (P := Try.prog) 23 9 5 (a7 - a6) (c - a6) Try.underlying23 Try.underlying5 Try.underlying9 h (by rw [List.length_take, List.length_drop, HL.out]; omega)
                            go_upto_region 23 with (fail)
                            have X9 := Lib.hid (bxv_far1 X8.out (p := bx) (by omega) 1 (.string s6))
                            have B9 := Lib.hid (B8.out.setCell (p := ⟨bx, 1, none⟩) (by show w.heap.size ≤ bx; omega) (.string s6))
                            have BK9 := Lib.hid (BxV.put BK8.out 1 (by simp) (.string s6))
                            clear X8 B8 BK8 g0 g1 g2 g3 gf gl KC
                            generalize w8.setCell ⟨bx, 1, none⟩ (.string s6) = w9 at *
                            have g0 := BK9.out.c 0 _ rfl
                            have g1 := BK9.out.c 1 _ rfl
                            have g2 := BK9.out.c 2 _ rfl
                            have g3 := BK9.out.c 3 _ rfl
                            have gf := BK9.out.fz
                            have gl := BK9.out.lt
                            clear BK9
                            have y0 := X9.out.c 0 _ rfl
                            have y1 := X9.out.c 1 _ rfl
                            have y2 := X9.out.c 2 _ rfl
                            have y3 := X9.out.c 3 _ rfl
                            have yf := X9.out.fz
                            go_wp2_with fail
                            change bodyPost _ _ _ _ _ (World.setCells w9 w.heap.size 0 [.string K1, .string s6, .int .i64 (q3 : Int), .bool false])
                            have RB := (X9.out.set [.string K1, .string s6, .int .i64 (q3 : Int), .bool false] rfl)
                            have BZ := bel_setCells (b := w.heap.size) (Nat.le_refl _) [.string K1, .string s6, .int .i64 (q3 : Int), .bool false] 0 _ B9.out
                            have r0 := RB.c 0 _ rfl
                            have r1 := RB.c 1 _ rfl
                            have r2 := RB.c 2 _ rfl
                            have r3 := RB.c 3 _ rfl
                            generalize World.setCells w9 w.heap.size 0 [.string K1, .string s6, .int .i64 (q3 : Int), .bool false] = wz at *
                            refine bodyPost_ret (v := .tuple #[.agg #[.string K1, .string s6, .int .i64 (q3 : Int), .bool false], .int .i64 ((a7 : Int))]) (by simp [results, Try.results49, go_sem, r0, r1, r2, r3]) rfl ⟨?_, BZ⟩
                            rw [SE1.out, SE2.out]
                            all_goals rfl
                  · have v1 : (1 : Int) < (ch.toNat : Int) := by omega
                    have HN : Hid (O = none) := Lib.hid (by rw [HO4.out, if_neg hc1]; rfl)
                    clear hc1 HO4
                    have SE1 : Hid (S = Ent.z) := Lib.hid (by rw [HS.out, HN.out]; rfl)
                    have SE2 : Hid (E = -1) := Lib.hid (by rw [HE.out, HN.out]; rfl)
                    have X9 := Lib.hid X6.out
                    have B9 := Lib.hid B6.out
                    clear X6 B6 HS HE HN
                    have y0 := X9.out.c 0 _ rfl
                    have y1 := X9.out.c 1 _ rfl
                    have y2 := X9.out.c 2 _ rfl
                    have y3 := X9.out.c 3 _ rfl
                    have yf := X9.out.fz
                    go_wp2_with fail
                    change bodyPost _ _ _ _ _ (World.setCells w6 w.heap.size 0 [.string { data := #[] }, .string { data := #[] }, .int .i64 0, .bool false])
                    have RB := (X9.out.set [.string { data := #[] }, .string { data := #[] }, .int .i64 0, .bool false] rfl)
                    have BZ := bel_setCells (b := w.heap.size) (Nat.le_refl _) [.string { data := #[] }, .string { data := #[] }, .int .i64 0, .bool false] 0 _ B9.out
                    have r0 := RB.c 0 _ rfl
                    have r1 := RB.c 1 _ rfl
                    have r2 := RB.c 2 _ rfl
                    have r3 := RB.c 3 _ rfl
                    generalize World.setCells w6 w.heap.size 0 [.string { data := #[] }, .string { data := #[] }, .int .i64 0, .bool false] = wz at *
                    refine bodyPost_ret (v := .tuple #[.agg #[.string { data := #[] }, .string { data := #[] }, .int .i64 0, .bool false], .int .i64 (-1)]) (by simp [results, Try.results49, go_sem, r0, r1, r2, r3]) rfl ⟨?_, BZ⟩
                    rw [SE1.out, SE2.out]
                    all_goals rfl
                · have HN : Hid (O = none) := Lib.hid (by rw [HO3.out, List.drop_eq_nil_of_le (by rw [HL.out]; omega), smU_nil]; rfl)
                  have u1 : (n : Int) ≤ (a4 : Int) := by omega
                  clear HO3 hend hw4
                  have SE1 : Hid (S = Ent.z) := Lib.hid (by rw [HS.out, HN.out]; rfl)
                  have SE2 : Hid (E = -1) := Lib.hid (by rw [HE.out, HN.out]; rfl)
                  have X9 := Lib.hid X6.out
                  have B9 := Lib.hid B6.out
                  clear X6 B6 HS HE HN
                  have y0 := X9.out.c 0 _ rfl
                  have y1 := X9.out.c 1 _ rfl
                  have y2 := X9.out.c 2 _ rfl
                  have y3 := X9.out.c 3 _ rfl
                  have yf := X9.out.fz
                  go_wp2_with fail
                  change bodyPost _ _ _ _ _ (World.setCells w6 w.heap.size 0 [.string { data := #[] }, .string { data := #[] }, .int .i64 0, .bool false])
                  have RB := (X9.out.set [.string { data := #[] }, .string { data := #[] }, .int .i64 0, .bool false] rfl)
                  have BZ := bel_setCells (b := w.heap.size) (Nat.le_refl _) [.string { data := #[] }, .string { data := #[] }, .int .i64 0, .bool false] 0 _ B9.out
                  have r0 := RB.c 0 _ rfl
                  have r1 := RB.c 1 _ rfl
                  have r2 := RB.c 2 _ rfl
                  have r3 := RB.c 3 _ rfl
                  generalize World.setCells w6 w.heap.size 0 [.string { data := #[] }, .string { data := #[] }, .int .i64 0, .bool false] = wz at *
                  refine bodyPost_ret (v := .tuple #[.agg #[.string { data := #[] }, .string { data := #[] }, .int .i64 0, .bool false], .int .i64 (-1)]) (by simp [results, Try.results49, go_sem, r0, r1, r2, r3]) rfl ⟨?_, BZ⟩
                  rw [SE1.out, SE2.out]
                  all_goals rfl
            · exact AllReadyH.nil
          · exact AllReadyH.nil
end Go.Proofs.Ytmcpjpkidcbgiaa
