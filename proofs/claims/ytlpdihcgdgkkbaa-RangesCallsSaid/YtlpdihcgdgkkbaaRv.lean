/- Walks: the document's spans, nodes and parts. -/
import Derived.Test.YtlpdihcgdgkkbaaRt
import Derived.Deep.RegionHeld3
namespace Go.Proofs.Ytlpdihcgdgkkbaa
open Go.RowKit Go.St
set_option linter.unusedVariables false
set_option linter.unusedSimpArgs false
set_option maxRecDepth 100000

theorem kept {W w4 : World} (hb : Below W.heap.size W w4) {p : Addr} {v : Value} (h : W.cell? p = some v) : w4.cell? p = some v := (hb.cell (World.block_lt_of_cell? _ _ h)).trans h

set_option maxHeartbeats 1600000 in
theorem rspan21_any (A : Option Addr) (n c B : Nat) (l : List ByteArray) (hl : l.length = n) (hn : n < 4611686018427387904) (z : Int) (h1 : -9223372036854775808 ≤ z) (h2 : z ≤ 9223372036854775807) (w : World) (hr : Rd w B A (sv l)) (hB : B ≤ w.heap.size) :
    Calls Try.prog 60 #[.slice A n c, .int .i64 z] w fun e w' => e = .returned (.tuple #[spV l z, .int .i64 (spE l z)]) ∧ Below w.heap.size w w' := by
  have HC := Lib.hid (fun W (h : Rd W B A (sv l)) => rcheck21_any A n c B l hl (by omega) W h)
  have HR : Hid (Rd (w.alloc (.cells #[.string ⟨#[]⟩, .string ⟨#[]⟩] 67)) B A (sv l)) := hr.alloc hB _
  clear hr
  by_cases h0 : chk21 l = 0
  case neg =>
    have e1 : spE l z = chk21 l := by unfold spE; rw [if_pos h0]
    have e2 : spV l z = .agg #[.string zE, .string zE] := by unfold spV spF spT; rw [e1, if_neg h0, if_neg h0]
    rw [e1, e2]
    clear hl e1 e2
    generalize chk21 l = q at *
    go_enter Try.func60, Try.ntmps60
    go_wp2_with fail
    refine (HC.out _ HR.out).mono ?_
    rintro e w' ⟨rfl, m, rfl⟩
    go_wp2
    refine bodyPost_ret (v := .tuple #[.agg #[.string ⟨#[]⟩, .string ⟨#[]⟩], .int .i64 q]) (by simp [results, Try.results60, go_sem]) rfl ⟨rfl, ?_⟩
    go_grown
    exact bel_dn ((Below.refl _ _).alloc (Nat.le_refl _) _) _
  rw [h0] at HC
  by_cases hz : z < 0 ∨ (n : Int) < z
  · have e1 : spE l z = 2 := by unfold spE; rw [if_neg (by rw [h0]; decide), if_pos (by rw [hl]; exact hz)]
    have e2 : spV l z = .agg #[.string zE, .string zE] := by unfold spV spF spT; rw [e1]; rfl
    rw [e1, e2]
    clear hl e1 e2 h0
    by_cases hz0 : z < 0
    · go_enter Try.func60, Try.ntmps60
      go_wp2_with fail
      refine (HC.out _ HR.out).mono ?_
      rintro e w' ⟨rfl, m, rfl⟩
      go_wp2
      refine bodyPost_ret (v := .tuple #[.agg #[.string ⟨#[]⟩, .string ⟨#[]⟩], .int .i64 2]) (by simp [results, Try.results60, go_sem]) rfl ⟨rfl, ?_⟩
      go_grown
      exact bel_dn ((Below.refl _ _).alloc (Nat.le_refl _) _) _
    · have hz1 : (n : Int) < z := by omega
      clear hz
      go_enter Try.func60, Try.ntmps60
      go_wp2_with fail
      refine (HC.out _ HR.out).mono ?_
      rintro e w' ⟨rfl, m, rfl⟩
      go_wp2
      refine bodyPost_ret (v := .tuple #[.agg #[.string ⟨#[]⟩, .string ⟨#[]⟩], .int .i64 2]) (by simp [results, Try.results60, go_sem]) rfl ⟨rfl, ?_⟩
      go_grown
      exact bel_dn ((Below.refl _ _).alloc (Nat.le_refl _) _) _
  · obtain ⟨i, rfl⟩ : ∃ i : Nat, z = i := ⟨z.toNat, by omega⟩
    have hin : i ≤ n := by omega
    have hn15 : n ≤ 15 := by have := chk_len h0; omega
    have e1 : spE l i = 0 := by unfold spE; rw [if_neg (by rw [h0]; decide), if_neg (by rw [hl]; exact hz)]
    have e2 : spV l i = .agg #[.string (frT l i), .string (toT l i)] := by unfold spV spF spT; rw [e1]; rfl
    rw [e1, e2]
    have HA := Lib.hid (fun W (h : Rd W B A (sv l)) hB => rall21_any A n c B l hl (by omega) W h hB)
    have HG : Hid (∀ W B1 A1, Rd W B1 A1 (pv (allUp l (n + 1))) → ∃ b off, A1 = some ⟨b, off, none⟩ ∧ b < B1 ∧ W.cell? ⟨b, off + i * 2, none⟩ = some (.string (frT l i)) ∧ W.cell? ⟨b, off + i * 2 + 1, none⟩ = some (.string (toT l i))) := by
      intro W B1 A1 h
      have hjl : i < (allUp l (n + 1)).length := by rw [allUp_len]; omega
      obtain ⟨b, off, rfl, hb, ca⟩ := h.at_ (pv_get1 _ i hjl)
      obtain ⟨b', off', e, _, cb⟩ := h.at_ (pv_get2 _ i hjl)
      injection e with e
      injection e with e1 e2
      subst e1 e2
      rw [allUp_get] at ca cb
      rw [show 2 * i = i * 2 by omega] at ca cb
      rw [← Nat.add_assoc] at cb
      exact ⟨b, off, rfl, hb, ca, cb⟩
    generalize frT l i = f at *
    generalize toT l i = t at *
    clear e1 e2 h0 hz hl h1 h2
    go_enter Try.func60, Try.ntmps60
    go_wp2_with fail
    refine (HC.out _ HR.out).mono ?_
    rintro e w' ⟨rfl, m, rfl⟩
    clear HC
    go_wp2_with fail
    refine (HA.out _ (Rd.drew HR.out m) (by simp; omega)).mono ?_
    rintro e w1 ⟨v, rfl, own, hb⟩
    have hs1 : w.heap.size + 1 ≤ w1.heap.size := by simpa using hb.size
    have hfr : ∀ o, w1.frozen? ⟨w.heap.size, o, none⟩ = ((w.alloc (.cells #[.string ⟨#[]⟩, .string ⟨#[]⟩] 67)).drewN m).frozen? ⟨w.heap.size, o, none⟩ := fun o => (bcell hb).2 _ _ (by simp)
    have hcc : ∀ o, w1.cell? ⟨w.heap.size, o, none⟩ = ((w.alloc (.cells #[.string ⟨#[]⟩, .string ⟨#[]⟩] 67)).drewN m).cell? ⟨w.heap.size, o, none⟩ := fun o => (bcell hb).1 _ _ (by simp)
    have HB1 : Hid (Below w.heap.size w w1) := Below.go (bel_dn ((Below.refl _ _).alloc (Nat.le_refl _) _) m) hb (by simp)
    obtain ⟨A1, c1, rfl, rd⟩ := own_rdS own (by decide)
    obtain ⟨b, off, rfl, hb1, ca, cb⟩ := HG.out _ _ _ rd
    have hz1 : w.heap.size < w1.heap.size := by omega
    clear own hb rd HA HG HR
    go_wp2
    refine bodyPost_ret (v := .tuple #[.agg #[.string f, .string t], .int .i64 0]) (by simp [results, Try.results60, go_sem, hcc, hz1]) rfl ⟨rfl, ?_⟩
    have hb := HB1.out
    have hbs := hb.size
    go_grown

set_option maxHeartbeats 1600000 in
theorem rnode21_any (A : Option Addr) (n c B : Nat) (l : List ByteArray) (hl : l.length = n) (hn : n < 4611686018427387904) (k : ByteArray) (z : Int) (h1 : -9223372036854775808 ≤ z) (h2 : z ≤ 9223372036854775807) (w : World) (hr : Rd w B A (sv l)) (hB : B ≤ w.heap.size) :
    Calls Try.prog 62 #[.slice A n c, .string k, .int .i64 z] w fun e w' => e = .returned (.tuple #[.int .i64 (ndR l k z), .int .i64 (ndE l z)]) ∧ Below w.heap.size w w' := by
  have HC := Lib.hid (rof21_any A n c B l hl (by omega) k w hr hB)
  clear hr
  by_cases h0 : chk21 l = 0
  case neg =>
    have e1 : ndE l z = chk21 l := by unfold ndE; rw [if_pos h0]
    have e2 : ndR l k z = 0 := by unfold ndR; rw [e1, if_neg h0]
    rw [e1, e2]
    clear hl e1 e2
    generalize chk21 l = q at *
    generalize ofR l k = r at *
    go_enter Try.func62, Try.ntmps62
    go_wp2_with fail
    refine HC.out.mono ?_
    rintro e w' ⟨rfl, hb⟩
    have HB := Lib.hid hb; clear hb
    go_wp2
    go_ret2
    exact ⟨rfl, HB.out⟩
  have hr15 : ofR l k ≤ 16 := by
    have := chk_len h0
    have := ofT_le h0 k
    rw [ofR_eq h0]; omega
  have e0 : ndE l z = if z < 1 ∨ 7 < z then 2 else 0 := by unfold ndE; rw [if_neg (by rw [h0]; decide)]
  have e3 : ndR l k z = if ndE l z = 0 then (ofR l k : Int) % z else 0 := rfl
  rw [e3]
  rw [h0] at HC
  generalize ofR l k = r at *
  by_cases hz : z < 1 ∨ 7 < z
  · rw [if_pos hz] at e0
    rw [e0, if_neg (by decide)]
    clear e0 e3 hl h0
    rcases hz with hz | hz
    all_goals
      go_enter Try.func62, Try.ntmps62
      go_wp2_with fail
      refine HC.out.mono ?_
      rintro e w' ⟨rfl, hb⟩
      have HB := Lib.hid hb; clear hb
      go_wp2
      go_ret2
      exact ⟨rfl, HB.out⟩
  · rw [if_neg hz] at e0
    rw [e0, if_pos rfl]
    clear e0 e3 hl h0
    obtain ⟨m7, rfl⟩ : ∃ m : Nat, z = m := ⟨z.toNat, by omega⟩
    have hm1 : 1 ≤ m7 := by omega
    have hm2 : m7 ≤ 7 := by omega
    clear hz h1 h2
    go_enter Try.func62, Try.ntmps62
    go_wp2_with fail
    refine HC.out.mono ?_
    rintro e w' ⟨rfl, hb⟩
    have HB := Lib.hid hb; clear hb
    go_wp2
    go_ret2
    exact ⟨by first | rfl | simp, HB.out⟩

theorem partsN_up {l : List ByteArray} (h0 : chk21 l = 0) (f t : ByteArray) : partsN l f t = partsUp l f t (l.length + 1) := by
  cases he : sEmp f t
  · unfold partsN; rw [if_pos ⟨h0, he⟩]
  · unfold partsN
    rw [if_neg (fun h => by rw [he] at h; cases h.2)]
    have h : ∀ i, partR l f t i = [] := fun i => by
      unfold partR
      rw [if_pos (by rw [← meetE_comm]; exact emp_meet he)]
    unfold partsUp
    simp [h]

set_option maxHeartbeats 3200000 in
theorem rparts21_any (A : Option Addr) (n c B : Nat) (l : List ByteArray) (hl : l.length = n) (hn : n < 4611686018427387904) (f t : ByteArray) (w : World) (hr : Rd w B A (sv l)) (hB : B ≤ w.heap.size) :
    Calls Try.prog 63 #[.slice A n c, .agg #[.string f, .string t]] w fun e w' => ∃ v, e = .returned (.tuple #[v, .int .i64 (chk21 l)]) ∧ w'.ownsRow w.heap.size 67 2 v (partsN l f t).length (pv (partsN l f t)) ∧ Below w.heap.size w w' := by
  have HC := Lib.hid (fun W (h : Rd W B A (sv l)) => rcheck21_any A n c B l hl (by omega) W h)
  have HR : Hid (Rd (w.alloc (.cells #[.string f, .string t] 67)) B A (sv l)) := hr.alloc hB _
  by_cases h0 : chk21 l = 0
  case neg =>
    have e1 : partsN l f t = [] := by unfold partsN; rw [if_neg (fun h => h0 h.1)]
    rw [e1]
    clear hl e1
    generalize chk21 l = q at *
    go_enter Try.func63, Try.ntmps63
    go_wp2_with fail
    refine (HC.out _ HR.out).mono ?_
    rintro e w' ⟨rfl, m, rfl⟩
    go_wp2
    go_ret2
    exact ⟨_, rfl, ⟨rfl, .inl ⟨rfl, rfl⟩⟩, bel_dn ((Below.refl _ _).alloc (Nat.le_refl _) _) _⟩
  have hn15 : n ≤ 15 := by have := chk_len h0; omega
  have HA := Lib.hid (fun W (h : Rd W B A (sv l)) hB => rall21_any A n c B l hl (by omega) W h hB)
  have e1 := partsN_up h0 f t
  rw [hl] at e1
  rw [h0] at HC ⊢
  rw [e1]
  have HEP := Lib.hid (fun j => partsUp_succ l f t j)
  have HLN := Lib.hid (fun j => partsUp_len l f t j)
  clear hl e1 h0 hr
  go_enter Try.func63, Try.ntmps63
  go_wp2_with fail
  refine (HC.out _ HR.out).mono ?_
  rintro e w' ⟨rfl, m, rfl⟩
  clear HC
  go_wp2_with fail
  refine (HA.out _ (Rd.drew HR.out m) (by simp; omega)).mono ?_
  rintro e w2 ⟨v, rfl, own, hb⟩
  have HB : Hid (Below w.heap.size w w2) := Below.go (bel_dn ((Below.refl _ _).alloc (Nat.le_refl _) _) m) hb (by simp)
  have hs2 : w.heap.size < w2.heap.size := by have := hb.size; simp at this; omega
  have HCB : Hid (∀ o, o < 2 → w2.cell? ⟨w.heap.size, o, none⟩ = some (.string (if o = 0 then f else t))) := by
    intro o ho
    rw [(bcell hb).1 _ _ (by simp)]
    rcases (by omega : o = 0 ∨ o = 1) with rfl | rfl <;> simp
  obtain ⟨A1, c1, rfl, rd⟩ := own_rdS own (by decide)
  have RD := Lib.hid rd
  clear hb own rd HA HR
  go_wp2_with fail
  go_loopw [7, 9] (fun v s wr => ∃ j : Nat, j ≤ n + 1 ∧ s = .int .i64 j ∧ Hid (wr.ownsRow w2.heap.size 67 2 v (partsUp l f t j).length (pv (partsUp l f t j))) ∧ Hid (Below w2.heap.size w2 wr)) (fun v s _ => n + 1 - (intOf s).toNat)
  case atStart => exact ⟨0, Nat.zero_le _, rfl, ⟨rfl, .inl ⟨rfl, rfl⟩⟩, Below.refl _ _⟩
  case round =>
    obtain ⟨j, hj, rfl, HO, HW⟩ := hrel
    by_cases hlt : j < n + 1
    · have hsw := HW.out.size
      have c0 : wr.cell? ⟨w.heap.size, 0, none⟩ = some (.string f) := (HW.out.cell (p := ⟨w.heap.size, 0, none⟩) hs2).trans (HCB.out 0 (by omega))
      have c1 : wr.cell? ⟨w.heap.size, 1, none⟩ = some (.string t) := (HW.out.cell (p := ⟨w.heap.size, 1, none⟩) hs2).trans (HCB.out 1 (by omega))
      have hjl : j < (allUp l (n + 1)).length := by rw [allUp_len]; omega
      have RW : Hid (Rd wr w2.heap.size A1 (pv (allUp l (n + 1)))) := RD.out.below HW.out
      obtain ⟨b, off, rfl, hb, ca⟩ := RW.out.at_ (pv_get1 _ j hjl)
      obtain ⟨_, _, e, _, cb⟩ := RW.out.at_ (pv_get2 _ j hjl)
      injection e with e; injection e with e1 e2; subst e1 e2
      rw [allUp_get] at ca cb
      rw [show 2 * j = j * 2 by omega] at ca cb
      rw [← Nat.add_assoc] at cb
      simp only at ca cb
      have hsz1 : w.heap.size < wr.heap.size := by omega
      have hbw : b < wr.heap.size := by omega
      generalize hpf : frT l j = f1 at *
      generalize hpt : toT l j = t1 at *
      have hpr : partR l f t j = if meetE f1 t1 f t then [] else [(kmax f1 f, meetT t1 t)] := by unfold partR; rw [hpf, hpt]
      obtain ⟨f2, t2, fl, hme, hpr2⟩ : ∃ f2 t2 fl, (∀ W, Calls Try.prog 64 #[.agg #[.string f1, .string t1], .agg #[.string f, .string t]] W fun e w' => e = .returned (.tuple #[.agg #[.string f2, .string t2], .bool fl]) ∧ Below W.heap.size W w') ∧ partR l f t j = if fl = true then [(f2, t2)] else [] := by
        have hme := fun W => rmeet_any f1 t1 f t W
        unfold meetV at hme
        cases hq : meetE f1 t1 f t
        · rw [hq] at hme hpr
          exact ⟨_, _, true, hme, hpr⟩
        · rw [hq] at hme hpr
          exact ⟨_, _, false, hme, hpr⟩
      have HM := Lib.hid hme; have HP := Lib.hid hpr2
      clear hme hpr hpr2 RW
      have hlen := HLN.out j
      go_wp2_with fail
      go_region_held3 (fun W => W.cell? ⟨w.heap.size, 0, none⟩ = some (.string f) ∧ W.cell? ⟨w.heap.size, 1, none⟩ = some (.string t) ∧ W.cell? ⟨b, off + j * 2, none⟩ = some (.string f1) ∧ W.cell? ⟨b, off + j * 2 + 1, none⟩ = some (.string t1)) (first | exact ⟨c0, c1, ca, cb⟩ | exact ⟨k0, k1, k2, k3⟩ | ((try dsimp only); (repeat' apply And.intro) <;> (first | assumption | go_simp))) (first | (go_at_call 64; refine (HM.out _).mono ?_; rintro e w4 ⟨rfl, hb4⟩; have k0 := kept hb4 (p := ⟨w.heap.size, 0, none⟩) (v := .string f) (by go_simp); have k1 := kept hb4 (p := ⟨w.heap.size, 1, none⟩) (v := .string t) (by go_simp); have k2 := kept hb4 (p := ⟨b, off + j * 2, none⟩) (v := .string f1) (by go_simp); have k3 := kept hb4 (p := ⟨b, off + j * 2 + 1, none⟩) (v := .string t1) (by go_simp); have z0 : w.heap.size < w4.heap.size := World.block_lt_of_cell? _ _ k0; have z2 : b < w4.heap.size := World.block_lt_of_cell? _ _ k2; obtain ⟨hc4, hf4⟩ := bcell hb4; first | (have z4 : wr.heap.size < w4.heap.size := by (have hz4 := hb4.size; simp at hz4; omega)) | skip))
      all_goals
        have hbr : Below wr.heap.size wr w4 := by first | exact hb4 | exact Below.go (by go_grown) hb4 (by go_size)
        have hs4 := hbr.size
        have tl : ∀ (w6 : World) (g : Nat), Below wr.heap.size wr w6 → w6.cell? ⟨g, 0, none⟩ = some (.string f2) → w6.cell? ⟨g, 1, none⟩ = some (.string t2) → Hid (Below w2.heap.size w2 w6 ∧ g < w6.heap.size) := fun w6 g h h2 h3 => ⟨HW.out.trans (h.mono hsw), World.block_lt_of_cell? _ _ h2⟩
        first
          | (have z5 : wr.heap.size < w4.heap.size := by assumption
             have hbW : Below wr.heap.size wr ((w4.setCell ⟨wr.heap.size, 0, none⟩ (.string f2)).setCell ⟨wr.heap.size, 1, none⟩ (.string t2)) := (hbr.setCell (Nat.le_refl _) _).setCell (Nat.le_refl _) _
             have k4 : ((w4.setCell ⟨wr.heap.size, 0, none⟩ (.string f2)).setCell ⟨wr.heap.size, 1, none⟩ (.string t2)).cell? ⟨wr.heap.size, 0, none⟩ = some (.string f2) := by go_simp
             have k5 : ((w4.setCell ⟨wr.heap.size, 0, none⟩ (.string f2)).setCell ⟨wr.heap.size, 1, none⟩ (.string t2)).cell? ⟨wr.heap.size, 1, none⟩ = some (.string t2) := by go_simp
             clear hc4 hf4 k0 k1 k2 k3 hb4 hbr c0 c1 ca cb
             generalize (w4.setCell ⟨wr.heap.size, 0, none⟩ (.string f2)).setCell ⟨wr.heap.size, 1, none⟩ (.string t2) = w6 at *)
          | (have hbW : Below wr.heap.size wr (w4.alloc (.cells #[.string f2, .string t2] 67)) := hbr.alloc hs4 _
             have k4 : (w4.alloc (.cells #[.string f2, .string t2] 67)).cell? ⟨w4.heap.size, 0, none⟩ = some (.string f2) := by go_simp
             have k5 : (w4.alloc (.cells #[.string f2, .string t2] 67)).cell? ⟨w4.heap.size, 1, none⟩ = some (.string t2) := by go_simp
             clear hc4 hf4 k0 k1 k2 k3 hb4 hbr c0 c1 ca cb
             generalize w4.alloc (.cells #[.string f2, .string t2] 67) = w6 at *)
        have HT6 := tl _ _ hbW k4 k5
        obtain ⟨HBx, hgx⟩ := HT6.out
        have HB6 := Lib.hid HBx
        have HO6 := Lib.hid (own_keep HO.out hbW (Nat.le_refl _))
        clear hbW HBx HT6 tl HO
        cases fl
        · go_wp2
          go_roundw
          case rel => exact ⟨j + 1, by omega, by go_num, by (have e := HEP.out j; rw [HP.out] at e; simp at e; rw [e]; exact HO6.out), HB6⟩
          case measure => simp [intOf]; omega
        · have rdn := rd_new w6 #[.string f2, .string t2] 67
          have RDN := Lib.hid rdn; clear rdn
          go_wp2_with (at_builtin; refine wpList_app sty93 (.tmp 35) (.tmp 37) rfl rfl w2.heap.size (HO6.out.alloc _) rfl 1 1 RDN.out rfl rfl (by simp [Value.oneCell']) (by unfold maxLen; omega) (by omega) (by have := HB6.out.size; simp; omega) ?_; intro v5 w7 own5 gr5 nil5 at5)
          have hb7 := ((HB6.out.alloc HB6.out.size (.cells #[.string f2, .string t2] 67)).grown gr5 (by have := HB6.out.size; simp; omega) (fun g hg => (HO6.out.lt g hg).1))
          go_roundw
          case rel => exact ⟨j + 1, by omega, by go_num, own_eq own5 (by rw [HEP.out, HP.out, List.length_append]; rfl) (by rw [HEP.out, HP.out, pv_append]; rfl), hb7⟩
          case measure => simp [intOf]; omega
    · obtain rfl : j = n + 1 := by omega
      go_wp2
      go_ret2
      exact ⟨_, rfl, HO.out.mono (by omega), HB.out.trans (HW.out.mono (by omega))⟩
end Go.Proofs.Ytlpdihcgdgkkbaa
