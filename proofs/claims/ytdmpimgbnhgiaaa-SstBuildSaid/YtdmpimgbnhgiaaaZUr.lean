/- Walk: a table tells a key's version. -/
import Derived.Test.YtdmpimgbnhgiaaaZEa
import Derived.Test.YtdmpimgbnhgiaaaZEh
import Derived.Test.YtdmpimgbnhgiaaaZUp
import Derived.LoopTactic

namespace Go.Proofs.Ytdmpimgbnhgiaaa
open Go.RowKit Go.St Go.Shelf Go.Maps
set_option linter.unusedVariables false
set_option linter.unusedSimpArgs false
set_option maxRecDepth 100000

set_option maxHeartbeats 3200000 in
theorem tsearch_any (n r : Nat) (x y : Value) (P : Nat → Bool) (hn : n < 4611686018427387904) (hr : r ≤ n) (h1 : ∀ t, t < r → P t = false) (h2 : ∀ t, r ≤ t → t < n → P t = true) (w : World)
    (hf : ∀ (i : Nat), i < n → ∀ W, Below w.heap.size w W → Calls Try.prog 57 #[.int .i64 i, x, y] W fun e w' => e = .returned (.bool (P i)) ∧ Below W.heap.size W w') :
    Calls Try.prog 56 #[.int .i64 n, .func (.func 57) #[] #[x, y]] w fun e w' => e = .returned (.int .i64 r) ∧ Below w.heap.size w w' := by
  have H1 := Lib.hid h1; have H2 := Lib.hid h2; have HF := Lib.hid hf
  clear h1 h2 hf
  go_enter Try.func56, Try.ntmps56
  go_wp2
  go_loopw [5, 6] (fun s s' wr => ∃ lo hi : Nat, s = .int .i64 lo ∧ s' = .int .i64 hi ∧ lo ≤ r ∧ r ≤ hi ∧ hi ≤ n ∧ Hid (Below w.heap.size w wr)) (fun s s' _ => (intOf s').toNat - (intOf s).toNat)
  case atStart => exact ⟨0, n, rfl, rfl, Nat.zero_le _, hr, Nat.le_refl _, Lib.hid (Below.refl _ _)⟩
  case round =>
    obtain ⟨lo, hi, rfl, rfl, hlr, hrh, hin, B1⟩ := hrel
    obtain ⟨w1, rfl⟩ : ∃ x, x = wr := ⟨_, rfl⟩
    by_cases hlt : lo < hi
    · have hc := HF.out ((lo + hi) / 2) (by omega) w1 B1.out
      rw [show (((lo + hi) / 2 : Nat) : Int) = ((lo : Int) + (hi : Int)) / 2 by omega] at hc
      by_cases hm : (lo + hi) / 2 < r
      · rw [H1.out _ hm] at hc
        have HC := Lib.hid hc
        clear hc
        go_wp2_with (go_at_call 57; refine HC.out.mono ?_; rintro e w' ⟨rfl, hb⟩; have B2 := Lib.hid (B1.out.trans (hb.mono B1.out.size)); clear hb)
        go_roundw
        case rel => exact ⟨(lo + hi) / 2 + 1, hi, by rw [show ((lo : Int) + (hi : Int)) / 2 + 1 = (((lo + hi) / 2 + 1 : Nat) : Int) by omega], rfl, by omega, hrh, hin, B2⟩
        case measure => simp [intOf]; omega
      · rw [H2.out _ (by omega) (by omega)] at hc
        have HC := Lib.hid hc
        clear hc
        go_wp2_with (go_at_call 57; refine HC.out.mono ?_; rintro e w' ⟨rfl, hb⟩; have B2 := Lib.hid (B1.out.trans (hb.mono B1.out.size)); clear hb)
        go_roundw
        case rel => exact ⟨lo, (lo + hi) / 2, rfl, by rw [show ((lo : Int) + (hi : Int)) / 2 = (((lo + hi) / 2 : Nat) : Int) by omega], hlr, by omega, by omega, B2⟩
        case measure => simp [intOf]; omega
    · have e1 : lo = r := by omega
      have e2 : hi = r := by omega
      subst e1 e2
      go_wp2
      go_ret
      exact ⟨rfl, B1.out⟩
section
variable {w : World} {tb : Nat} {Ab : Option Addr} {cb : Nat} {Ai : Option Addr} {ci : Nat} {Af : Option Addr} {cf : Nat} {p b : Nat} {l : List Ent} {X : List UInt8} {k : Nat}
set_option maxHeartbeats 3200000 in
theorem tclos_any (h : TbS w tb Ab cb Ai ci Af cf p b l X k) (hl2 : nch p l ≤ 150) (bt bw : Nat) (g : Ent) (hbt : BxV w bt [.pointer (some ⟨tb, 0, none⟩)]) (hbw : BxV w bw [.string g.key, .string g.val, .int .i64 g.seq, .bool g.del]) (i : Nat) (hi : i < nch p l) :
    Calls Try.prog 57 #[.int .i64 (i : Int), .pointer (some ⟨bt, 0, none⟩), .pointer (some ⟨bw, 0, none⟩)] w fun e w' => e = .returned (.bool (!(ltE (lxE p l i) g))) ∧ Below w.heap.size w w' := by
  have HAH : Hid (∀ W, Calls Try.prog 37 #[.agg #[.string (lstE (chk p l i)).key, .string { data := #[] }, .int .i64 (lstE (chk p l i)).seq, .bool false], .agg #[.string g.key, .string g.val, .int .i64 g.seq, .bool g.del]] W fun e w' => e = .returned (.bool (ltE (lxE p l i) g)) ∧ Below W.heap.size W w') := Lib.hid (fun W => ahead_any (lxE p l i) g W)
  have c1 := h.x.c 1 _ rfl
  have hl := h.x.lt
  obtain ⟨lb, lo, rfl, hlb, hpl⟩ := pl_at h.ri.rd hi
  obtain ⟨f0, f1, f2, f3, f4, f5⟩ := hpl
  unfold zB at f3
  have d0 := hbt.c 0 _ rfl
  have dl := hbt.lt
  have g0 := hbw.c 0 _ rfl
  have g1 := hbw.c 1 _ rfl
  have g2 := hbw.c 2 _ rfl
  have g3 := hbw.c 3 _ rfl
  have gl := hbw.lt
  have i0 : (0 : Int) ≤ (i : Int) := by omega
  have i1 : (i : Int) < (nch p l : Nat) := by omega
  clear h hbt hbw f0 f1
  generalize ltE (lxE p l i) g = v at *
  generalize (lstE (chk p l i)).key = Km at *
  generalize (lstE (chk p l i)).seq = sm at *
  obtain ⟨gk, gv, gs, gd⟩ := g
  dsimp only at g0 g1 g2 g3 HAH
  go_enter Try.func57, Try.ntmps57
  go_wp2_with fail
  refine wp_qall (by kernel_rfl) (by kernel_rfl) ?_
  intro hcg
  repeat (first | go_big_quiet_step ((with_reducible exact Calls.reg (HAH.out _))) | quiet_step ((with_reducible exact Calls.reg (HAH.out _))))
  refine wpQuiet_nil ?_
  intro wq hbwq hcwq hfwq
  clear hcg
  clear hcwq hfwq
  go_wp2_with fail
  go_ret
  exact ⟨rfl, hbwq⟩
end
end Go.Proofs.Ytdmpimgbnhgiaaa

namespace Go.Proofs.Ytdmpimgbnhgiaaa
open Go.RowKit Go.St Go.Shelf Go.Maps
set_option linter.unusedVariables false
set_option linter.unusedSimpArgs false
set_option maxRecDepth 100000

theorem Ent.z_v : Ent.z.v = .agg #[.string { data := #[] }, .string { data := #[] }, .int .i64 0, .bool false] := rfl
set_option maxHeartbeats 3200000 in
theorem get_no (v : Value) (key : ByteArray) (seq : Int) (w : World) (h : NoS w v) : Calls Try.prog 18 #[v, .string key, .int .i64 seq] w fun e w' => e = .returned (.tuple #[.agg #[.string { data := #[] }, .string { data := #[] }, .int .i64 0, .bool false], .bool false, .int .i64 1]) ∧ Below w.heap.size w w' := by
  obtain ⟨pa, rfl⟩ : ∃ pa, v = .pointer pa := by cases h <;> exact ⟨_, rfl⟩
  have H := Lib.hid h
  clear h
  go_enter Try.func18, Try.ntmps18
  go_wp2_with fail
  have X1 := Lib.hid ((BxV.new w #[.pointer pa] 36).alloc (.cells #[.string { data := #[] }, .string { data := #[] }, .int .i64 0, .bool false] 40))
  have X2 := BxV.new (w.alloc (.cells #[.pointer pa] 36)) #[.string { data := #[] }, .string { data := #[] }, .int .i64 0, .bool false] 40
  rw [World.size_alloc] at X2
  have X2 := Lib.hid X2
  have B1 : Hid (Below w.heap.size w ((w.alloc (.cells #[.pointer pa] 36)).alloc (.cells #[.string { data := #[] }, .string { data := #[] }, .int .i64 0, .bool false] 40))) := Lib.hid (((Below.refl _ _).alloc (Nat.le_refl _) _).alloc (by simp) _)
  have H1 : Hid (NoS ((w.alloc (.cells #[.pointer pa] 36)).alloc (.cells #[.string { data := #[] }, .string { data := #[] }, .int .i64 0, .bool false] 40)) (.pointer pa)) := Lib.hid (H.out.next B1.out)
  obtain ⟨bt1, hbt1⟩ : ∃ x, x = w.heap.size + 1 := ⟨_, rfl⟩
  rw [← hbt1] at X2 ⊢
  have hlt1 : w.heap.size ≤ bt1 := by omega
  clear hbt1 H
  generalize (w.alloc (.cells #[.pointer pa] 36)).alloc (.cells #[.string { data := #[] }, .string { data := #[] }, .int .i64 0, .bool false] 40) = w1 at *
  refine (none_no (.pointer pa) w1 H1.out).mono ?_
  rintro e w2 ⟨rfl, hb⟩
  have X9 := Lib.hid (X2.out.next hb)
  have B9 := Lib.hid (B1.out.trans (hb.mono B1.out.size))
  clear hb X1 X2 B1 H1
  have q0 := X9.out.c 0 _ rfl
  have q1 := X9.out.c 1 _ rfl
  have q2 := X9.out.c 2 _ rfl
  have q3 := X9.out.c 3 _ rfl
  have qf := X9.out.fz
  go_wp2_with fail
  change bodyPost _ _ _ _ _ (World.setCells w2 bt1 0 [.string { data := #[] }, .string { data := #[] }, .int .i64 0, .bool false])
  have RB := (X9.out.set [.string { data := #[] }, .string { data := #[] }, .int .i64 0, .bool false] rfl)
  have r0 := RB.c 0 _ rfl
  have r1 := RB.c 1 _ rfl
  have r2 := RB.c 2 _ rfl
  have r3 := RB.c 3 _ rfl
  have BZ := bel_setCells hlt1 [.string { data := #[] }, .string { data := #[] }, .int .i64 0, .bool false] 0 _ B9.out
  generalize World.setCells w2 bt1 0 [.string { data := #[] }, .string { data := #[] }, .int .i64 0, .bool false] = wz at *
  exact bodyPost_ret (v := .tuple #[.agg #[.string { data := #[] }, .string { data := #[] }, .int .i64 0, .bool false], .bool false, .int .i64 1]) (by simp [results, Try.results18, go_sem, r0, r1, r2, r3]) rfl ⟨rfl, BZ⟩
/-- What Get answers: the entry, whether there is one, the error, how many blocks were read. -/
def gtV (bad : Nat → Bool) (p b : Nat) (l : List Ent) (key : ByteArray) (seq : Int) (r : Nat) : Ent × Bool × Int × Nat :=
  if hasB (fltB b l) key.data.toList = false ∨ r = nch p l then (Ent.z, false, 0, 0)
  else if bad r then (Ent.z, false, 6, 1) else (fndE (chk p l r) key seq, isE (chk p l r) key seq, 0, 1)
section
variable {w : World} {tb : Nat} {Ab : Option Addr} {cb : Nat} {Ai : Option Addr} {ci : Nat} {Af : Option Addr} {cf : Nat} {p b : Nat} {l : List Ent} {X : List UInt8} {k : Nat}
set_option maxHeartbeats 6400000 in
theorem get_any (bad : Nat → Bool) (hp : 1 ≤ p ∧ p ≤ 64) (hbt : 1 ≤ b ∧ b ≤ 16) (hl1 : 1 ≤ l.length) (hl2 : l.length ≤ 150) (hok : ∀ x ∈ l, okE x = true) (hris : risE l = true) (hbk : BkS bad p l X) (key : ByteArray) (hks : key.size ≤ 9223372036854775807) (seq : Int) (r : Nat) (hr : r ≤ nch p l)
    (h1 : ∀ t, t < r → ltE (lxE p l t) ⟨key, zB, seq, false⟩ = true) (h2 : ∀ t, r ≤ t → t < nch p l → ltE (lxE p l t) ⟨key, zB, seq, false⟩ = false) (hk : k ≤ 1000000) (h : TbS w tb Ab cb Ai ci Af cf p b l X k) :
    Calls Try.prog 18 #[.pointer (some ⟨tb, 0, none⟩), .string key, .int .i64 seq] w fun e w' => e = .returned (.tuple #[(gtV bad p b l key seq r).1.v, .bool (gtV bad p b l key seq r).2.1, .int .i64 (gtV bad p b l key seq r).2.2.1]) ∧ TbS w' tb Ab cb Ai ci Af cf p b l X (k + (gtV bad p b l key seq r).2.2.2) ∧ OthB w.heap.size tb w w' := by
  obtain ⟨G, hG⟩ : ∃ G, G = gtV bad p b l key seq r := ⟨_, rfl⟩
  rw [← hG]
  have HG := Lib.hid hG
  have HT := Lib.hid h
  have hnl := nch_le hp.1 l
  have hfl := flt_len hbt.2 hl2
  have htb := h.x.lt
  have H1 := Lib.hid h1
  have H2 := Lib.hid h2
  have HRD := Lib.hid (fun (W : World) (i : Nat) (hi : i < nch p l) => tread_any (w := W) (tb := tb) (Ab := Ab) (cb := cb) (Ai := Ai) (ci := ci) (Af := Af) (cf := cf) (b := b) (k := k) bad hp hl1 hl2 hok hris hbk i hi hk)
  have HRS : Hid (∀ j, risE (chk p l j) = true) := Lib.hid (fun j => chk_ris j hris)
  clear h hG h1 h2 hok hris hbk
  go_enter Try.func18, Try.ntmps18
  go_wp2_with fail
  have X1 := Lib.hid ((BxV.new w #[.pointer (some ⟨tb, 0, none⟩)] 36).alloc (.cells #[.string { data := #[] }, .string { data := #[] }, .int .i64 0, .bool false] 40))
  have X2 := BxV.new (w.alloc (.cells #[.pointer (some ⟨tb, 0, none⟩)] 36)) #[.string { data := #[] }, .string { data := #[] }, .int .i64 0, .bool false] 40
  rw [World.size_alloc] at X2
  have X2 := Lib.hid X2
  have B1 : Hid (Below w.heap.size w ((w.alloc (.cells #[.pointer (some ⟨tb, 0, none⟩)] 36)).alloc (.cells #[.string { data := #[] }, .string { data := #[] }, .int .i64 0, .bool false] 40))) := Lib.hid (((Below.refl _ _).alloc (Nat.le_refl _) _).alloc (by simp) _)
  obtain ⟨bt1, hbt1⟩ : ∃ x, x = w.heap.size + 1 := ⟨_, rfl⟩
  obtain ⟨bt0, hbt0⟩ : ∃ x, x = w.heap.size := ⟨_, rfl⟩
  rw [← hbt1] at X2 ⊢
  rw [← hbt0] at ⊢
  have hle0 : bt0 ≤ w.heap.size := by omega
  have hlt1 : w.heap.size ≤ bt1 := by omega
  have hlt0 : w.heap.size ≤ bt0 := by omega
  generalize (w.alloc (.cells #[.pointer (some ⟨tb, 0, none⟩)] 36)).alloc (.cells #[.string { data := #[] }, .string { data := #[] }, .int .i64 0, .bool false] 40) = w1 at *
  have T1 := Lib.hid (HT.out.next B1.out)
  have OT1 : Hid (OthB w.heap.size tb w w1) := Lib.hid (OthB.of_below B1.out)
  rw [← hbt0] at X1
  have htb0 : tb < bt0 := by omega
  have htb1 : tb < bt1 := by omega
  clear B1 hbt0 hbt1 htb
  refine (none_yes T1.out).mono ?_
  rintro e w2 ⟨rfl, hb⟩
  have T2 := Lib.hid (T1.out.next hb)
  have OT2 := Lib.hid (OT1.out.next (hb.mono (by have := OT1.out.size; omega)))
  have X02 := Lib.hid (X1.out.next hb)
  have X92 := Lib.hid (X2.out.next hb)
  clear hb X1 X2 T1 OT1
  have d0 := X02.out.c 0 _ rfl
  have dl := X02.out.lt
  have c2 := T2.out.x.c 2 _ rfl
  have cl := T2.out.x.lt
  go_wp2_with fail
  refine (has_any Af (fltB b l).length cf w2.heap.size (fltB b l) rfl (by omega) key hks w2 T2.out.rf.rd).mono ?_
  rintro e _ ⟨rfl, rfl⟩
  obtain ⟨has, hhas⟩ : ∃ has, has = hasB (fltB b l) key.data.toList := ⟨_, rfl⟩
  rw [← hhas]
  have HHAS := Lib.hid hhas
  clear hhas c2
  go_upto_region 5 with (fail)
  have ha : Below w2.heap.size w2 (w2.alloc (.cells #[.string key, .string { data := #[] }, .int .i64 seq, .bool false] 40)) := (Below.refl _ _).alloc (Nat.le_refl _) _
  have XW3 : Hid (BxV (w2.alloc (.cells #[.string key, .string { data := #[] }, .int .i64 seq, .bool false] 40)) w2.heap.size [.string key, .string { data := #[] }, .int .i64 seq, .bool false]) := Lib.hid (BxV.new w2 _ _)
  have T3 := Lib.hid (T2.out.next ha)
  have X03 := Lib.hid (X02.out.next ha)
  have X93 := Lib.hid (X92.out.next ha)
  have OT3 := Lib.hid (OT2.out.next (ha.mono (by have := OT2.out.size; omega)))
  clear ha T2 X02 X92 OT2 d0 dl cl
  generalize w2.alloc (.cells #[.string key, .string { data := #[] }, .int .i64 seq, .bool false] 40) = w3 at *
  generalize w2.heap.size = bw at *
  have HS := Lib.hid (tsearch_any (nch p l) r (.pointer (some ⟨bt0, 0, none⟩)) (.pointer (some ⟨bw, 0, none⟩)) (fun t => !(ltE (lxE p l t) ⟨key, zB, seq, false⟩)) (by omega) hr (fun t ht => by rw [H1.out t ht]; rfl) (fun t h3 h4 => by rw [H2.out t h3 h4]; rfl) w3 (fun i hi W hb => tclos_any (T3.out.next hb) (by omega) bt0 bw ⟨key, zB, seq, false⟩ (X03.out.next hb) (XW3.out.next hb) i hi))
  have d0 := X03.out.c 0 _ rfl
  have dl := X03.out.lt
  have c1 := T3.out.x.c 1 _ rfl
  have cl := T3.out.x.lt
  clear H1 H2 XW3
  go_wp2_with fail
  refine HS.out.mono ?_
  rintro e w4 ⟨rfl, hb⟩
  have T4 := Lib.hid (T3.out.next hb)
  have X04 := Lib.hid (X03.out.next hb)
  have X94 := Lib.hid (X93.out.next hb)
  have OT4 := Lib.hid (OT3.out.next (hb.mono (by have := OT3.out.size; omega)))
  clear hb HS T3 X03 X93 OT3 d0 dl c1 cl
  have d0 := X04.out.c 0 _ rfl
  have dl := X04.out.lt
  have c1 := T4.out.x.c 1 _ rfl
  have cl := T4.out.x.lt
  cases has
  · have SEQ : Hid (G = (Ent.z, false, 0, 0)) := Lib.hid (by rw [HG.out]; unfold gtV; rw [if_pos (.inl HHAS.out.symm)])
    have X9 := X94
    have T9 := T4
    have OT9 := OT4
    have q0 := X94.out.c 0 _ rfl
    have q1 := X94.out.c 1 _ rfl
    have q2 := X94.out.c 2 _ rfl
    have q3 := X94.out.c 3 _ rfl
    have qf := X94.out.fz
    go_wp2_with fail
    change bodyPost _ _ _ _ _ (World.setCells w4 bt1 0 [.string { data := #[] }, .string { data := #[] }, .int .i64 0, .bool false])
    have RB := (X9.out.set [.string { data := #[] }, .string { data := #[] }, .int .i64 0, .bool false] rfl)
    have r0 := RB.c 0 _ rfl
    have r1 := RB.c 1 _ rfl
    have r2 := RB.c 2 _ rfl
    have r3 := RB.c 3 _ rfl
    have OZ := OT9.out.next (bel_setCells hlt1 [.string { data := #[] }, .string { data := #[] }, .int .i64 0, .bool false] 0 _ (Below.refl _ _))
    have XZ := T9.out.x.other (show bt1 ≠ tb by omega) 0 [.string { data := #[] }, .string { data := #[] }, .int .i64 0, .bool false]
    generalize World.setCells w4 bt1 0 [.string { data := #[] }, .string { data := #[] }, .int .i64 0, .bool false] = wz at *
    refine bodyPost_ret (v := .tuple #[.agg #[.string { data := #[] }, .string { data := #[] }, .int .i64 0, .bool false], .bool false, .int .i64 0]) (by simp [results, Try.results18, go_sem, r0, r1, r2, r3]) rfl ?_
    rw [SEQ.out]
    exact ⟨rfl, HT.out.oth OZ XZ, OZ⟩
  by_cases hrn : r = nch p l
  · have SEQ : Hid (G = (Ent.z, false, 0, 0)) := Lib.hid (by rw [HG.out]; unfold gtV; rw [if_pos (.inr hrn)])
    have e1 : ((r : Int) == ((nch p l : Nat) : Int)) = true := by rw [beq_iff_eq]; omega
    have X9 := X94
    have T9 := T4
    have OT9 := OT4
    have q0 := X94.out.c 0 _ rfl
    have q1 := X94.out.c 1 _ rfl
    have q2 := X94.out.c 2 _ rfl
    have q3 := X94.out.c 3 _ rfl
    have qf := X94.out.fz
    clear hrn
    go_wp2_with fail
    change bodyPost _ _ _ _ _ (World.setCells w4 bt1 0 [.string { data := #[] }, .string { data := #[] }, .int .i64 0, .bool false])
    have RB := (X9.out.set [.string { data := #[] }, .string { data := #[] }, .int .i64 0, .bool false] rfl)
    have r0 := RB.c 0 _ rfl
    have r1 := RB.c 1 _ rfl
    have r2 := RB.c 2 _ rfl
    have r3 := RB.c 3 _ rfl
    have OZ := OT9.out.next (bel_setCells hlt1 [.string { data := #[] }, .string { data := #[] }, .int .i64 0, .bool false] 0 _ (Below.refl _ _))
    have XZ := T9.out.x.other (show bt1 ≠ tb by omega) 0 [.string { data := #[] }, .string { data := #[] }, .int .i64 0, .bool false]
    generalize World.setCells w4 bt1 0 [.string { data := #[] }, .string { data := #[] }, .int .i64 0, .bool false] = wz at *
    refine bodyPost_ret (v := .tuple #[.agg #[.string { data := #[] }, .string { data := #[] }, .int .i64 0, .bool false], .bool false, .int .i64 0]) (by simp [results, Try.results18, go_sem, r0, r1, r2, r3]) rfl ?_
    rw [SEQ.out]
    exact ⟨rfl, HT.out.oth OZ XZ, OZ⟩
  have e1 : ((r : Int) == ((nch p l : Nat) : Int)) = false := by rw [beq_eq_false_iff_ne]; omega
  have hrN : r < nch p l := by omega
  have HR := Lib.hid (HRD.out w4 r hrN T4.out)
  have HG2 : Hid (G = if bad r then (Ent.z, false, 6, 1) else (fndE (chk p l r) key seq, isE (chk p l r) key seq, 0, 1)) := Lib.hid (by
    rw [HG.out]
    unfold gtV
    rw [if_neg]
    rintro (h | h)
    · rw [← HHAS.out] at h
      cases h
    · exact hrn h)
  clear hrn HG HHAS
  go_wp2_with fail
  refine HR.out.mono ?_
  rintro e w5 ⟨A5, c5, rfl, own5, t5, ot5⟩
  have X05 := Lib.hid (ot5.bxv X04.out X04.out.lt (by omega))
  have X95 := Lib.hid (ot5.bxv X94.out X94.out.lt (by omega))
  have T5 := Lib.hid t5
  have OT5 := Lib.hid (OT4.out.trans (ot5.mono (by have := OT4.out.size; omega)))
  have O5 := Lib.hid own5
  have hz45 := ot5.size
  clear own5 t5 ot5 HR T4 X04 X94 OT4 d0 dl c1 cl HRD
  have q0 := X95.out.c 0 _ rfl
  have q1 := X95.out.c 1 _ rfl
  have q2 := X95.out.c 2 _ rfl
  have q3 := X95.out.c 3 _ rfl
  have qf := X95.out.fz
  cases hb : bad r
  case true =>
    rw [show rdKE bad r = 6 by unfold rdKE; rw [hb]; rfl]
    have SEQ : Hid (G = (Ent.z, false, 6, 1)) := Lib.hid (by rw [HG2.out, hb]; rfl)
    have X9 := X95
    have T9 := T5
    have OT9 := OT5
    clear hb HG2
    go_wp2_with fail
    change bodyPost _ _ _ _ _ (World.setCells w5 bt1 0 [.string { data := #[] }, .string { data := #[] }, .int .i64 0, .bool false])
    have RB := (X9.out.set [.string { data := #[] }, .string { data := #[] }, .int .i64 0, .bool false] rfl)
    have r0 := RB.c 0 _ rfl
    have r1 := RB.c 1 _ rfl
    have r2 := RB.c 2 _ rfl
    have r3 := RB.c 3 _ rfl
    have OZ := OT9.out.next (bel_setCells hlt1 [.string { data := #[] }, .string { data := #[] }, .int .i64 0, .bool false] 0 _ (Below.refl _ _))
    have XZ := T9.out.x.other (show bt1 ≠ tb by omega) 0 [.string { data := #[] }, .string { data := #[] }, .int .i64 0, .bool false]
    generalize World.setCells w5 bt1 0 [.string { data := #[] }, .string { data := #[] }, .int .i64 0, .bool false] = wz at *
    refine bodyPost_ret (v := .tuple #[.agg #[.string { data := #[] }, .string { data := #[] }, .int .i64 0, .bool false], .bool false, .int .i64 6]) (by simp [results, Try.results18, go_sem, r0, r1, r2, r3]) rfl ?_
    rw [SEQ.out]
    exact ⟨rfl, HT.out.oth OZ XZ, OZ⟩
  have hrd : rdK bad p l r = chk p l r := by unfold rdK; rw [hb]; rfl
  rw [show rdKE bad r = 0 by unfold rdKE; rw [hb]; rfl, hrd]
  have hcl := chk_len p l r
  rw [hrd] at O5
  have HFD := find_any A5 (chk p l r).length c5 (chk p l r) rfl (by omega) (HRS.out r) key seq w5.heap.size w5 (own_rdL O5.out) (Nat.le_refl _)
  obtain ⟨x, hx⟩ : ∃ x, x = fndE (chk p l r) key seq := ⟨_, rfl⟩
  obtain ⟨iv, hiv⟩ : ∃ iv, iv = isE (chk p l r) key seq := ⟨_, rfl⟩
  rw [← hx, ← hiv] at HFD
  unfold Ent.v at HFD
  have HFD := Lib.hid HFD
  have SEQ : Hid (G = (x, iv, 0, 1)) := Lib.hid (by rw [HG2.out, hb, hx, hiv]; rfl)
  clear hrd hx hiv hb HG2 O5 hcl
  go_wp2_with fail
  refine HFD.out.mono ?_
  rintro e w6 ⟨rfl, hb⟩
  have X96 := Lib.hid (X95.out.next hb)
  have T6 := Lib.hid (T5.out.next hb)
  have OT6 := Lib.hid (OT5.out.next (hb.mono (by have := OT5.out.size; omega)))
  clear hb HFD q0 q1 q2 q3 qf X05 X95 T5 OT5
  go_upto_region 12 with (fail)
  have ha : Below w6.heap.size w6 (w6.alloc (.cells #[.string x.key, .string x.val, .int .i64 x.seq, .bool x.del] 40)) := (Below.refl _ _).alloc (Nat.le_refl _) _
  have XX7 : Hid (BxV (w6.alloc (.cells #[.string x.key, .string x.val, .int .i64 x.seq, .bool x.del] 40)) w6.heap.size [.string x.key, .string x.val, .int .i64 x.seq, .bool x.del]) := Lib.hid (BxV.new w6 _ _)
  have X9 := Lib.hid (X96.out.next ha)
  have T9 := Lib.hid (T6.out.next ha)
  have OT9 := Lib.hid (OT6.out.next (ha.mono (by have := OT6.out.size; omega)))
  clear ha X96 T6 OT6
  generalize w6.alloc (.cells #[.string x.key, .string x.val, .int .i64 x.seq, .bool x.del] 40) = w7 at *
  have f0 := XX7.out.c 0 _ rfl
  have f1 := XX7.out.c 1 _ rfl
  have f2 := XX7.out.c 2 _ rfl
  have f3 := XX7.out.c 3 _ rfl
  have fl := XX7.out.lt
  have q0 := X9.out.c 0 _ rfl
  have q1 := X9.out.c 1 _ rfl
  have q2 := X9.out.c 2 _ rfl
  have q3 := X9.out.c 3 _ rfl
  have qf := X9.out.fz
  go_wp2_with fail
  change bodyPost _ _ _ _ _ (World.setCells w7 bt1 0 [.string x.key, .string x.val, .int .i64 x.seq, .bool x.del])
  have RB := (X9.out.set [.string x.key, .string x.val, .int .i64 x.seq, .bool x.del] rfl)
  have r0 := RB.c 0 _ rfl
  have r1 := RB.c 1 _ rfl
  have r2 := RB.c 2 _ rfl
  have r3 := RB.c 3 _ rfl
  have OZ := OT9.out.next (bel_setCells hlt1 [.string x.key, .string x.val, .int .i64 x.seq, .bool x.del] 0 _ (Below.refl _ _))
  have XZ := T9.out.x.other (show bt1 ≠ tb by omega) 0 [.string x.key, .string x.val, .int .i64 x.seq, .bool x.del]
  generalize World.setCells w7 bt1 0 [.string x.key, .string x.val, .int .i64 x.seq, .bool x.del] = wz at *
  refine bodyPost_ret (v := .tuple #[.agg #[.string x.key, .string x.val, .int .i64 x.seq, .bool x.del], .bool iv, .int .i64 0]) (by simp [results, Try.results18, go_sem, r0, r1, r2, r3]) rfl ?_
  rw [SEQ.out]
  exact ⟨rfl, HT.out.oth OZ XZ, OZ⟩
end
end Go.Proofs.Ytdmpimgbnhgiaaa
