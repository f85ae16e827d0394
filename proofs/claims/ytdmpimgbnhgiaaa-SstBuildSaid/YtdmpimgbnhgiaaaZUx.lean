/- Walk: small lists. Plain law: what a table tells. -/
import Derived.Test.YtdmpimgbnhgiaaaZEf
import Derived.Test.YtdmpimgbnhgiaaaZEg
import Derived.Test.YtdmpimgbnhgiaaaZUt

namespace Go.Proofs.Ytdmpimgbnhgiaaa
open Go.RowKit Go.St Go.Shelf Go.Maps
set_option linter.unusedVariables false
set_option linter.unusedSimpArgs false
set_option maxRecDepth 100000

/-- What a scan tells from block i on: the entries, the error, how many blocks were read. -/
def scG (bad : Nat → Bool) (p : Nat) (l : List Ent) (fr to_ : ByteArray) : Nat → Nat → List Ent × Int × Nat
  | 0, _ => ([], 0, 0)
  | m + 1, i => if klt (lstE (chk p l i)).key fr = true then scG bad p l fr to_ m (i + 1)
    else if bad i = true then ([], 6, 1)
    else if to_.toList.isEmpty = false ∧ klt (lstE (chk p l i)).key to_ = false then ((chk p l i).filter (fun x => inS fr to_ x.key), 0, 1)
    else ((chk p l i).filter (fun x => inS fr to_ x.key) ++ (scG bad p l fr to_ m (i + 1)).1, (scG bad p l fr to_ m (i + 1)).2.1, (scG bad p l fr to_ m (i + 1)).2.2 + 1)
def scC (out : List Ent) (r : Nat) (G : List Ent × Int × Nat) : List Ent × Int × Nat := (if G.2.1 = 0 then out ++ G.1 else [], G.2.1, r + G.2.2)
def scT (bad : Nat → Bool) (p : Nat) (l : List Ent) (fr to_ : ByteArray) : List Ent × Int × Nat := scC [] 0 (scG bad p l fr to_ (nch p l) 0)
theorem scC_skip {bad : Nat → Bool} {p : Nat} {l : List Ent} {fr to_ : ByteArray} {out : List Ent} {r m i : Nat} (h : klt (lstE (chk p l i)).key fr = true) : scC out r (scG bad p l fr to_ (m + 1) i) = scC out r (scG bad p l fr to_ m (i + 1)) := by rw [scG, if_pos h]
theorem scC_bad {bad : Nat → Bool} {p : Nat} {l : List Ent} {fr to_ : ByteArray} {out : List Ent} {r m i : Nat} (h : klt (lstE (chk p l i)).key fr = false) (hb : bad i = true) : scC out r (scG bad p l fr to_ (m + 1) i) = ([], 6, r + 1) := by
  rw [scG, if_neg (by rw [h]; decide), if_pos hb]
  rfl
theorem scC_end {bad : Nat → Bool} {p : Nat} {l : List Ent} {fr to_ : ByteArray} {out : List Ent} {r m i : Nat} (h : klt (lstE (chk p l i)).key fr = false) (hb : bad i = false) (h2 : to_.toList.isEmpty = false ∧ klt (lstE (chk p l i)).key to_ = false) : scC out r (scG bad p l fr to_ (m + 1) i) = (out ++ (chk p l i).filter (fun x => inS fr to_ x.key), 0, r + 1) := by
  rw [scG, if_neg (by rw [h]; decide), if_neg (by rw [hb]; decide), if_pos h2]
  rfl
theorem scC_on {bad : Nat → Bool} {p : Nat} {l : List Ent} {fr to_ : ByteArray} {out : List Ent} {r m i : Nat} (h : klt (lstE (chk p l i)).key fr = false) (hb : bad i = false) (h2 : ¬ (to_.toList.isEmpty = false ∧ klt (lstE (chk p l i)).key to_ = false)) : scC out r (scG bad p l fr to_ (m + 1) i) = scC (out ++ (chk p l i).filter (fun x => inS fr to_ x.key)) (r + 1) (scG bad p l fr to_ m (i + 1)) := by
  rw [scG, if_neg (by rw [h]; decide), if_neg (by rw [hb]; decide), if_neg h2]
  unfold scC
  dsimp only
  split
  · rw [List.append_assoc, Nat.add_assoc, Nat.add_comm 1]
  · rw [Nat.add_assoc, Nat.add_comm 1]
theorem filt_one {α : Type} (P : α → Bool) (x : α) : [x].filter P = if P x = true then [x] else [] := by
  simp [List.filter_cons]
theorem GrT.next {w w' w'' : World} {v v' : Value} (h : GrT w v w' v') (hb : Below w'.heap.size w' w'') : GrT w v w'' v' :=
  ⟨⟨hb.os.trans h.gr.os, hb.tape.trans h.gr.tape, hb.output.trans h.gr.output, Nat.le_trans h.gr.size hb.size, fun k hk hne => (hb.block k (Nat.lt_of_lt_of_le hk h.gr.size)).trans (h.gr.block k hk hne)⟩, h.own⟩
section
variable {w : World} {tb : Nat} {Ab : Option Addr} {cb : Nat} {Ai : Option Addr} {ci : Nat} {Af : Option Addr} {cf : Nat} {p b : Nat} {l : List Ent} {X : List UInt8} {k : Nat}
set_option maxHeartbeats 6400000 in
theorem scan_any (bad : Nat → Bool) (hp : 1 ≤ p ∧ p ≤ 64) (hl1 : 1 ≤ l.length) (hl2 : l.length ≤ 150) (hok : ∀ x ∈ l, okE x = true) (hris : risE l = true) (hbk : BkS bad p l X) (fr to_ : ByteArray) (hk : k ≤ 900000) (h : TbS w tb Ab cb Ai ci Af cf p b l X k) :
    Calls Try.prog 20 #[.pointer (some ⟨tb, 0, none⟩), .agg #[.string fr, .string to_]] w fun e w' => ∃ A c, e = .returned (.tuple #[.slice A (scT bad p l fr to_).1.length c, .int .i64 (scT bad p l fr to_).2.1]) ∧ w'.ownsRow w.heap.size 40 4 (.slice A (scT bad p l fr to_).1.length c) (scT bad p l fr to_).1.length (env (scT bad p l fr to_).1) ∧ TbS w' tb Ab cb Ai ci Af cf p b l X (k + (scT bad p l fr to_).2.2) ∧ OthB w.heap.size tb w w' := by
  obtain ⟨G, hG⟩ : ∃ G, G = scT bad p l fr to_ := ⟨_, rfl⟩
  rw [← hG]
  have HG := Lib.hid hG
  have HT := Lib.hid h
  have hnl := nch_le hp.1 l
  have htb := h.x.lt
  have HRD := Lib.hid (fun (W : World) (k' i : Nat) (hi : i < nch p l) (hk' : k' ≤ 1000000) => tread_any (w := W) (tb := tb) (Ab := Ab) (cb := cb) (Ai := Ai) (ci := ci) (Af := Af) (cf := cf) (b := b) (k := k') bad hp hl1 hl2 hok hris hbk i hi hk')
  clear h hG hok hris hbk
  obtain ⟨N, hN⟩ : ∃ N, N = nch p l := ⟨_, rfl⟩
  have HN := Lib.hid hN
  rw [← hN] at hnl
  clear hN
  go_enter Try.func20, Try.ntmps20
  go_wp2_with fail
  have SB1 : Hid (BxV (w.alloc (.cells #[.string fr, .string to_] 47)) w.heap.size [.string fr, .string to_]) := Lib.hid (BxV.new w _ _)
  have ha : Below w.heap.size w (w.alloc (.cells #[.string fr, .string to_] 47)) := (Below.refl _ _).alloc (Nat.le_refl _) _
  have T1 := Lib.hid (HT.out.next ha)
  have OT1 : Hid (OthB w.heap.size tb w (w.alloc (.cells #[.string fr, .string to_] 47))) := Lib.hid (OthB.of_below ha)
  clear ha
  generalize w.alloc (.cells #[.string fr, .string to_] 47) = w1 at *
  obtain ⟨sb, hsb⟩ : ∃ x, x = w.heap.size := ⟨_, rfl⟩
  rw [← hsb] at SB1 OT1 ⊢
  have hsb1 : sb ≤ w.heap.size := by omega
  have hsb2 : w.heap.size ≤ sb := by omega
  have htb1 : tb < sb := by omega
  clear hsb htb
  refine (none_yes T1.out).mono ?_
  rintro e w2 ⟨rfl, hb⟩
  have T2 := Lib.hid (T1.out.next hb)
  have SB2 := Lib.hid (SB1.out.next hb)
  have OT2 := Lib.hid (OT1.out.next (hb.mono (by have := SB1.out.lt; omega)))
  clear hb T1 SB1 OT1
  have c1 := T2.out.x.c 1 _ rfl
  rw [← HN.out] at c1
  have cl := T2.out.x.lt
  go_wp2_with fail
  clear c1 cl
  go_loopw [6, 20] (fun s6 s20 wr => ∃ (Ao : Option Addr) (co i r : Nat) (out : List Ent), s6 = .slice Ao out.length co ∧ s20 = .int .i64 (i : Int) ∧ i ≤ N ∧ r ≤ i ∧ out.length ≤ i * 64 ∧ Hid (wr.ownsRow (sb + 1) 40 4 (.slice Ao out.length co) out.length (env out)) ∧ Hid (BxV wr sb [.string fr, .string to_]) ∧ Hid (TbS wr tb Ab cb Ai ci Af cf p b l X (k + r)) ∧ Hid (OthB sb tb w wr) ∧ Hid (G = scC out r (scG bad p l fr to_ (N - i) i))) (fun _ s20 _ => N - (intOf s20).toNat)
  case atStart => exact ⟨none, 0, 0, 0, [], rfl, rfl, Nat.zero_le _, Nat.le_refl _, Nat.zero_le _, Lib.hid (World.ownsRow_nil _ _ _ _), SB2, T2, OT2, Lib.hid (by rw [HG.out, HN.out]; rfl)⟩
  case round =>
    clear SB2 T2 OT2
    obtain ⟨Ao, co, i, r, out, rfl, rfl, hi, hri, hol, OO, SB, T3, OT, GG⟩ := hrel
    obtain ⟨w3, rfl⟩ : ∃ x, x = wr := ⟨_, rfl⟩
    by_cases hlt : i < N
    · have hiN : i < nch p l := by rw [← HN.out]; exact hlt
      obtain ⟨lb, lo, hAi, hlb, hpl⟩ := pl_at T3.out.ri.rd hiN
      subst hAi
      obtain ⟨f0, f1, f2, f3, f4, f5⟩ := hpl
      unfold zB at f3
      have HR := Lib.hid (HRD.out w3 (k + r) i hiN (by omega) T3.out)
      have GG2 : Hid (G = scC out r (scG bad p l fr to_ ((N - (i + 1)) + 1) i)) := Lib.hid (by rw [GG.out, show N - i = (N - (i + 1)) + 1 by omega])
      have HCL : Hid ((chk p l i).length ≤ 64) := Lib.hid (by rw [chk_len]; omega)
      obtain ⟨Km, hKm⟩ : ∃ Km, Km = (lstE (chk p l i)).key := ⟨_, rfl⟩
      obtain ⟨oL, hoL⟩ : ∃ oL, oL = ((outP p l i).length : Int) := ⟨_, rfl⟩
      obtain ⟨bL, hbL⟩ : ∃ bL, bL = ((blkF (chk p l i)).length : Int) := ⟨_, rfl⟩
      obtain ⟨sm, hsm⟩ : ∃ sm, sm = (lstE (chk p l i)).seq := ⟨_, rfl⟩
      rw [← hoL] at f0
      rw [← hbL] at f1
      rw [← hKm] at f2
      rw [← hsm] at f4
      have HKM := Lib.hid hKm
      clear hKm hoL hbL hsm GG
      have s0 := SB.out.c 0 _ rfl
      have sl := SB.out.lt
      have i0 : (0 : Int) ≤ (i : Int) := by omega
      have i1 : (i : Int) < (N : Int) := by omega
      have ha : Below w3.heap.size w3 (w3.alloc (.cells #[.int .i64 oL, .int .i64 bL, .string Km, .string { data := #[] }, .int .i64 sm, .bool false] 93)) := (Below.refl _ _).alloc (Nat.le_refl _) _
      have hsb3 : sb < w3.heap.size := SB.out.lt
      have OO4 := Lib.hid (own_keep OO.out ha (Nat.le_refl _))
      have SB4 := Lib.hid (SB.out.next ha)
      have T4 := Lib.hid (T3.out.next ha)
      have OT4 := Lib.hid (OT.out.next (ha.mono (by omega)))
      have PB4 : Hid (BxV (w3.alloc (.cells #[.int .i64 oL, .int .i64 bL, .string Km, .string { data := #[] }, .int .i64 sm, .bool false] 93)) w3.heap.size [.int .i64 oL, .int .i64 bL, .string Km, .string { data := #[] }, .int .i64 sm, .bool false]) := Lib.hid (BxV.new w3 _ _)
      have HPO : Hid (∀ g, (Value.slice Ao out.length co).ownBlock = some g → g ≠ w3.heap.size) := Lib.hid (fun g hg => by have := (OO.out.lt g hg).2; omega)
      clear ha OO SB T3 OT
      cases hkf : klt Km fr
      case true =>
        have e1 : Op.bytesLess Km.toList fr.toList = true := hkf
        have GG3 : Hid (G = scC out r (scG bad p l fr to_ (N - (i + 1)) (i + 1))) := Lib.hid (by rw [GG2.out]; exact scC_skip (by rw [← HKM.out]; exact hkf))
        clear hkf GG2 HR
        go_wp2_with fail
        go_roundw
        case rel => exact ⟨Ao, co, i + 1, r, out, rfl, by go_num, by omega, by omega, by omega, OO4, SB4, T4, OT4, GG3⟩
        case measure => (first | (simp [intOf]; done) | (simp [intOf]; omega))
      have e1 : Op.bytesLess Km.toList fr.toList = false := hkf
      have HKF := Lib.hid hkf
      clear hkf
      go_upto_region 8 with (fail)
      generalize w3.alloc (.cells #[.int .i64 oL, .int .i64 bL, .string Km, .string { data := #[] }, .int .i64 sm, .bool false] 93) = w4 at *
      have HR4 := Lib.hid (HRD.out w4 (k + r) i hiN (by omega) T4.out)
      clear HR f0 f1 f2 f3 f4 f5 s0 sl
      generalize w3.heap.size = pb at *
      go_wp2_with fail
      refine HR4.out.mono ?_
      rintro e w5 ⟨A5, c5, rfl, own5, t5, ot5⟩
      have OO5 := Lib.hid (ownsRow_of OO4.out (W' := w5) (fun g hg => ot5.block g (OO4.out.lt g hg).2 (by have := (OO4.out.lt g hg).1; omega)))
      have SB5 := Lib.hid (ot5.bxv SB4.out SB4.out.lt (by omega))
      have PB5 := Lib.hid (ot5.bxv PB4.out PB4.out.lt (by omega))
      have T5 := Lib.hid t5
      have hsz4 := OT4.out.size
      have OT5 := Lib.hid (OT4.out.trans (ot5.mono (by have := SB4.out.lt; omega)))
      have HPE5 : Hid (∀ g, (Value.slice A5 (rdK bad p l i).length c5).ownBlock = some g → (Value.slice Ao out.length co).ownBlock ≠ some g) := Lib.hid (fun g hg hk2 => by have h1 := (own5.lt g hg).1; have h2 := (OO4.out.lt g hk2).2; omega)
      clear t5 ot5 OO4 SB4 PB4 T4 OT4 HR4 hsz4
      cases hb : bad i
      case true =>
        rw [show rdKE bad i = 6 by unfold rdKE; rw [hb]; rfl]
        have SEQ : Hid (G = ([], 6, r + 1)) := Lib.hid (by rw [GG2.out]; exact scC_bad (by rw [← HKM.out]; exact HKF.out) hb)
        clear hb GG2 own5
        go_wp2_with fail
        go_ret2
        rw [SEQ.out]
        exact ⟨none, 0, rfl, World.ownsRow_nil _ _ _ _, T5.out, OT5.out.mono hsb2⟩
      rw [show rdKE bad i = 0 by unfold rdKE; rw [hb]; rfl]
      have hrd : rdK bad p l i = chk p l i := by unfold rdK; rw [hb]; rfl
      rw [hrd] at own5 HPE5 ⊢
      have HBB := Lib.hid hb
      clear hb hrd
      obtain ⟨cs, hcs⟩ : ∃ cs, cs = chk p l i := ⟨_, rfl⟩
      rw [← hcs] at own5 HPE5 HCL ⊢
      have HCS := Lib.hid hcs
      clear hcs
      have R5 := Lib.hid (own_rdL own5)
      have OE5 := Lib.hid own5
      clear own5
      have hcl := HCL.out
      go_wp2_with fail
      go_loopw [6, 42] (fun s6 s42 wr => ∃ (Aq : Option Addr) (cq j : Nat) (o2 : List Ent), s6 = .slice Aq o2.length cq ∧ s42 = .int .i64 (j : Int) ∧ j ≤ cs.length ∧ o2.length ≤ out.length + j ∧ Hid (o2 = out ++ (cs.take j).filter (fun x => inS fr to_ x.key)) ∧ Hid (wr.ownsRow (sb + 1) 40 4 (.slice Aq o2.length cq) o2.length (env o2)) ∧ Hid (GrT w5 (.slice Ao out.length co) wr (.slice Aq o2.length cq))) (fun _ s42 _ => cs.length - (intOf s42).toNat)
      case atStart => exact ⟨Ao, co, 0, out, rfl, rfl, Nat.zero_le _, Nat.le_refl _, Lib.hid (by simp), OO5, Lib.hid (GrT.refl _ _)⟩
      case round =>
        obtain ⟨Aq, cq, j, o2, rfl, rfl, hj, ho2, HO2, OQ, GT⟩ := hrel
        obtain ⟨w6, rfl⟩ : ∃ x, x = wr := ⟨_, rfl⟩
        have b56 : Below (sb + 1) w5 w6 := GT.out.below (by have := SB5.out.lt; omega) (fun g hg => (OO5.out.lt g hg).1)
        have SB6 := Lib.hid (SB5.out.below b56 (by omega))
        have OT6 := Lib.hid (OT5.out.next (b56.mono (by omega)))
        have T6 := Lib.hid (HT.out.oth (OT6.out.mono hsb2) (T5.out.x.below b56 (by omega)))
        have PB6 := Lib.hid (b56 |> fun _ => (show BxV w6 pb _ from ⟨Nat.lt_of_lt_of_le PB5.out.lt GT.out.gr.size, fun o => (World.frozen?_of_block (a := ⟨pb, o, none⟩) (GT.out.gr.block pb PB5.out.lt (fun e => HPO.out pb e.symm rfl))).trans (PB5.out.fz o), fun i v hv => (World.cell?_of_block (a := ⟨pb, i, none⟩) (GT.out.gr.block pb PB5.out.lt (fun e => HPO.out pb e.symm rfl))).trans (PB5.out.c i v hv)⟩))
        have OE6 := Lib.hid (ownsRow_of OE5.out (W' := w6) (fun g hg => GT.out.gr.block g (OE5.out.lt g hg).2 (fun e => HPE5.out g hg e.symm)))
        have hz56 := GT.out.gr.size
        have hsb5 : sb + 1 ≤ w5.heap.size := by have := SB5.out.lt; omega
        clear b56
        by_cases hjl : j < cs.length
        · obtain ⟨x, hx⟩ : ∃ x, cs[j]? = some x := ⟨_, List.getElem?_eq_getElem hjl⟩
          obtain ⟨xb, xo, rfl, hxb, hxe⟩ := en_at (own_rdL OE6.out) hx
          obtain ⟨d0, d1, d2, d3⟩ := hxe
          have j0 : (0 : Int) ≤ (j : Int) := by omega
          have j1 : (j : Int) < (cs.length : Int) := by omega
          have HTK : Hid ((cs.take (j + 1)).filter (fun x => inS fr to_ x.key) = (cs.take j).filter (fun x => inS fr to_ x.key) ++ (if inS fr to_ x.key then [x] else [])) := Lib.hid (by
            rw [List.take_add_one, hx, List.filter_append]
            congr 1
            exact filt_one _ x)
          have HIN := Lib.hid (fun W => in_any x.key fr to_ W)
          clear hx
          have zxb : xb < w6.heap.size := hxb
          go_upto_region 14 with (fail)
          have ha : Below w6.heap.size w6 (w6.alloc (.cells #[.string x.key, .string x.val, .int .i64 x.seq, .bool x.del] 40)) := (Below.refl _ _).alloc (Nat.le_refl _) _
          have XB7 : Hid (BxV (w6.alloc (.cells #[.string x.key, .string x.val, .int .i64 x.seq, .bool x.del] 40)) w6.heap.size [.string x.key, .string x.val, .int .i64 x.seq, .bool x.del]) := Lib.hid (BxV.new w6 _ _)
          have OQ7 := Lib.hid (own_keep OQ.out ha (Nat.le_refl _))
          have GT7 := Lib.hid (GT.out.next ha)
          have SB7 := Lib.hid (SB6.out.next ha)
          clear ha OQ GT SB6 T6 OT6 PB6 OE6 d0 d1 d2 d3 zxb hxb
          generalize w6.alloc (.cells #[.string x.key, .string x.val, .int .i64 x.seq, .bool x.del] 40) = w7 at *
          generalize w6.heap.size = xp at *
          have s0 := SB7.out.c 0 _ rfl
          have s1 := SB7.out.c 1 _ rfl
          have sl := SB7.out.lt
          have x0 := XB7.out.c 0 _ rfl
          have xl := XB7.out.lt
          go_wp2_with fail
          refine (HIN.out w7).mono ?_
          rintro e w8 ⟨rfl, hb⟩
          have OQ8 := Lib.hid (own_keep OQ7.out hb (Nat.le_refl _))
          have GT8 := Lib.hid (GT7.out.next hb)
          have XB8 := Lib.hid (XB7.out.next hb)
          have hz8 : sb + 1 ≤ w8.heap.size := by have := hb.size; omega
          clear hb OQ7 GT7 XB7 SB7 s0 s1 sl x0 xl
          cases hin : inS fr to_ x.key
          · have HO3 : Hid (o2 = out ++ (cs.take (j + 1)).filter (fun x => inS fr to_ x.key)) := Lib.hid (by rw [HTK.out, hin, if_neg (by decide), List.append_nil]; exact HO2.out)
            clear hin
            go_wp2_with fail
            go_roundw
            case rel => exact ⟨Aq, cq, j + 1, o2, rfl, by go_num, by omega, by omega, HO3, OQ8, GT8⟩
            case measure => (first | (simp [intOf]; done) | (simp [intOf]; omega))
          · have HO3 : Hid (o2 ++ [x] = out ++ (cs.take (j + 1)).filter (fun x => inS fr to_ x.key)) := Lib.hid (by rw [HTK.out, hin, if_pos rfl, ← List.append_assoc, ← HO2.out])
            have x0 := XB8.out.c 0 _ rfl
            have x1 := XB8.out.c 1 _ rfl
            have x2 := XB8.out.c 2 _ rfl
            have x3 := XB8.out.c 3 _ rfl
            have xl := XB8.out.lt
            clear hin
            go_wp2_with (at_builtin; refine wpList_app styE (.tmp 50) (.tmp 52) rfl rfl (sb + 1) (OQ8.out.alloc _) rfl 1 1 (rd_frC _ _ _ _) rfl rfl (by simp [Value.oneCell']) (by unfold maxLen; omega) (by omega) (by rw [World.size_alloc]; omega) ?_; intro v9 w9 own9 gr9 nil9 at9; obtain ⟨A9, c9, rfl, -, -⟩ := own_sl own9)
            have GT9 := Lib.hid ((GT8.out.alloc _).app gr9 at9)
            have hlen : (o2 ++ [x]).length = o2.length + 1 := by rw [List.length_append]; rfl
            have OQ9 : Hid (w9.ownsRow (sb + 1) 40 4 (.slice A9 (o2 ++ [x]).length c9) (o2 ++ [x]).length (env (o2 ++ [x]))) := Lib.hid (by
              rw [hlen]
              exact own_eq own9 rfl (by rw [env_app]; simp only [env, List.map_cons, List.map_nil, List.flatten_cons, List.flatten_nil, List.append_nil, Ent.c]))
            clear own9 gr9 nil9 at9
            have HLE := Lib.hid hlen
            clear hlen
            go_roundw
            case rel => exact ⟨A9, c9, j + 1, o2 ++ [x], by rw [HLE.out], by go_num, by omega, by rw [HLE.out]; omega, HO3, OQ9, by rw [HLE.out]; exact GT9⟩
            case measure => (first | (simp [intOf]; done) | (simp [intOf]; omega))
        · obtain rfl : j = cs.length := by omega
          have HOA : Hid (o2 = out ++ (chk p l i).filter (fun x => inS fr to_ x.key)) := Lib.hid (by rw [HO2.out, List.take_length, HCS.out])
          have j1 : ¬ (cs.length : Int) < (cs.length : Int) := by omega
          have p2 := PB6.out.c 2 _ rfl
          have pl := PB6.out.lt
          have s1 := SB6.out.c 1 _ rfl
          have sl := SB6.out.lt
          clear OE6 HO2
          cases h2 : to_.toList.isEmpty
          · cases h3 : klt Km to_
            · have SEQ : Hid (G = (o2, 0, r + 1)) := Lib.hid (by rw [GG2.out, HOA.out]; exact scC_end (by rw [← HKM.out]; exact HKF.out) HBB.out ⟨h2, by rw [← HKM.out]; exact h3⟩)
              have e3 : Op.bytesLess Km.toList to_.toList = false := h3
              clear h3 GG2
              go_wp2_with fail
              go_ret2
              rw [SEQ.out]
              exact ⟨Aq, cq, rfl, own_base OQ.out (by omega), T6.out, OT6.out.mono hsb2⟩
            · have GG3 : Hid (G = scC o2 (r + 1) (scG bad p l fr to_ (N - (i + 1)) (i + 1))) := Lib.hid (by rw [GG2.out, HOA.out]; exact scC_on (by rw [← HKM.out]; exact HKF.out) HBB.out (by rw [← HKM.out, h3]; rintro ⟨-, h⟩; cases h))
              have e3 : Op.bytesLess Km.toList to_.toList = true := h3
              clear h3 GG2
              go_wp2_with fail
              go_roundw
              case rel => exact ⟨Aq, cq, i + 1, r + 1, o2, rfl, by go_num, by omega, by omega, by omega, OQ, SB6, T6, OT6, GG3⟩
              case measure => (first | (simp [intOf]; done) | (simp [intOf]; omega))
          · have GG3 : Hid (G = scC o2 (r + 1) (scG bad p l fr to_ (N - (i + 1)) (i + 1))) := Lib.hid (by rw [GG2.out, HOA.out]; exact scC_on (by rw [← HKM.out]; exact HKF.out) HBB.out (by rw [h2]; rintro ⟨h, -⟩; cases h))
            clear GG2
            go_wp2_with fail
            go_roundw
            case rel => exact ⟨Aq, cq, i + 1, r + 1, o2, rfl, by go_num, by omega, by omega, by omega, OQ, SB6, T6, OT6, GG3⟩
            case measure => (first | (simp [intOf]; done) | (simp [intOf]; omega))
    · obtain rfl : i = N := by omega
      have SEQ : Hid (G = (out, 0, r)) := Lib.hid (by rw [GG.out, Nat.sub_self, scG]; unfold scC; simp)
      have i1 : ¬ (i : Int) < (i : Int) := by omega
      clear GG HG
      go_wp2_with fail
      go_ret2
      rw [SEQ.out]
      exact ⟨Ao, co, rfl, own_base OO.out (by omega), T3.out, OT.out.mono hsb2⟩
end
end Go.Proofs.Ytdmpimgbnhgiaaa

namespace Go.Proofs.Ytdmpimgbnhgiaaa
open Go.RowKit Go.St Go.Maps
set_option linter.unusedVariables false
set_option linter.unusedSimpArgs false
set_option maxRecDepth 100000

def smlT (e : Ent) : Bool := decide (e.key.size ≤ 600) && decide (e.val.size ≤ 600)
def smallT (l : List Ent) : Bool := l.all smlT && decide (l.length ≤ 150)
theorem smallT_iff {l : List Ent} (h : smallT l = true) : (∀ x ∈ l, x.key.size ≤ 600 ∧ x.val.size ≤ 600) ∧ l.length ≤ 150 := by
  unfold smallT smlT at h
  simpa using h
set_option maxHeartbeats 1600000 in
theorem small9_any (A : Option Addr) (n c : Nat) (l : List Ent) (hl : l.length = n) (hn : n ≤ 140737488355328) (B : Nat) (w : World) (hr : Rd w B A (env l)) (hB : B ≤ w.heap.size) :
    Calls Try.prog 9 #[.slice A n c] w fun e w' => e = .returned (.bool (smallT l)) ∧ Below w.heap.size w w' := by
  obtain ⟨E, hE⟩ : ∃ E, E = smallT l := ⟨_, rfl⟩
  rw [← hE]
  have HE := Lib.hid hE
  have HL := Lib.hid hl
  have HR := Lib.hid hr
  clear hl hr hE
  go_enter Try.func9, Try.ntmps9
  go_wp2_with fail
  go_loopw [3] (fun s3 wr => ∃ i : Nat, s3 = .int .i64 (i : Int) ∧ i ≤ n ∧ Hid (∀ j x, j < i → l[j]? = some x → smlT x = true) ∧ Hid (Below w.heap.size w wr)) (fun s3 _ => n - (intOf s3).toNat)
  case atStart => exact ⟨0, rfl, Nat.zero_le _, Lib.hid (fun j x hj => by omega), Lib.hid (Below.refl _ _)⟩
  case round =>
    obtain ⟨i, rfl, hi, hU, hB1⟩ := hrel
    obtain ⟨w2, rfl⟩ : ∃ x, x = wr := ⟨_, rfl⟩
    by_cases hlt : i < n
    · obtain ⟨x, hx⟩ : ∃ x, l[i]? = some x := ⟨_, List.getElem?_eq_getElem (by rw [HL.out]; omega)⟩
      obtain ⟨b, off, rfl, hb, hce⟩ := en_at HR.out hx
      obtain ⟨d0, d1, d2, d3⟩ := hce.below (Nat.lt_of_lt_of_le hb hB) hB1.out
      have HX := Lib.hid hx
      have i1 : (i : Int) < (n : Int) := by omega
      have i0 : (0 : Int) ≤ (i : Int) := by omega
      have BAD : Hid (smlT x = false → E = false) := Lib.hid (fun h => by
        rw [HE.out]
        unfold smallT
        rw [Bool.and_eq_false_iff]
        left
        rw [List.all_eq_false]
        exact ⟨x, List.mem_of_getElem? HX.out, by rw [h]; simp⟩)
      clear hce hx
      by_cases q1 : x.key.size ≤ 600
      case neg =>
        have SEQ := Lib.hid (BAD.out (by unfold smlT; rw [decide_eq_false q1]; rfl))
        have q1' : (600 : Int) < (x.key.size : Int) := by omega
        clear q1 BAD HE
        go_wp2_with fail
        go_ret
        exact ⟨ret_bool SEQ.out.symm, hB1.out⟩
      have q1' : ¬ ((600 : Int) < (x.key.size : Int)) := by omega
      by_cases q2 : x.val.size ≤ 600
      case neg =>
        have SEQ := Lib.hid (BAD.out (by unfold smlT; rw [decide_eq_false q2, Bool.and_false]))
        have q2' : (600 : Int) < (x.val.size : Int) := by omega
        clear q1 q2 BAD HE
        go_wp2_with fail
        go_ret
        exact ⟨ret_bool SEQ.out.symm, hB1.out⟩
      have q2' : ¬ ((600 : Int) < (x.val.size : Int)) := by omega
      have HU9 : Hid (∀ j x, j < i + 1 → l[j]? = some x → smlT x = true) := Lib.hid (fun j y hj hy => by
        rcases Nat.lt_or_ge j i with h | h
        · exact hU.out j y h hy
        · have e : j = i := by omega
          subst e
          have h2 := HX.out
          rw [hy] at h2
          injection h2 with h2
          rw [h2]
          unfold smlT
          rw [decide_eq_true q1, decide_eq_true q2]
          rfl)
      clear q1 q2 BAD hU
      go_wp2_with fail
      go_roundw
      case rel => exact ⟨i + 1, by go_num, by omega, HU9, hB1⟩
      case measure => simp [intOf]; omega
    · have i1 : ¬ (i : Int) < (n : Int) := by omega
      have SEQ : Hid (E = decide (n ≤ 150)) := Lib.hid (by
        rw [HE.out]
        unfold smallT
        rw [List.all_eq_true.2 (fun x hx => by
          obtain ⟨j, hj⟩ := List.mem_iff_getElem?.1 hx
          exact hU.out j x (by have := (List.getElem?_eq_some_iff.1 hj).1; have := HL.out; omega) hj), HL.out]
        rfl)
      clear hlt hU
      by_cases q : n ≤ 150
      · have q' : ((n : Int) ≤ 150) := by omega
        rw [decide_eq_true q] at SEQ
        clear q
        go_wp2_with fail
        go_ret
        exact ⟨ret_bool SEQ.out.symm, hB1.out⟩
      · have q' : ¬ ((n : Int) ≤ 150) := by omega
        rw [decide_eq_false q] at SEQ
        clear q
        go_wp2_with fail
        go_ret
        exact ⟨ret_bool SEQ.out.symm, hB1.out⟩

/-- Keys do not fall. -/
theorem key_up {l : List Ent} (h : risE l = true) {i j : Nat} {a b : Ent} (hij : i ≤ j) (ha : l[i]? = some a) (hb : l[j]? = some b) : klt b.key a.key = false := by
  rcases Nat.lt_or_ge i j with h1 | h1
  · have h2 := risE_pw h i j a b h1 ha hb
    unfold ltE at h2
    simp only [Bool.or_eq_true, Bool.and_eq_true, decide_eq_true_eq] at h2
    rcases h2 with h2 | ⟨h2, -⟩
    · exact klt_asym h2
    · rw [h2]
      exact klt_irr _
  · have : i = j := by omega
    subst this
    rw [ha] at hb
    injection hb with hb
    rw [hb]
    exact klt_irr _
/-- Not below: transitive. -/
theorem nlt_tr {a b c : ByteArray} (h1 : klt a b = false) (h2 : klt b c = false) : klt a c = false := by
  cases h : klt a c
  · rfl
  · cases h3 : klt b a
    · have := klt_tri h1 h3
      rw [this] at h
      rw [h2] at h
      cases h
    · rw [klt_tr h3 h] at h2
      cases h2
theorem drop_chk (p : Nat) (l : List Ent) (i : Nat) : l.drop (i * p) = chk p l i ++ l.drop ((i + 1) * p) := by
  unfold chk
  rw [Nat.add_mul, Nat.one_mul, ← List.drop_drop, List.take_append_drop]
theorem nch_end {p : Nat} (hp : 1 ≤ p) (l : List Ent) : l.length ≤ nch p l * p := by
  rcases Nat.lt_or_ge (nch p l * p) l.length with h | h
  · have := (nch_lt (p := p) (by omega) l (nch p l)).2 h
    omega
  · exact h
theorem scan_all {p : Nat} (hp : 1 ≤ p) {l : List Ent} (hr : risE l = true) (fr to_ : ByteArray) : ∀ m i, m + i = nch p l → (scG (fun _ => false) p l fr to_ m i).1 = (l.drop (i * p)).filter (fun x => inS fr to_ x.key) ∧ (scG (fun _ => false) p l fr to_ m i).2.1 = 0
  | 0, i, h => by
    have := nch_end hp l
    rw [show i = nch p l by omega, List.drop_eq_nil_of_le this]
    exact ⟨rfl, rfl⟩
  | m + 1, i, h => by
    obtain ⟨h1, h2⟩ := scan_all hp hr fr to_ m (i + 1) (by omega)
    have hi : i < nch p l := by omega
    have hlst := lst_at hp hi
    have hj := (nch_lt (p := p) (by omega) l i).1 hi
    have e1 : (i + 1) * p = i * p + p := by rw [Nat.add_mul, Nat.one_mul]
    rw [drop_chk p l i, List.filter_append, scG]
    by_cases hkf : klt (lstE (chk p l i)).key fr = true
    · rw [if_pos hkf]
      have hnil : (chk p l i).filter (fun x => inS fr to_ x.key) = [] := by
        rw [List.filter_eq_nil_iff]
        intro x hx hin
        obtain ⟨q, hq⟩ := List.mem_iff_getElem?.1 hx
        obtain ⟨hq1, hq2⟩ := chk_get hq
        have hxl := (List.getElem?_eq_some_iff.1 hq2).1
        have h3 := key_up hr (by rw [e1]; omega) hq2 hlst
        unfold inS at hin
        simp only [Bool.and_eq_true, Bool.not_eq_true'] at hin
        rw [nlt_tr h3 hin.1] at hkf
        cases hkf
      rw [hnil, List.nil_append]
      exact ⟨h1, h2⟩
    · rw [if_neg hkf, if_neg (by decide)]
      by_cases hto : to_.toList.isEmpty = false ∧ klt (lstE (chk p l i)).key to_ = false
      · rw [if_pos hto]
        have hnil : (l.drop ((i + 1) * p)).filter (fun x => inS fr to_ x.key) = [] := by
          rw [List.filter_eq_nil_iff]
          intro x hx hin
          obtain ⟨q, hq⟩ := List.mem_iff_getElem?.1 hx
          rw [List.getElem?_drop] at hq
          have hxl := (List.getElem?_eq_some_iff.1 hq).1
          have h3 := key_up hr (by omega) hlst hq
          unfold inS at hin
          simp only [Bool.and_eq_true, Bool.or_eq_true] at hin
          rcases hin.2 with h4 | h4
          · rw [hto.1] at h4
            cases h4
          · rw [nlt_tr h3 hto.2] at h4
            cases h4
        rw [hnil, List.append_nil]
        exact ⟨rfl, rfl⟩
      · rw [if_neg hto]
        dsimp only
        exact ⟨by rw [h1], h2⟩
theorem scT_all {p : Nat} (hp : 1 ≤ p) {l : List Ent} (hr : risE l = true) (fr to_ : ByteArray) : (scT (fun _ => false) p l fr to_).1 = l.filter (fun x => inS fr to_ x.key) ∧ (scT (fun _ => false) p l fr to_).2.1 = 0 := by
  obtain ⟨h1, h2⟩ := scan_all hp hr fr to_ (nch p l) 0 (by omega)
  unfold scT scC
  dsimp only
  rw [h1, h2, Nat.zero_mul, if_pos rfl]
  exact ⟨rfl, rfl⟩
theorem zB_list : ({ data := #[] } : ByteArray).toList = [] := by kernel_rfl
theorem inS_all (k : ByteArray) : inS { data := #[] } { data := #[] } k = true := by
  have h : klt k { data := #[] } = false := by
    cases h : klt k { data := #[] }
    · rfl
    · unfold klt at h
      rw [bytesLess_eq, zB_list] at h
      have h2 := of_decide_eq_true h
      exact absurd h2 (List.not_lt_nil _)
  unfold inS
  rw [h, zB_list]
  rfl
theorem filter_all (l : List Ent) : l.filter (fun x => inS { data := #[] } { data := #[] } x.key) = l := List.filter_eq_self.2 (fun x _ => inS_all x.key)
/-- Reads of a scan are at most one a block. -/
theorem scG_reads (bad : Nat → Bool) (p : Nat) (l : List Ent) (fr to_ : ByteArray) : ∀ m i, (scG bad p l fr to_ m i).2.2 ≤ m
  | 0, i => Nat.le_refl _
  | m + 1, i => by
    have h := scG_reads bad p l fr to_ m (i + 1)
    rw [scG]
    split
    · omega
    · split
      · show 1 ≤ m + 1
        omega
      · split
        · show 1 ≤ m + 1
          omega
        · show _ + 1 ≤ m + 1
          omega
theorem scT_reads (bad : Nat → Bool) (p : Nat) (l : List Ent) (fr to_ : ByteArray) : (scT bad p l fr to_).2.2 ≤ nch p l := by
  have := scG_reads bad p l fr to_ (nch p l) 0
  unfold scT scC
  dsimp only
  omega
end Go.Proofs.Ytdmpimgbnhgiaaa
