/- Law: a table tells just the entries that it was built of. -/
import Derived.Test.YtdmpimgbnhgiaaaZO
import Derived.Test.YtdmpimgbnhgiaaaZUx

namespace Go.Proofs.Ytdmpimgbnhgiaaa
open Go.RowKit Go.St Go.Shelf Go.Maps
set_option linter.unusedVariables false
set_option linter.unusedSimpArgs false
set_option maxRecDepth 100000

section
variable {w : World} {tb : Nat} {Ab : Option Addr} {cb : Nat} {Ai : Option Addr} {ci : Nat} {Af : Option Addr} {cf : Nat} {p b : Nat} {l : List Ent} {X : List UInt8} {k : Nat}
theorem all_any (bad : Nat → Bool) (hp : 1 ≤ p ∧ p ≤ 64) (hl1 : 1 ≤ l.length) (hl2 : l.length ≤ 150) (hok : ∀ x ∈ l, okE x = true) (hris : risE l = true) (hbk : BkS bad p l X) (hk : k ≤ 900000) (h : TbS w tb Ab cb Ai ci Af cf p b l X k) :
    Calls Try.prog 22 #[.pointer (some ⟨tb, 0, none⟩)] w fun e w' => ∃ A c, e = .returned (.tuple #[.slice A (scT bad p l { data := #[] } { data := #[] }).1.length c, .int .i64 (scT bad p l { data := #[] } { data := #[] }).2.1]) ∧ w'.ownsRow w.heap.size 40 4 (.slice A (scT bad p l { data := #[] } { data := #[] }).1.length c) (scT bad p l { data := #[] } { data := #[] }).1.length (env (scT bad p l { data := #[] } { data := #[] }).1) ∧ TbS w' tb Ab cb Ai ci Af cf p b l X (k + (scT bad p l { data := #[] } { data := #[] }).2.2) ∧ OthB w.heap.size tb w w' := by
  have H := Lib.hid (scan_any bad hp hl1 hl2 hok hris hbk { data := #[] } { data := #[] } hk h)
  clear h hok hris hbk
  generalize scT bad p l { data := #[] } { data := #[] } = G at *
  go_enter Try.func22, Try.ntmps22
  go_wp2_with fail
  refine H.out.mono ?_
  rintro e w2 ⟨A2, c2, rfl, own, t, o⟩
  have O2 := Lib.hid own
  have T2 := Lib.hid t
  have OT2 := Lib.hid o
  clear own t o H
  go_wp2_with fail
  go_ret2
  exact ⟨A2, c2, rfl, O2.out, T2.out, OT2.out⟩
end
theorem inS_take {l : List Ent} {i : Nat} {x : Ent} (P : Ent → Bool) (hx : l[i]? = some x) : (l.take (i + 1)).filter P = (l.take i).filter P ++ (if P x = true then [x] else []) := by
  rw [List.take_add_one, hx, List.filter_append]
  congr 1
  exact filt_one P x
set_option maxHeartbeats 6400000 in
theorem sstFinds_walk (w : World) (A : Option Addr) (n c : Nat) (l : List Ent) (hl : l.length = n) (hc : n ≤ c) (hn : c ≤ 140737488351232) (hr : Rd w w.heap.size A (env l)) (per bits : Int) (key : ByteArray) (hks : key.size ≤ 140737488351232) (seq : Int) (fr to_ : ByteArray) :
    Calls Try.prog 6 #[.slice A n c, .int .i64 per, .int .i64 bits, .string key, .int .i64 seq, .agg #[.string fr, .string to_]] w fun e w' => e = .returned (.bool true) ∧ Below w.heap.size w w' := by
  have HL := Lib.hid hl
  have HR := Lib.hid hr
  clear hl hr
  go_enter Try.func6, Try.ntmps6
  go_wp2_with fail
  have SB1 : Hid (BxV (w.alloc (.cells #[.string fr, .string to_] 47)) w.heap.size [.string fr, .string to_]) := Lib.hid (BxV.new w _ _)
  have B1 : Hid (Below w.heap.size w (w.alloc (.cells #[.string fr, .string to_] 47))) := Lib.hid ((Below.refl _ _).alloc (Nat.le_refl _) _)
  generalize w.alloc (.cells #[.string fr, .string to_] 47) = w1 at *
  refine (lives09_any w1).mono ?_
  rintro e w2 ⟨rfl, hb⟩
  have SB2 := Lib.hid (SB1.out.next hb)
  have B2 := Lib.hid (B1.out.trans (hb.mono B1.out.size))
  clear hb SB1 B1
  go_wp2_with fail
  refine (small9_any A n c l HL.out (by omega) w.heap.size w2 (HR.out.below B2.out) B2.out.size).mono ?_
  rintro e w3 ⟨rfl, hb⟩
  have SB3 := Lib.hid (SB2.out.next hb)
  have B3 := Lib.hid (B2.out.trans (hb.mono B2.out.size))
  clear hb SB2 B2
  cases hsm : smallT l
  · clear hsm
    go_wp2_with fail
    go_ret
    exact ⟨rfl, B3.out⟩
  obtain ⟨hsz, hl150⟩ := smallT_iff hsm
  have hn150 : n ≤ 150 := by rw [← HL.out]; exact hl150
  have HBD := Lib.hid (build_any A n c per bits l HL.out hn150 hc (fun x hx => by have := (hsz x hx).1; unfold maxLen; omega) w3 ((HR.out.below B3.out).more B3.out.size))
  clear hsm hsz
  go_wp2_with fail
  refine HBD.out.mono ?_
  rintro e w4 ⟨A4, c4, rfl, own4, hb⟩
  have SB4 := Lib.hid (SB3.out.next hb)
  have B4 := Lib.hid (B3.out.trans (hb.mono B3.out.size))
  clear hb SB3 B3 HBD
  by_cases hE : bldE per bits l = 0
  case neg =>
    have hne : (bldE per bits l != 0) = true := by simpa using hE
    rw [bldE_no hE]
    clear own4 hE
    generalize bldE per bits l = E at *
    go_wp2_with fail
    go_ret
    exact ⟨rfl, B4.out⟩
  obtain ⟨p, b, rfl, rfl, hp, hbt, hl1, hok, hris, hld⟩ := bldE_ok hE
  rw [hE]
  rw [hld] at own4 ⊢
  obtain ⟨hc4, hcI⟩ := own_caps2 own4
  have hbl := bldB_len hp.1 hbt.2 hl150 hok (b := b)
  have HOP := Lib.hid (open_built A4 c4 p b hp hbt l hl1 hl150 hok hris hc4 hcI w4.heap.size w4 (own_rdL own4) (Nat.le_refl _))
  have HOK := Lib.hid hok
  have HRIS := Lib.hid hris
  have HBK : Hid (BkS (fun _ => false) p l (bldB p b l)) := Lib.hid (by rw [bldB_eq]; exact bks_all p l _)
  have HGL := Lib.hid (fun r (hr : r ≤ nch p l) h1 h2 => get_law (bad := fun _ => false) (b := b) hp.1 hbt hl150 hris (key := key) (seq := seq) hr h1 h2)
  have HSL := Lib.hid (fun fr to_ => scT_all hp.1 hris fr to_)
  have HSR := Lib.hid (fun fr to_ => scT_reads (fun _ => false) p l fr to_)
  obtain ⟨r, hrN, hr1, hr2⟩ := ix_find hp.1 hris ⟨key, zB, seq, false⟩ (nch p l) (Nat.le_refl _)
  have HR1 := Lib.hid hr1
  have HR2 := Lib.hid hr2
  have hnl := nch_le hp.1 l
  have hN1 : 1 ≤ nch p l := by
    have := (nch_lt (p := p) (by omega) l 0).2 (by omega)
    omega
  have HLST := Lib.hid (lst_at hp.1 (l := l) (j := nch p l - 1) (by omega))
  have hend := nch_end hp.1 l
  have HLI : Hid (min ((nch p l - 1 + 1) * p) l.length - 1 = n - 1) := Lib.hid (by rw [show nch p l - 1 + 1 = nch p l by omega, HL.out]; rw [HL.out] at hend; omega)
  obtain ⟨X, hX⟩ : ∃ X, X = bldB p b l := ⟨_, rfl⟩
  rw [← hX] at HOP hbl HBK
  simp only [← hX]
  have hn1 : 1 ≤ n := by rw [← HL.out]; exact hl1
  have hquo : ((n : Int) + (p : Int) - 1) / (p : Int) = ((nch p l : Nat) : Int) := by
    unfold nch
    rw [HL.out, Int.natCast_ediv]
    congr 1
    omega
  clear own4 hX hok hris hr1 hr2 hE hld hend
  go_wp2_with fail
  refine HOP.out.mono ?_
  rintro e w5 ⟨tb, Ab, cb, Ai, ci, Af, cf, rfl, t, htb, hb⟩
  have T5 := Lib.hid t
  have htb0 : w.heap.size ≤ tb := by have := B4.out.size; omega
  have SB5 := Lib.hid (SB4.out.next hb)
  have B5 := Lib.hid (B4.out.trans (hb.mono B4.out.size))
  have hsbt : w.heap.size < tb := by have := SB4.out.lt; omega
  clear t hb SB4 B4 HOP
  obtain ⟨m, hm⟩ : ∃ m, nch p l = m + 1 := ⟨nch p l - 1, by omega⟩
  rw [show nch p l - 1 = m by omega] at HLST HLI
  obtain ⟨xl, hxl⟩ : ∃ xl, xl = lstE (chk p l m) := ⟨_, rfl⟩
  rw [HLI.out, ← hxl] at HLST
  have HLE : Hid (∀ W, Below w5.heap.size w5 W → Calls Try.prog 23 #[.pointer (some ⟨tb, 0, none⟩)] W fun e w' => e = .returned (.int .i64 (n : Int)) ∧ Below W.heap.size W w') := Lib.hid (fun W hb => by
    have h := len_yes (T5.out.next hb)
    rw [HL.out] at h
    exact h)
  have HLA : Hid (∀ W, Below w5.heap.size w5 W → Calls Try.prog 25 #[.pointer (some ⟨tb, 0, none⟩)] W fun e w' => e = .returned (.string xl.key) ∧ Below W.heap.size W w') := Lib.hid (fun W hb => by
    have h := last_yes (T5.out.next hb) m hm (by omega)
    rw [← hxl] at h
    exact h)
  have HBL : Hid (∀ W, Below w5.heap.size w5 W → Calls Try.prog 24 #[.pointer (some ⟨tb, 0, none⟩)] W fun e w' => e = .returned (.int .i64 ((nch p l : Nat) : Int)) ∧ Below W.heap.size W w') := Lib.hid (fun W hb => blocks_yes (T5.out.next hb))
  obtain ⟨eb, eo, hA, heb, hee⟩ := en_at ((HR.out.below B5.out).more B5.out.size) HLST.out
  subst hA
  have d0 := hee.c0
  have HM := Lib.hid hm
  clear hxl hm hee
  have p1 : ¬ (p : Int) = 0 := by omega
  have p2 : ((p : Int) == 0) = false := by rw [beq_eq_false_iff_ne]; omega
  have e5 : ((n : Int) == 0) = false := by rw [beq_eq_false_iff_ne]; omega
  have hquo2 : Int.tdiv ((n : Int) + (p : Int) - 1) (p : Int) = ((nch p l : Nat) : Int) := by rw [Int.tdiv_eq_ediv_of_nonneg (by omega)]; exact hquo
  obtain ⟨n1, hn1e⟩ : ∃ n1, n1 = n - 1 := ⟨_, rfl⟩
  have m0 : (0 : Int) ≤ (n1 : Int) := by omega
  have m1 : (n1 : Int) < (n : Int) := by omega
  have bb1 : -9223372036854775808 ≤ (n : Int) - 1 ∧ (n : Int) - 1 ≤ 9223372036854775807 := by omega
  have bb3 : -9223372036854775808 ≤ (n : Int) + (p : Int) ∧ (n : Int) + (p : Int) ≤ 9223372036854775807 := by omega
  have bb5 : -9223372036854775808 ≤ (n : Int) + (p : Int) - 1 ∧ (n : Int) + (p : Int) - 1 ≤ 9223372036854775807 := by omega
  have bb0 : (n : Int) - 1 = (n1 : Int) := by omega
  have HN1 := Lib.hid hn1e
  clear bb0 bb1 bb3 bb5 hn1e
  go_upto_region 9 with (fail)
  refine wp_qall (by kernel_rfl) (by kernel_rfl) ?_
  intro hcg
  repeat (first | go_big_quiet_step ((with_reducible first | exact Calls.reg (HLE.out _ (below_regrown _ _ _)) | exact Calls.reg (HLA.out _ (below_regrown _ _ _)) | exact Calls.reg (HBL.out _ (below_regrown _ _ _)))) | quiet_step ((with_reducible first | exact Calls.reg (HLE.out _ (below_regrown _ _ _)) | exact Calls.reg (HLA.out _ (below_regrown _ _ _)) | exact Calls.reg (HBL.out _ (below_regrown _ _ _)))))
  refine wpQuiet_nil ?_
  intro wq hbwq hcwq hfwq
  clear hcg
  have T6 := Lib.hid (T5.out.next hbwq)
  have SB6 := Lib.hid (SB5.out.next hbwq)
  have B6 := Lib.hid (B5.out.trans (hbwq.mono B5.out.size))
  clear hbwq hcwq hfwq HLE HLA HBL T5 SB5 B5 hquo hquo2 d0 p1 p2
  obtain ⟨w6, rfl⟩ : ∃ x, x = wq := ⟨_, rfl⟩
  go_upto_region 11 with (fail)
  have HGT := Lib.hid (get_any (fun _ => false) hp hbt hl1 hl150 HOK.out HRIS.out HBK.out key (by omega) seq r hrN HR1.out HR2.out (by omega) T6.out)
  obtain ⟨hg1, hg2⟩ := HGL.out r hrN HR1.out HR2.out
  have hg3 : (gtV (fun _ => false) p b l key seq r).1 = fndE l key seq ∧ (gtV (fun _ => false) p b l key seq r).2.1 = isE l key seq ∧ (gtV (fun _ => false) p b l key seq r).2.2.1 = 0 := by
    rcases hg2 with ⟨-, -, i, -, h⟩ | h
    · cases h
    · exact h
  have HFD := Lib.hid (fun W hb => find_any (some ⟨eb, eo, none⟩) n c l HL.out (by omega) HRIS.out key seq w.heap.size W (HR.out.below hb) hb.size)
  rw [hg3.1, hg3.2.1, hg3.2.2] at HGT
  obtain ⟨x, hx⟩ : ∃ x, x = fndE l key seq := ⟨_, rfl⟩
  obtain ⟨iv, hiv⟩ : ∃ iv, iv = isE l key seq := ⟨_, rfl⟩
  obtain ⟨rk, hrk⟩ : ∃ rk, rk = (gtV (fun _ => false) p b l key seq r).2.2.2 := ⟨_, rfl⟩
  rw [← hx, ← hiv, ← hrk] at HGT
  simp only [← hx, ← hiv] at HFD
  rw [← hrk] at hg1
  unfold Ent.v at HGT HFD
  clear hg2 hg3 hx hiv hrk HGL HR1 HR2 hrN
  go_wp2_with fail
  refine HGT.out.mono ?_
  rintro e w7 ⟨rfl, t, ot⟩
  have T7 := Lib.hid t
  have SB7 := Lib.hid (ot.bxv SB6.out SB6.out.lt (by omega))
  have B7 := Lib.hid (B6.out.trans (ot.below B6.out.size (by omega)))
  clear t ot T6 SB6 B6 HGT
  go_upto_region 12 with (fail)
  have ha : Below w7.heap.size w7 (w7.alloc (.cells #[.string x.key, .string x.val, .int .i64 x.seq, .bool x.del] 40)) := (Below.refl _ _).alloc (Nat.le_refl _) _
  have XX8 : Hid (BxV (w7.alloc (.cells #[.string x.key, .string x.val, .int .i64 x.seq, .bool x.del] 40)) w7.heap.size [.string x.key, .string x.val, .int .i64 x.seq, .bool x.del]) := Lib.hid (BxV.new w7 _ _)
  have T8 := Lib.hid (T7.out.next ha)
  have SB8 := Lib.hid (SB7.out.next ha)
  have B8 := Lib.hid (B7.out.trans (ha.mono B7.out.size))
  clear ha T7 SB7 B7
  generalize w7.alloc (.cells #[.string x.key, .string x.val, .int .i64 x.seq, .bool x.del] 40) = w8 at *
  generalize w7.heap.size = xb at *
  go_wp2_with fail
  refine (HFD.out w8 B8.out).mono ?_
  rintro e w9 ⟨rfl, hb⟩
  have T9 := Lib.hid (T8.out.next hb)
  have SB9 := Lib.hid (SB8.out.next hb)
  have XX9 := Lib.hid (XX8.out.next hb)
  have B9 := Lib.hid (B8.out.trans (hb.mono B8.out.size))
  clear hb T8 SB8 B8 XX8 HFD
  go_upto_region 13 with (fail)
  have ha : Below w9.heap.size w9 (w9.alloc (.cells #[.string x.key, .string x.val, .int .i64 x.seq, .bool x.del] 40)) := (Below.refl _ _).alloc (Nat.le_refl _) _
  have XY10 : Hid (BxV (w9.alloc (.cells #[.string x.key, .string x.val, .int .i64 x.seq, .bool x.del] 40)) w9.heap.size [.string x.key, .string x.val, .int .i64 x.seq, .bool x.del]) := Lib.hid (BxV.new w9 _ _)
  have XX10 := Lib.hid (XX9.out.next ha)
  have T10 := Lib.hid (T9.out.next ha)
  have SB10 := Lib.hid (SB9.out.next ha)
  have B10 := Lib.hid (B9.out.trans (ha.mono B9.out.size))
  clear ha T9 SB9 B9 XX9
  generalize w9.alloc (.cells #[.string x.key, .string x.val, .int .i64 x.seq, .bool x.del] 40) = w10 at *
  generalize w9.heap.size = yb at *
  have x0 := XX10.out.c 0 _ rfl
  have x1 := XX10.out.c 1 _ rfl
  have x2 := XX10.out.c 2 _ rfl
  have x3 := XX10.out.c 3 _ rfl
  have xl := XX10.out.lt
  have y0 := XY10.out.c 0 _ rfl
  have y1 := XY10.out.c 1 _ rfl
  have y2 := XY10.out.c 2 _ rfl
  have y3 := XY10.out.c 3 _ rfl
  have yl := XY10.out.lt
  go_wp2_with fail
  refine (reads_yes T10.out).mono ?_
  rintro e w11 ⟨rfl, hb⟩
  have T11 := Lib.hid (T10.out.next hb)
  have SB11 := Lib.hid (SB10.out.next hb)
  have B11 := Lib.hid (B10.out.trans (hb.mono B10.out.size))
  clear hb T10 SB10 B10 XX10 XY10 x0 x1 x2 x3 xl y0 y1 y2 y3 yl
  have g1 : ¬ (1 : Int) < ((0 + rk : Nat) : Int) := by omega
  have g2 : ¬ (1 : Int) < (rk : Int) := by omega
  go_wp2_with fail
  go_loopw [21, 22] (fun s21 s22 wr => ∃ (Aq : Option Addr) (cq i : Nat) (o2 : List Ent), s21 = .slice Aq o2.length cq ∧ s22 = .int .i64 (i : Int) ∧ i ≤ n ∧ o2.length ≤ i ∧ Hid (o2 = (l.take i).filter (fun x => inS fr to_ x.key)) ∧ Hid (wr.ownsRow w11.heap.size 40 4 (.slice Aq o2.length cq) o2.length (env o2)) ∧ Hid (Below w11.heap.size w11 wr)) (fun _ s22 _ => n - (intOf s22).toNat)
  case atStart => exact ⟨none, 0, 0, [], rfl, rfl, Nat.zero_le _, Nat.le_refl _, Lib.hid (by simp), Lib.hid (World.ownsRow_nil _ _ _ _), Lib.hid (Below.refl _ _)⟩
  case round =>
    obtain ⟨Aq, cq, i, o2, rfl, rfl, hi, ho2, HO2, OQ, BQ⟩ := hrel
    obtain ⟨w12, rfl⟩ : ∃ x, x = wr := ⟨_, rfl⟩
    have B12 := Lib.hid (B11.out.trans (BQ.out.mono B11.out.size))
    have SB12 := Lib.hid (SB11.out.next BQ.out)
    have hz12 := BQ.out.size
    by_cases hlt : i < n
    · obtain ⟨x', hx'⟩ : ∃ x', l[i]? = some x' := ⟨_, List.getElem?_eq_getElem (by rw [HL.out]; exact hlt)⟩
      obtain ⟨eb', eo', he', heb', hee'⟩ := en_at ((HR.out.below B12.out).more B12.out.size) hx'
      injection he' with he'
      injection he' with he1 he2
      subst he1 he2
      obtain ⟨d0, d1, d2, d3⟩ := hee'
      have HTK := Lib.hid (inS_take (fun x => inS fr to_ x.key) hx')
      have HIN := Lib.hid (fun W => in_any x'.key fr to_ W)
      have s0 := SB12.out.c 0 _ rfl
      have s1 := SB12.out.c 1 _ rfl
      have sl := SB12.out.lt
      have i0 : (0 : Int) ≤ (i : Int) := by omega
      have i1 : (i : Int) < (n : Int) := by omega
      clear hx'
      go_wp2_with fail
      refine wp_qall (by kernel_rfl) (by kernel_rfl) ?_
      intro hcg
      repeat (first | go_big_quiet_step ((with_reducible exact Calls.reg (HIN.out _))) | quiet_step ((with_reducible exact Calls.reg (HIN.out _))))
      refine wpQuiet_nil ?_
      intro wq hbwq hcwq hfwq
      clear hcg
      have d0' := (hcwq _ _ heb').trans d0
      have d1' := (hcwq _ _ heb').trans d1
      have d2' := (hcwq _ _ heb').trans d2
      have d3' := (hcwq _ _ heb').trans d3
      have el' : eb < wq.heap.size := Nat.lt_of_lt_of_le heb' hbwq.size
      have OQ13 := Lib.hid (own_keep OQ.out hbwq (Nat.le_refl _))
      have BQ13 := Lib.hid (BQ.out.trans (hbwq.mono hz12))
      have hz13 : w11.heap.size ≤ wq.heap.size := BQ13.out.size
      clear hbwq hcwq hfwq OQ BQ SB12 B12 d0 d1 d2 d3 s0 s1 sl heb'
      obtain ⟨w13, rfl⟩ : ∃ x, x = wq := ⟨_, rfl⟩
      cases hin : inS fr to_ x'.key
      · have HO3 : Hid (o2 = (l.take (i + 1)).filter (fun x => inS fr to_ x.key)) := Lib.hid (by rw [HTK.out, hin, if_neg (by decide), List.append_nil]; exact HO2.out)
        clear hin
        go_wp2_with fail
        go_roundw
        case rel => exact ⟨Aq, cq, i + 1, o2, rfl, by go_num, by omega, by omega, HO3, OQ13, BQ13⟩
        case measure => (first | (simp [intOf]; done) | (simp [intOf]; omega))
      · have HO3 : Hid (o2 ++ [x'] = (l.take (i + 1)).filter (fun x => inS fr to_ x.key)) := Lib.hid (by rw [HTK.out, hin, if_pos rfl, ← HO2.out])
        clear hin
        go_wp2_with (at_builtin; refine wpList_app styE (.tmp 132) (.tmp 137) rfl rfl w11.heap.size (OQ13.out.alloc _) rfl 1 1 (rd_frC _ _ _ _) rfl rfl (by simp [Value.oneCell']) (by unfold maxLen; omega) (by omega) (by rw [World.size_alloc]; omega) ?_; intro v9 w14 own9 gr9 nil9 at9; obtain ⟨A9, c9, rfl, -, -⟩ := own_sl own9)
        have BQ14 := Lib.hid ((BQ13.out.alloc hz13 _).grown gr9 (by rw [World.size_alloc]; omega) (fun g e => (OQ13.out.lt g e).1))
        have hlen : (o2 ++ [x']).length = o2.length + 1 := by rw [List.length_append]; rfl
        have OQ14 : Hid (w14.ownsRow w11.heap.size 40 4 (.slice A9 (o2 ++ [x']).length c9) (o2 ++ [x']).length (env (o2 ++ [x']))) := Lib.hid (by
          rw [hlen]
          exact own_eq own9 rfl (by rw [env_app]; simp only [env, List.map_cons, List.map_nil, List.flatten_cons, List.flatten_nil, List.append_nil, Ent.c]))
        clear own9 gr9 nil9 at9
        have HLE := Lib.hid hlen
        clear hlen
        go_roundw
        case rel => exact ⟨A9, c9, i + 1, o2 ++ [x'], by rw [HLE.out], by go_num, by omega, by rw [HLE.out]; omega, HO3, OQ14, BQ14⟩
        case measure => (first | (simp [intOf]; done) | (simp [intOf]; omega))
    · obtain rfl : i = n := by omega
      have i1 : ¬ (i : Int) < (i : Int) := by omega
      have HOA : Hid (o2 = l.filter (fun x => inS fr to_ x.key)) := Lib.hid (by rw [HO2.out, List.take_of_length_le (by rw [HL.out]; exact Nat.le_refl _)])
      have T12 := Lib.hid (T11.out.next BQ.out)
      have s0 := SB12.out.c 0 _ rfl
      have s1 := SB12.out.c 1 _ rfl
      have sl := SB12.out.lt
      clear HO2 BQ hlt hi
      have ho150 : o2.length ≤ 150 := by omega
      clear ho2
      have HSC := scan_any (fun _ => false) hp hl1 hl150 HOK.out HRIS.out HBK.out fr to_ (by omega) T12.out
      rw [(HSL.out fr to_).1, (HSL.out fr to_).2, ← HOA.out] at HSC
      have hsr := HSR.out fr to_
      generalize (scT (fun _ => false) p l fr to_).2.2 = q1 at *
      have HSC := Lib.hid HSC
      go_wp2_with fail
      refine HSC.out.mono ?_
      rintro e w13 ⟨A13, c13, rfl, own13, t, ot⟩
      have T13 := Lib.hid t
      have B13 := Lib.hid (B12.out.trans (ot.below B12.out.size htb0))
      have O13 := Lib.hid own13
      have OQ13 := Lib.hid (ownsRow_of OQ.out (W' := w13) (fun g hg => ot.block g (OQ.out.lt g hg).2 (by have h1 := (OQ.out.lt g hg).1; have h2 := T11.out.x.lt; omega)))
      have hz1213 := ot.size
      clear t ot own13 OQ T12 SB12 B12 HSC s0 s1 sl
      have HAL := all_any (fun _ => false) hp hl1 hl150 HOK.out HRIS.out HBK.out (by omega) T13.out
      rw [(HSL.out { data := #[] } { data := #[] }).1, (HSL.out { data := #[] } { data := #[] }).2, filter_all, HL.out] at HAL
      have HAL := Lib.hid HAL
      go_wp2_with fail
      refine HAL.out.mono ?_
      rintro e w14 ⟨A14, c14, rfl, own14, t, ot⟩
      have B14 := Lib.hid (B13.out.trans (ot.below B13.out.size htb0))
      have R14 := Lib.hid (own_rdL own14)
      have R13b : Hid (Rd w14 w14.heap.size A13 (env o2)) := Lib.hid (own_rdL (ownsRow_of O13.out (W' := w14) (fun g hg => ot.block g (O13.out.lt g hg).2 (by have h1 := (O13.out.lt g hg).1; have h2 := T11.out.x.lt; omega))))
      have OQ14 := Lib.hid (own_rdL (ownsRow_of OQ13.out (W' := w14) (fun g hg => ot.block g (OQ13.out.lt g hg).2 (by have h1 := (OQ13.out.lt g hg).1; have h2 := T11.out.x.lt; omega))))
      clear t ot own14 OQ13 O13 T13 HAL
      go_wp2_with fail
      refine (sameE_any A13 Aq o2.length o2.length c13 cq w14.heap.size w14.heap.size o2 o2 rfl rfl (by omega) w14 R13b.out (Nat.le_refl _) OQ14.out (Nat.le_refl _)).mono ?_
      rintro e w15 ⟨rfl, hb⟩
      rw [decide_eq_true (rfl : o2 = o2)]
      have R15 := Lib.hid ((R14.out.below hb).more hb.size)
      have B15 := Lib.hid (B14.out.trans (hb.mono B14.out.size))
      clear hb R14 B14 R13b OQ14
      go_wp2_with fail
      refine (sameE_any A14 (some ⟨eb, eo, none⟩) i i c14 c w15.heap.size w.heap.size l l HL.out HL.out (by omega) w15 R15.out (Nat.le_refl _) (HR.out.below B15.out) B15.out.size).mono ?_
      rintro e w16 ⟨rfl, hb⟩
      rw [decide_eq_true (rfl : l = l)]
      have B16 := Lib.hid (B15.out.trans (hb.mono B15.out.size))
      clear hb
      go_wp2_with fail
      go_ret
      exact ⟨rfl, B16.out⟩
end Go.Proofs.Ytdmpimgbnhgiaaa

namespace Go.Proofs.Ytdmpimgbnhgiaaa
open Go.RowKit Go.ChangeShapes Go.WideShapes Go.ChangeAt Go.St
set_option linter.unusedVariables false
set_option linter.unusedSimpArgs false
set_option maxRecDepth 100000

theorem sstFinds_law (w : World) (x : EntsArg w) (_ : True) (per : Int) (_ : (Lit.int .i64 per).wf = true) (bits : Int) (_ : (Lit.int .i64 bits).wf = true) (key : ByteArray) (hkey : key.size ≤ 140737488351232) (seq : Int) (_ : (Lit.int .i64 seq).wf = true) (s : Spn) (_ : InSp s) :
    Calls Try.prog 6 #[.slice x.A x.n x.c, .int .i64 per, .int .i64 bits, .string key, .int .i64 seq, .agg #[.string s.f, .string s.t]] w fun e w' => e = .returned (.bool true) ∧ Below w.heap.size w w' :=
  sstFinds_walk w x.A x.n x.c x.l x.hl x.hc x.hn x.rd per bits key hkey seq s.f s.t
end Go.Proofs.Ytdmpimgbnhgiaaa
