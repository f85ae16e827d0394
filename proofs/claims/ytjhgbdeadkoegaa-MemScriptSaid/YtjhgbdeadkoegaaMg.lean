/- Walk: an entry is put into the document's memtable. -/
import Derived.Test.YtjhgbdeadkoegaaMf
import Derived.Test.YtjhgbdeadkoegaaCut
import Derived.Deep.CutRange
namespace Go.Proofs.Ytjhgbdeadkoegaa
open Go.RowKit Go.St Go.Shelf Go.Maps
set_option linter.unusedVariables false
set_option linter.unusedSimpArgs false
set_option maxRecDepth 100000

/-- The place where an entry comes to stand. -/
theorem aP_len_get {e : Ent} {L : List Ld} {i : Nat} {x : Ld} (hi : i < (aP e L).length) (hx : L[i]? = some x) : ltE x.1 e = true := by
  have h1 : (aP e L)[i]? = some x := by rw [← List.getElem?_append_left (l₂ := aQ e L) hi, ← aPQ]; exact hx
  exact aP_all e L x (List.mem_of_getElem? h1)
theorem aP_take (e : Ent) (L : List Ld) : L.take (aP e L).length = aP e L := by
  have h := List.take_left (l₁ := aP e L) (l₂ := aQ e L)
  rwa [← aPQ] at h
theorem aQ_drop (e : Ent) (L : List Ld) : L.drop (aP e L).length = aQ e L := by
  have h := List.drop_left (l₁ := aP e L) (l₂ := aQ e L)
  rwa [← aPQ] at h
theorem aQ_at {e : Ent} {L : List Ld} {x : Ld} (hx : L[(aP e L).length]? = some x) : ∃ r, aQ e L = x :: r := ⟨_, by rw [← aQ_drop, drop_at hx]⟩
theorem aP_le (e : Ent) (L : List Ld) : (aP e L).length ≤ L.length := by
  have := congrArg List.length (aPQ e L)
  rw [List.length_append] at this
  omega
/-- The end of a slice, from a place on. -/
def frA (A : Option Addr) (c m s : Nat) : Option Addr := if c = m then A else A.map (·.add (m * s))
theorem rd_fr {W : World} {B : Nat} {A : Option Addr} {xs : List Value} {c m s : Nat} (h : Rd W B A xs) (hc : c = m → xs.drop (m * s) = []) : Rd W B (frA A c m s) (xs.drop (m * s)) := fun hn => by
  have hne : xs ≠ [] := fun e => hn (by rw [e]; simp)
  obtain ⟨b, o, e, hb, hv⟩ := h hne
  have hcm : ¬ c = m := fun e => hn (hc e)
  refine ⟨b, o + m * s, ?_, hb, fun i v hi => ?_⟩
  · unfold frA
    rw [if_neg hcm, e, Option.map_some]
    unfold Addr.add
    split
    · rename_i h0
      rw [h0]
      rfl
    · rfl
  · rw [List.getElem?_drop] at hi
    have := hv _ _ hi
    rw [← Nat.add_assoc] at this
    exact this
theorem rd_to {W : World} {B : Nat} {A : Option Addr} {xs : List Value} {m : Nat} (h : Rd W B A xs) : Rd W B A (xs.take m) := fun hn => by
  have hne : xs ≠ [] := fun e => hn (by rw [e]; simp)
  obtain ⟨b, o, e, hb, hv⟩ := h hne
  exact ⟨b, o, e, hb, fun i v hi => hv i v (by
    have h1 := (List.getElem?_eq_some_iff.1 hi).1
    rw [List.length_take] at h1
    rwa [List.getElem?_take, if_pos (by omega)] at hi)⟩
theorem env_drop (l : List Ent) (k : Nat) : env (l.drop k) = (env l).drop (k * 4) := by
  have h := congrArg env (List.take_append_drop k l)
  rw [env_app, env_take] at h
  rcases Nat.lt_or_ge l.length k with hk | hk
  · rw [List.drop_eq_nil_of_le (by omega), List.drop_eq_nil_of_le (by rw [env_len]; omega)]
    rfl
  · rw [← h, List.drop_left' (by rw [List.length_take, env_len]; omega)]
theorem addr_in (A : Option Addr) (c : Nat) : (if c = 0 then A else A.map (·.add 0)) = A := by
  split
  · rfl
  · cases A with
    | none => rfl
    | some a => rfl

set_option maxHeartbeats 6400000 in
theorem dadd_any (S : Nat → Prop) (R : Nat) (hs : List Int) (hhs : ∀ x ∈ hs, 1 ≤ x ∧ x ≤ 12) (L : List Ld) (hL : L.length ≤ 100000) (e : Ent) (w : World) (h : Dt w S R hs L) :
    Calls Try.prog 31 #[.pointer (some ⟨R, 0, none⟩), .agg #[.string e.key, .string e.val, .int .i64 e.seq, .bool e.del]] w fun r w' => r = .returned (.int .i64 (addC e L)) ∧ Dt w' (fun g => S g ∨ (w.heap.size ≤ g ∧ g < w'.heap.size)) R hs (addL hs e L) ∧ Oth (fun g => g = R) w w' := by
  have HD := Lib.hid h
  obtain ⟨Ah, ch, Ae, ce, At, ct, h1, h2, h3, h4, h5, h6, h7, h8, h9, h10, h11⟩ := h
  have H := Lib.hid (fun W (hb : Below w.heap.size w W) => dnone_any R W ((h1.next hb).c 0 _ rfl))
  have X1 := Lib.hid h1
  have RH := Lib.hid h2
  have RE := Lib.hid h3
  have RT := Lib.hid h4
  have HC := Lib.hid (fun W => rcheck6_any e W)
  have HH := Lib.hid hhs
  have HR : Hid (R < w.heap.size) := Lib.hid h1.lt
  have HS : Hid (S R ∧ (∀ g o, Ah = some ⟨g, o, none⟩ → S g) ∧ (∀ o, Ah ≠ some ⟨R, o, none⟩)) := Lib.hid ⟨h5, h6, h11⟩
  clear h1 h2 h3 h4 h5 h6 h7 h8 h11 hhs
  go_enter Try.func31, Try.ntmps31
  go_wp2_with fail
  have B1 : Hid (Below w.heap.size w (w.alloc (.cells #[.string e.key, .string e.val, .int .i64 e.seq, .bool e.del] 32))) := Lib.hid ((Below.refl _ _).alloc (Nat.le_refl _) _)
  have E1 : Hid (BxV (w.alloc (.cells #[.string e.key, .string e.val, .int .i64 e.seq, .bool e.del] 32)) w.heap.size [.string e.key, .string e.val, .int .i64 e.seq, .bool e.del]) := Lib.hid (BxV.new w _ _)
  obtain ⟨be, hbe⟩ : ∃ b, b = w.heap.size := ⟨_, rfl⟩
  have hbe' : w.heap.size ≤ be := by omega
  rw [← hbe] at E1 ⊢
  clear hbe
  generalize w.alloc (.cells #[.string e.key, .string e.val, .int .i64 e.seq, .bool e.del] 32) = w1 at *
  refine (H.out _ B1.out).mono ?_
  rintro r w2 ⟨rfl, rfl⟩
  have x0 := E1.out.c 0 _ rfl
  have x1 := E1.out.c 1 _ rfl
  have x2 := E1.out.c 2 _ rfl
  have x3 := E1.out.c 3 _ rfl
  have xl := E1.out.lt
  go_wp2_with fail
  cases hok : okE e
  · rw [show chkE e = 2 by unfold chkE; rw [hok]; rfl] at HC
    have HQ : Hid (addC e L = 2 ∧ addL hs e L = L) := Lib.hid ⟨by unfold addC; rw [hok]; rfl, by unfold addL; rw [if_neg (fun hx => by rw [hok] at hx; cases hx.1)]⟩
    clear hok
    refine (HC.out _).mono ?_
    rintro r w2 ⟨rfl, hb⟩
    have B2 := Lib.hid (B1.out.trans (hb.mono B1.out.size))
    clear hb
    go_wp2_with fail
    go_ret
    refine ⟨by rw [HQ.out.1]; rfl, ?_, Oth.of B2.out⟩
    rw [HQ.out.2]
    exact (HD.out.next B2.out).mono (fun g hg => .inl hg)
  rw [show chkE e = 0 by unfold chkE; rw [hok]; rfl] at HC
  have HOK := Lib.hid hok
  clear hok
  refine (HC.out _).mono ?_
  rintro r w2 ⟨rfl, hb⟩
  have B2 := Lib.hid (B1.out.trans (hb.mono B1.out.size))
  have E2 := Lib.hid (E1.out.next hb)
  clear hb B1 E1 x0 x1 x2 x3 xl HC
  have c1 := (X1.out.next B2.out).c 1 _ rfl
  have c2 := (X1.out.next B2.out).c 2 _ rfl
  have cl := (X1.out.next B2.out).lt
  go_upto_if 19 with (fail)
  go_cut [5] from 9 (fun s5 wc => s5 = .int .i64 (towN hs L.length : Nat) ∧ Hid (Below w2.heap.size w2 wc))
  case first =>
    by_cases hk0 : hs.length = 0
    · have k1 : ¬ (0 : Int) < (hs.length : Int) := by omega
      have k1n : ¬ 0 < hs.length := by omega
      have HT : Hid (towN hs L.length = 1) := Lib.hid (by unfold towN; rw [if_pos hk0])
      clear hk0
      go_wp2_with fail
      go_meet
      case rel => exact ⟨by rw [HT.out]; rfl, Lib.hid (Below.refl _ _)⟩
    · obtain ⟨x, hx⟩ : ∃ x, hs[L.length % hs.length]? = some x := ⟨_, List.getElem?_eq_getElem (Nat.mod_lt _ (by omega))⟩
      have hx12 := HH.out x (List.mem_of_getElem? hx)
      have HT : Hid (((towN hs L.length : Nat) : Int) = x) := Lib.hid (by rw [tow_at hk0 hx]; omega)
      obtain ⟨bh, oh, rfl, hbh, hch⟩ := RH.out.at_ (nv_get hx)
      obtain ⟨k, hk⟩ : ∃ k, k = hs.length := ⟨_, rfl⟩
      rw [← hk] at c1 hk0 hch hx
      have kh1 : (0 : Int) < (hs.length : Int) := by omega
      have kh2 : 0 < hs.length := by omega
      have hrm : L.length % k < k := Nat.mod_lt _ (by omega)
      have hmd : Int.tmod (L.length : Int) (k : Int) = ((L.length % k : Nat) : Int) := rfl
      obtain ⟨rm, hrme⟩ : ∃ rm, rm = L.length % k := ⟨_, rfl⟩
      rw [← hrme] at hmd hch hrm
      have k1 : (0 : Int) < (k : Int) := by omega
      have k1n : 0 < k := by omega
      have r1 : (rm : Int) < (k : Int) := by omega
      have r0 : (0 : Int) ≤ (rm : Int) := by omega
      have kz : ((k : Int) == 0) = false := by rw [beq_eq_false_iff_ne]; omega
      have kz2 : (k : Int) ≠ 0 := by omega
      have dh := (B2.out.cell (p := ⟨bh, oh + rm, none⟩) hbh).trans hch
      have zh : bh < w2.heap.size := Nat.lt_of_lt_of_le hbh B2.out.size
      clear hx hrme hrm hk hk0 hch
      go_wp2_with fail
      refine wp_qall (by kernel_rfl) (by kernel_rfl) ?_
      intro hcg
      repeat (first | go_big_quiet_step (fail) | quiet_step (fail))
      refine wpQuiet_nil ?_
      intro wq hbwq hcwq hfwq
      clear hcg
      have B9 := Lib.hid hbwq
      clear hbwq hcwq hfwq
      go_wp2_with fail
      go_meet
      case rel => exact ⟨by rw [HT.out], B9⟩
  obtain ⟨rfl, BC⟩ := hcut
  clear c1 c2 cl
  obtain ⟨w3, rfl⟩ : ∃ x, x = wc := ⟨_, rfl⟩
  have B3 := Lib.hid (B2.out.trans (BC.out.mono B2.out.size))
  have E3 := Lib.hid (E2.out.next BC.out)
  clear B2 E2 BC
  obtain ⟨m, hm⟩ : ∃ m, m = (aP e L).length := ⟨_, rfl⟩
  have HM := Lib.hid hm
  have hml : m ≤ L.length := by rw [hm]; exact aP_le e L
  clear hm
  go_wp2_with fail
  go_loopw [6] (fun s6 wr => ∃ i : Nat, s6 = .int .i64 (i : Int) ∧ i ≤ m ∧ Hid (Below w3.heap.size w3 wr)) (fun s6 _ => m - (intOf s6).toNat)
  case atStart => exact ⟨0, rfl, Nat.zero_le _, Lib.hid (Below.refl _ _)⟩
  case round =>
    obtain ⟨i, rfl, hi, BL⟩ := hrel
    obtain ⟨w4, rfl⟩ : ∃ x, x = wr := ⟨_, rfl⟩
    have B4 := Lib.hid (B3.out.trans (BL.out.mono B3.out.size))
    have E4 := Lib.hid (E3.out.next BL.out)
    have c2 := (X1.out.next B4.out).c 2 _ rfl
    have cl := (X1.out.next B4.out).lt
    have x0 := E4.out.c 0 _ rfl
    have x1 := E4.out.c 1 _ rfl
    have x2 := E4.out.c 2 _ rfl
    have x3 := E4.out.c 3 _ rfl
    have xl := E4.out.lt
    clear B3 E3
    by_cases him : i < m
    · obtain ⟨x, hx⟩ : ∃ x, L[i]? = some x := ⟨_, List.getElem?_eq_getElem (by omega)⟩
      obtain ⟨b, off, rfl, hb, hce⟩ := dt_ent RE.out hx
      obtain ⟨d0, d1, d2, d3⟩ := hce.below hb B4.out
      have zb : b < w4.heap.size := Nat.lt_of_lt_of_le hb B4.out.size
      have HA := Lib.hid (fun W => rahead_any x.1 e W)
      rw [aP_len_get (by rw [← HM.out]; exact him) hx] at HA
      have i1 : (i : Int) < (L.length : Int) := by omega
      have i1n : i < L.length := by omega
      have i0 : (0 : Int) ≤ (i : Int) := by omega
      clear hce hx
      go_wp2_with fail
      refine wp_qall (by kernel_rfl) (by kernel_rfl) ?_
      intro hcg
      repeat (first | go_big_quiet_step ((with_reducible (exact Calls.reg (HA.out _)))) | quiet_step ((with_reducible (exact Calls.reg (HA.out _)))))
      refine wpQuiet_nil ?_
      intro wq hbwq hcwq hfwq
      clear hcg
      have B9 := Lib.hid (BL.out.trans (hbwq.mono BL.out.size))
      clear hbwq hcwq hfwq
      go_wp2_with fail
      go_roundw
      case rel => exact ⟨i + 1, by go_num, by omega, B9⟩
      case measure => (first | (simp [intOf]; done) | (simp [intOf]; omega))
    obtain rfl : i = m := by omega
    clear him hi
    go_upto_region 9 with (fail)
    go_cut [54] from 37 to 56 (fun s54 wc => s54 = .bool false ∧ Hid (Below w4.heap.size w4 wc))
    case first =>
      by_cases hlt : i < L.length
      · obtain ⟨x, hx⟩ : ∃ x, L[i]? = some x := ⟨_, List.getElem?_eq_getElem (by omega)⟩
        obtain ⟨b, off, rfl, hb, hce⟩ := dt_ent RE.out hx
        obtain ⟨d0, d1, d2, d3⟩ := hce.below hb B4.out
        have zb : b < w4.heap.size := Nat.lt_of_lt_of_le hb B4.out.size
        have HA := Lib.hid (fun W => rahead_any x.1 e W)
        obtain ⟨r, hr⟩ := aQ_at (by rw [← HM.out]; exact hx)
        rw [aQ_head e L x r hr] at HA
        have i1 : (i : Int) < (L.length : Int) := by omega
        have i0 : (0 : Int) ≤ (i : Int) := by omega
        clear hce hx hr
        go_wp2_with fail
        refine wp_qall (by kernel_rfl) (by kernel_rfl) ?_
        intro hcg
        repeat (first | go_big_quiet_step ((with_reducible (exact Calls.reg (HA.out _)))) | quiet_step ((with_reducible (exact Calls.reg (HA.out _)))))
        refine wpQuiet_nil ?_
        intro wq hbwq hcwq hfwq
        clear hcg
        have B9 := Lib.hid hbwq
        clear hbwq hcwq hfwq
        go_wp2_with fail
        go_meet
        case rel => exact ⟨rfl, B9⟩
      · have i1 : ¬ (i : Int) < (L.length : Int) := by omega
        go_wp2_with fail
        refine wp_qall (by kernel_rfl) (by kernel_rfl) ?_
        intro hcg
        repeat (first | go_big_quiet_step (fail) | quiet_step (fail))
        refine wpQuiet_nil ?_
        intro wq hbwq hcwq hfwq
        clear hcg
        have B9 := Lib.hid hbwq
        clear hbwq hcwq hfwq
        go_wp2_with fail
        go_meet
        case rel => exact ⟨rfl, B9⟩
    obtain ⟨rfl, BC⟩ := hcut
    obtain ⟨w5, rfl⟩ : ∃ x, x = wc := ⟨_, rfl⟩
    have B5 := Lib.hid (B4.out.trans (BC.out.mono B4.out.size))
    have E5 := Lib.hid (E4.out.next BC.out)
    clear BC B4 E4 BL c2 cl x0 x1 x2 x3 xl
    go_upto_region 11 with (fail)
    go_cut [89] from 57 to 135 (fun s89 wc => s89 = .bool (thL e L) ∧ Hid (Below w5.heap.size w5 wc))
    case first =>
      have c2 := (X1.out.next B5.out).c 2 _ rfl
      have cl := (X1.out.next B5.out).lt
      have x0 := E5.out.c 0 _ rfl
      have x1 := E5.out.c 1 _ rfl
      have x2 := E5.out.c 2 _ rfl
      have x3 := E5.out.c 3 _ rfl
      have xl := E5.out.lt
      by_cases hlt : i < L.length
      · obtain ⟨x, hx⟩ : ∃ x, L[i]? = some x := ⟨_, List.getElem?_eq_getElem (by omega)⟩
        obtain ⟨b, off, rfl, hb, hce⟩ := dt_ent RE.out hx
        obtain ⟨d0, d1, d2, d3⟩ := hce.below hb B5.out
        have zb : b < w5.heap.size := Nat.lt_of_lt_of_le hb B5.out.size
        obtain ⟨r, hr⟩ := aQ_at (by rw [← HM.out]; exact hx)
        have HT : Hid (thL e L = (decide (x.1.key = e.key) && decide (x.1.seq = e.seq))) := Lib.hid (by unfold thL; rw [hr]; rfl)
        have i1 : (i : Int) < (L.length : Int) := by omega
        have i0 : (0 : Int) ≤ (i : Int) := by omega
        clear hce hx hr
        by_cases hky : x.1.key = e.key
        · have e1 : (x.1.key.toList == e.key.toList) = true := by rw [str_eqB]; exact decide_eq_true hky
          rw [decide_eq_true hky, Bool.true_and] at HT
          clear hky
          by_cases hsq : x.1.seq = e.seq
          · have e2 : (x.1.seq == e.seq) = true := by rw [beq_iff_eq]; exact hsq
            rw [decide_eq_true hsq] at HT
            clear hsq
            go_wp2_with fail
            refine wp_qall (by kernel_rfl) (by kernel_rfl) ?_
            intro hcg
            repeat (first | go_big_quiet_step (fail) | quiet_step (fail))
            refine wpQuiet_nil ?_
            intro wq hbwq hcwq hfwq
            clear hcg
            have B9 := Lib.hid hbwq
            clear hbwq hcwq hfwq
            go_wp2_with fail
            go_meet
            case rel => exact ⟨by rw [HT.out], B9⟩
          · have e2 : (x.1.seq == e.seq) = false := by rw [beq_eq_false_iff_ne]; exact hsq
            rw [decide_eq_false hsq] at HT
            clear hsq
            go_wp2_with fail
            refine wp_qall (by kernel_rfl) (by kernel_rfl) ?_
            intro hcg
            repeat (first | go_big_quiet_step (fail) | quiet_step (fail))
            refine wpQuiet_nil ?_
            intro wq hbwq hcwq hfwq
            clear hcg
            have B9 := Lib.hid hbwq
            clear hbwq hcwq hfwq
            go_wp2_with fail
            go_meet
            case rel => exact ⟨by rw [HT.out], B9⟩
        · have e1 : (x.1.key.toList == e.key.toList) = false := by rw [str_eqB]; exact decide_eq_false hky
          rw [decide_eq_false hky, Bool.false_and] at HT
          clear hky
          go_wp2_with fail
          refine wp_qall (by kernel_rfl) (by kernel_rfl) ?_
          intro hcg
          repeat (first | go_big_quiet_step (fail) | quiet_step (fail))
          refine wpQuiet_nil ?_
          intro wq hbwq hcwq hfwq
          clear hcg
          have B9 := Lib.hid hbwq
          clear hbwq hcwq hfwq
          go_wp2_with fail
          go_meet
          case rel => exact ⟨by rw [HT.out], B9⟩
      · have HT : Hid (thL e L = false) := Lib.hid (by unfold thL; rw [← aQ_drop, ← HM.out, List.drop_eq_nil_of_le (by omega)]; rfl)
        have i1 : ¬ (i : Int) < (L.length : Int) := by omega
        go_wp2_with fail
        refine wp_qall (by kernel_rfl) (by kernel_rfl) ?_
        intro hcg
        repeat (first | go_big_quiet_step (fail) | quiet_step (fail))
        refine wpQuiet_nil ?_
        intro wq hbwq hcwq hfwq
        clear hcg
        have B9 := Lib.hid hbwq
        clear hbwq hcwq hfwq
        go_wp2_with fail
        go_meet
        case rel => exact ⟨by rw [HT.out], B9⟩
    obtain ⟨rfl, BC⟩ := hcut
    obtain ⟨w6, rfl⟩ : ∃ x, x = wc := ⟨_, rfl⟩
    have B6 := Lib.hid (B5.out.trans (BC.out.mono B5.out.size))
    have E6 := Lib.hid (E5.out.next BC.out)
    clear BC B5 E5
    cases hth : thL e L
    case true =>
      have HQ : Hid (addC e L = 9 ∧ addL hs e L = L) := Lib.hid ⟨by unfold addC; rw [HOK.out, hth]; rfl, by unfold addL; rw [if_neg (fun hx => by rw [hth] at hx; cases hx.2)]⟩
      clear hth
      go_wp2_with fail
      go_ret
      refine ⟨by rw [HQ.out.1]; rfl, ?_, Oth.of B6.out⟩
      rw [HQ.out.2]
      exact (HD.out.next B6.out).mono (fun g hg => .inl hg)
    have HQ : Hid (addC e L = 0 ∧ addL hs e L = L.take i ++ (e, towN hs L.length) :: L.drop i) := Lib.hid ⟨by unfold addC; rw [HOK.out, hth]; rfl, by unfold addL; rw [if_pos ⟨HOK.out, hth⟩, HM.out, aP_take, aQ_drop]⟩
    clear hth
    go_upto_region 13 with (fail)
    have c2 := (X1.out.next B6.out).c 2 _ rfl
    have cl := (X1.out.next B6.out).lt
    have i0 : (0 : Int) ≤ (i : Int) := by omega
    have i1 : (i : Int) ≤ (L.length : Int) := by omega
    have i2 : (i : Int) ≤ (ce : Int) := by omega
    have i3 : (i : Int) ≤ (ct : Int) := by omega
    have hz6 := B6.out.size
    have hbe6 : be < w6.heap.size := E6.out.lt
    have hR6 : R < w6.heap.size := by have := HR.out; omega
    have X6 := Lib.hid (X1.out.next B6.out)
    have HP : Hid (Rd w6 w.heap.size Ae (env ((L.take i).map Prod.fst))) := Lib.hid (by rw [List.map_take, env_take]; exact rd_to (RE.out.below B6.out))
    have hpl : (env ((L.take i).map Prod.fst)).length = i * 4 := by rw [env_len, List.length_map, List.length_take]; omega
    clear i2 i3
    have i2 : (i : Int) ≤ (ce : Int) := by omega
    go_wp2_with (at_builtin; refine wpList_app styE (.tmp 90) (.tmp 96) rfl rfl w6.heap.size (World.ownsRow_lit w6 #[] 0 (Nat.le_refl _) (by decide) rfl) rfl i ce (Rd.alloc HP.out hz6 _) rfl hpl (env_one _) (by unfold maxLen; omega) (by omega) (by simp) ?_; intro v7 w7 own7 gr7 nil7 at7; obtain ⟨A7, c7, rfl, -, -⟩ := own_sl own7)
    have b7 : Below w6.heap.size w6 w7 := ((Below.refl _ _).alloc (Nat.le_refl _) _).grown gr7 (by simp) (fun g e => by simp [Value.ownBlock] at e; omega)
    have O7 : Hid (w7.ownsRow w6.heap.size 32 4 (.slice A7 (0 + i) c7) i (env ((L.take i).map Prod.fst))) := Lib.hid (own_eq own7 (by omega) (by simp))
    have B7 := Lib.hid (B6.out.trans (b7.mono hz6))
    have E7 := Lib.hid (E6.out.next b7)
    have X7 := Lib.hid (X6.out.next b7)
    have z67 := b7.size
    clear b7 own7 gr7 nil7 at7 HP hpl E6 X6 c2
    rw [Nat.zero_add] at *
    have hdr : Below w7.heap.size w7 w7.drew := Below.drew (Below.refl _ _)
    refine wp_heldcut (S := fun W => BxV W be [.string e.key, .string e.val, .int .i64 e.seq, .bool e.del] ∧ BxV W R [.bool true, .slice Ah hs.length ch, .slice Ae L.length ce, .slice At L.length ct]) 10 (by kernel_rfl) (by kernel_rfl) ⟨E7.out.next hdr, X7.out.next hdr⟩ (fun hHeld => ?_)
    simp only [List.take_succ_cons, List.take_zero]
    refine takeL (i := 0) (v := ?_) rfl (by kernel_rfl) (by kernel_rfl) (by kernel_rfl) (fun _ _ _ h => h) ⟨by rfl, ?_⟩ (by first | assumption | trivial) ?_
    rotate_left
    · intro W9 hSw
      (try dsimp only at hSw)
      go_simp
      try with_reducible rfl
    (try simp only [Act.put, List.setIfInBounds_toArray, List.set_cons_zero, List.set_cons_succ])
    refine takeL (i := 1) (v := ?_) rfl (by kernel_rfl) (by kernel_rfl) (by kernel_rfl) (fun _ _ _ h => h) ⟨by rfl, ?_⟩ (by first | assumption | trivial) ?_
    rotate_left
    · intro W9 hSw
      (try dsimp only at hSw)
      (have y0 := hSw.1.c 0 _ rfl; have y1 := hSw.1.c 1 _ rfl; have y2 := hSw.1.c 2 _ rfl; have y3 := hSw.1.c 3 _ rfl; have yl := hSw.1.lt)
      go_simp
      try with_reducible rfl
    (try simp only [Act.put, List.setIfInBounds_toArray, List.set_cons_zero, List.set_cons_succ])
    refine takeL (i := 4) (v := ?_) rfl (by kernel_rfl) (by kernel_rfl) (by kernel_rfl) (fun _ _ _ h => h) ⟨by rfl, ?_⟩ (by first | assumption | trivial) ?_
    rotate_left
    · intro W9 hSw
      (try dsimp only at hSw)
      go_simp
      try with_reducible rfl
    (try simp only [Act.put, List.setIfInBounds_toArray, List.set_cons_zero, List.set_cons_succ])
    refine takeL (i := 5) (v := ?_) rfl (by kernel_rfl) (by kernel_rfl) (by kernel_rfl) (fun _ _ _ h => h) ⟨by rfl, ?_⟩ (by first | assumption | trivial) ?_
    rotate_left
    · intro W9 hSw
      (try dsimp only at hSw)
      go_simp
      try with_reducible rfl
    (try simp only [Act.put, List.setIfInBounds_toArray, List.set_cons_zero, List.set_cons_succ])
    refine takeL (i := 6) (v := ?_) rfl (by kernel_rfl) (by kernel_rfl) (by kernel_rfl) (fun _ _ _ h => h) ⟨by rfl, ?_⟩ (by first | assumption | trivial) ?_
    rotate_left
    · intro W9 hSw
      (try dsimp only at hSw)
      go_simp
      try with_reducible rfl
    (try simp only [Act.put, List.setIfInBounds_toArray, List.set_cons_zero, List.set_cons_succ])
    refine takeL (i := 7) (v := ?_) rfl (by kernel_rfl) (by kernel_rfl) (by kernel_rfl) (fun _ _ _ h => h) ⟨by rfl, ?_⟩ (by first | assumption | trivial) ?_
    rotate_left
    · intro W9 hSw
      (try dsimp only at hSw)
      (have y0 := hSw.2.c 2 _ rfl; have yl := hSw.2.lt)
      go_simp
      try with_reducible rfl
    (try simp only [Act.put, List.setIfInBounds_toArray, List.set_cons_zero, List.set_cons_succ])
    refine takeL (i := 8) (v := ?_) rfl (by kernel_rfl) (by kernel_rfl) (by kernel_rfl) (fun _ _ _ h => h) ⟨by rfl, ?_⟩ (by first | assumption | trivial) ?_
    rotate_left
    · intro W9 hSw
      (try dsimp only at hSw)
      go_simp
      try with_reducible rfl
    (try simp only [Act.put, List.setIfInBounds_toArray, List.set_cons_zero, List.set_cons_succ])
    refine takeL (i := 9) (v := ?_) rfl (by kernel_rfl) (by kernel_rfl) (by kernel_rfl) (fun _ _ _ h => h) ⟨by rfl, ?_⟩ (by first | assumption | trivial) ?_
    rotate_left
    · intro W9 hSw
      (try dsimp only at hSw)
      go_simp
      try with_reducible rfl
    (try simp only [Act.put, List.setIfInBounds_toArray, List.set_cons_zero, List.set_cons_succ])
    clear hHeld
    have O8 := Lib.hid (own_keep O7.out hdr (Nat.le_refl _))
    have E8 := Lib.hid (E7.out.next hdr)
    have X8 := Lib.hid (X7.out.next hdr)
    have B8 := Lib.hid (B7.out.trans (hdr.mono B7.out.size))
    have z68 : w6.heap.size ≤ w7.drew.heap.size := Nat.le_trans z67 hdr.size
    clear hdr O7 E7 X7 B7 z67
    generalize w7.drew = w8 at *
    refine wpAnyH_ready (rs := [2]) (by kernel_rfl) (by simp) ?_
    refine consL rfl (by rfl) (fun K hK => ?_) ?_
    · go_simp
      have hal : Below w8.heap.size w8 (w8.alloc (.cells #[.string e.key, .string e.val, .int .i64 e.seq, .bool e.del] 32)) := (Below.refl _ _).alloc (Nat.le_refl _) _
      have RN : Hid (Rd (w8.alloc (.cells #[.string e.key, .string e.val, .int .i64 e.seq, .bool e.del] 32)) (w8.alloc (.cells #[.string e.key, .string e.val, .int .i64 e.seq, .bool e.del] 32)).heap.size (some ⟨w8.heap.size, 0, none⟩) [.string e.key, .string e.val, .int .i64 e.seq, .bool e.del]) := Lib.hid (rd_frC _ _ _ _)
      have O9 := Lib.hid (O8.out.alloc (.cells #[.string e.key, .string e.val, .int .i64 e.seq, .bool e.del] 32))
      have E9 := Lib.hid (E8.out.next hal)
      have X9 := Lib.hid (X8.out.next hal)
      have B9 := Lib.hid (B8.out.trans (hal.mono B8.out.size))
      have z69 : w6.heap.size ≤ (w8.alloc (.cells #[.string e.key, .string e.val, .int .i64 e.seq, .bool e.del] 32)).heap.size := Nat.le_trans z68 hal.size
      refine hK.out _ _ ⟨E9.out, X9.out⟩ (fun _ => ?_)
      clear hK K hal O8 E8 X8 B8 z68
      (try simp only [Act.put, List.setIfInBounds_toArray, List.set_cons_zero, List.set_cons_succ])
      generalize w8.alloc (.cells #[.string e.key, .string e.val, .int .i64 e.seq, .bool e.del] 32) = w9 at *
      generalize w8.heap.size = bn at *
      refine wpAnyH_ready (rs := [3]) (by kernel_rfl) (by simp) ?_
      refine consL rfl (by rfl) (fun K hK => ?_) ?_
      · refine wp_app styE (.tmp 98) (.tmp 100) rfl w6.heap.size O9.out rfl 1 1 RN.out rfl rfl (by simp [Value.oneCell']) (by unfold maxLen; omega) (by omega) z69 ?_
        intro v10 w10 own10 gr10 nil10 at10
        have b10 : Below w6.heap.size w9 w10 := (Below.refl _ _).grown gr10 z69 (fun g e => (O9.out.lt g e).1)
        obtain ⟨A10, c10, rfl, -, -⟩ := own_sl own10
        have O10 : Hid (w10.ownsRow w6.heap.size 32 4 (.slice A10 (i + 1) c10) (i + 1) (env ((L.take i).map Prod.fst ++ [e]))) := Lib.hid (own_eq own10 rfl (by rw [env_app]; rfl))
        have E10 := Lib.hid (E9.out.below b10 hbe6)
        have X10 := Lib.hid (X9.out.below b10 hR6)
        have B10 := Lib.hid (B9.out.trans (b10.mono hz6))
        have z610 := Nat.le_trans z69 b10.size
        refine hK.out _ _ ⟨E10.out, X10.out⟩ (fun _ => ?_)
        clear hK K b10 own10 gr10 nil10 at10 O9 E9 X9 B9 RN z69
        (try simp only [Act.put, List.setIfInBounds_toArray, List.set_cons_zero, List.set_cons_succ])
        refine wpAnyH_done (by kernel_rfl) ?_ _
        simp only [tailPost, List.drop_succ_cons, List.drop_zero]
        have HP : Hid (Rd w10 w.heap.size (frA Ae ce i 4) (env ((L.drop i).map Prod.fst))) := Lib.hid (by
          rw [List.map_drop, env_drop]
          refine rd_fr (RE.out.below B10.out) (fun e => ?_)
          rw [List.drop_eq_nil_of_le (by rw [env_len, List.length_map]; omega)])
        have hpl : (env ((L.drop i).map Prod.fst)).length = (L.length - i) * 4 := by rw [env_len, List.length_map, List.length_drop]
        go_upto_region 15 with (at_builtin; refine wpList_app styE (.tmp 101) (.tmp 107) rfl rfl w6.heap.size O10.out rfl (L.length - i) (ce - i) HP.out rfl hpl (env_one _) (by unfold maxLen; omega) (by omega) z610 ?_; intro v11 w11 own11 gr11 nil11 at11; obtain ⟨A11, c11, rfl, hc11, -⟩ := own_sl own11)
        have b11 : Below w6.heap.size w10 w11 := (Below.refl _ _).grown gr11 z610 (fun g e => (O10.out.lt g e).1)
        have O11 : Hid (w11.ownsRow w6.heap.size 32 4 (.slice A11 (i + 1 + (L.length - i)) c11) (i + 1 + (L.length - i)) (env ((L.take i).map Prod.fst ++ [e] ++ (L.drop i).map Prod.fst))) := Lib.hid (own_eq own11 rfl (by rw [env_app _ ((L.drop i).map Prod.fst)]))
        have X11 := Lib.hid (X10.out.below b11 hR6)
        have B11 := Lib.hid (B10.out.trans (b11.mono hz6))
        have z611 := Nat.le_trans z610 b11.size
        have hlen : i + 1 + (L.length - i) = L.length + 1 := by omega
        rw [hlen] at O11 hc11 ⊢
        have HPg := Lib.hid (fun g h => (O11.out.lt g h).2)
        clear b11 own11 gr11 nil11 at11 O10 E10 X10 B10 HP hpl z610 hlen
        have HP : Hid (Rd w11 w.heap.size At (nv (tws (L.take i)))) := Lib.hid (by
          rw [show nv (tws (L.take i)) = (nv (tws L)).take i by unfold tws nv; rw [List.map_take, List.map_take]]
          exact rd_to (RT.out.below B11.out))
        have hpl : (nv (tws (L.take i))).length = i * 1 := by rw [nv_length, tws_len, List.length_take]; omega
        have c3 := X11.out.c 3 _ rfl
        have cl := X11.out.lt
        have i3 : (i : Int) ≤ (ct : Int) := by omega
        go_upto_region 16 with (at_builtin; refine wpList_app styI (.tmp 109) (.tmp 115) rfl rfl w11.heap.size (World.ownsRow_lit w11 #[] 0 (Nat.le_refl _) (by decide) rfl) rfl i ct (Rd.alloc HP.out (Nat.le_trans hz6 z611) _) rfl hpl (nv_one _) (by unfold maxLen; omega) (by omega) (by simp) ?_; intro v12 w12 own12 gr12 nil12 at12; obtain ⟨A12, c12, rfl, -, -⟩ := own_sl own12)
        have b12 : Below w11.heap.size w11 w12 := ((Below.refl _ _).alloc (Nat.le_refl _) _).grown gr12 (by simp) (fun g e => by simp [Value.ownBlock] at e; omega)
        have O12 : Hid (w12.ownsRow w11.heap.size 3 1 (.slice A12 (0 + i) c12) i (nv (tws (L.take i)))) := Lib.hid (own_eq own12 (by omega) (by simp))
        have P12 := Lib.hid (own_keep O11.out b12 (Nat.le_refl _))
        have B12 := Lib.hid (B11.out.trans (b12.mono (Nat.le_trans hz6 z611)))
        have X12 := Lib.hid (X11.out.next b12)
        have z112 := b12.size
        clear b12 own12 gr12 nil12 at12 HP hpl c3 cl X11 B11 O11
        rw [Nat.zero_add] at *
        have hdr : Below w12.heap.size w12 w12.drew := Below.drew (Below.refl _ _)
        refine wp_heldcut (S := fun W => BxV W R [.bool true, .slice Ah hs.length ch, .slice Ae L.length ce, .slice At L.length ct]) 10 (by kernel_rfl) (by kernel_rfl) (X12.out.next hdr) (fun hHeld => ?_)
        simp only [List.take_succ_cons, List.take_zero]
        refine takeL (i := 0) (v := ?_) rfl (by kernel_rfl) (by kernel_rfl) (by kernel_rfl) (fun _ _ _ h => h) ⟨by rfl, ?_⟩ (by first | assumption | trivial) ?_
        rotate_left
        · intro W9 hSw
          (try dsimp only at hSw)
          go_simp
          try with_reducible rfl
        (try simp only [Act.put, List.setIfInBounds_toArray, List.set_cons_zero, List.set_cons_succ])
        refine takeL (i := 1) (v := ?_) rfl (by kernel_rfl) (by kernel_rfl) (by kernel_rfl) (fun _ _ _ h => h) ⟨by rfl, ?_⟩ (by first | assumption | trivial) ?_
        rotate_left
        · intro W9 hSw
          (try dsimp only at hSw)
          go_simp
          try with_reducible rfl
        (try simp only [Act.put, List.setIfInBounds_toArray, List.set_cons_zero, List.set_cons_succ])
        refine takeL (i := 4) (v := ?_) rfl (by kernel_rfl) (by kernel_rfl) (by kernel_rfl) (fun _ _ _ h => h) ⟨by rfl, ?_⟩ (by first | assumption | trivial) ?_
        rotate_left
        · intro W9 hSw
          (try dsimp only at hSw)
          go_simp
          try with_reducible rfl
        (try simp only [Act.put, List.setIfInBounds_toArray, List.set_cons_zero, List.set_cons_succ])
        refine takeL (i := 5) (v := ?_) rfl (by kernel_rfl) (by kernel_rfl) (by kernel_rfl) (fun _ _ _ h => h) ⟨by rfl, ?_⟩ (by first | assumption | trivial) ?_
        rotate_left
        · intro W9 hSw
          (try dsimp only at hSw)
          go_simp
          try with_reducible rfl
        (try simp only [Act.put, List.setIfInBounds_toArray, List.set_cons_zero, List.set_cons_succ])
        refine takeL (i := 6) (v := ?_) rfl (by kernel_rfl) (by kernel_rfl) (by kernel_rfl) (fun _ _ _ h => h) ⟨by rfl, ?_⟩ (by first | assumption | trivial) ?_
        rotate_left
        · intro W9 hSw
          (try dsimp only at hSw)
          go_simp
          try with_reducible rfl
        (try simp only [Act.put, List.setIfInBounds_toArray, List.set_cons_zero, List.set_cons_succ])
        refine takeL (i := 7) (v := ?_) rfl (by kernel_rfl) (by kernel_rfl) (by kernel_rfl) (fun _ _ _ h => h) ⟨by rfl, ?_⟩ (by first | assumption | trivial) ?_
        rotate_left
        · intro W9 hSw
          (try dsimp only at hSw)
          (have y0 := hSw.c 3 _ rfl; have yl := hSw.lt)
          go_simp
          try with_reducible rfl
        (try simp only [Act.put, List.setIfInBounds_toArray, List.set_cons_zero, List.set_cons_succ])
        refine takeL (i := 8) (v := ?_) rfl (by kernel_rfl) (by kernel_rfl) (by kernel_rfl) (fun _ _ _ h => h) ⟨by rfl, ?_⟩ (by first | assumption | trivial) ?_
        rotate_left
        · intro W9 hSw
          (try dsimp only at hSw)
          go_simp
          try with_reducible rfl
        (try simp only [Act.put, List.setIfInBounds_toArray, List.set_cons_zero, List.set_cons_succ])
        refine takeL (i := 9) (v := ?_) rfl (by kernel_rfl) (by kernel_rfl) (by kernel_rfl) (fun _ _ _ h => h) ⟨by rfl, ?_⟩ (by first | assumption | trivial) ?_
        rotate_left
        · intro W9 hSw
          (try dsimp only at hSw)
          go_simp
          try with_reducible rfl
        (try simp only [Act.put, List.setIfInBounds_toArray, List.set_cons_zero, List.set_cons_succ])
        clear hHeld
        have O13 := Lib.hid (own_keep O12.out hdr (Nat.le_refl _))
        have P13 := Lib.hid (own_keep P12.out hdr (Nat.le_refl _))
        have X13 := Lib.hid (X12.out.next hdr)
        have B13 := Lib.hid (B12.out.trans (hdr.mono B12.out.size))
        have z113 : w11.heap.size ≤ w12.drew.heap.size := Nat.le_trans z112 hdr.size
        clear hdr O12 P12 X12 B12 z112
        generalize w12.drew = w13 at *
        refine wpAnyH_ready (rs := [2]) (by kernel_rfl) (by simp) ?_
        refine consL rfl (by rfl) (fun K hK => ?_) ?_
        · go_simp
          have hal : Below w13.heap.size w13 (w13.alloc (.cells #[.int .i64 ((towN hs L.length : Nat) : Int)] 3)) := (Below.refl _ _).alloc (Nat.le_refl _) _
          have RN : Hid (Rd (w13.alloc (.cells #[.int .i64 ((towN hs L.length : Nat) : Int)] 3)) (w13.alloc (.cells #[.int .i64 ((towN hs L.length : Nat) : Int)] 3)).heap.size (some ⟨w13.heap.size, 0, none⟩) [.int .i64 ((towN hs L.length : Nat) : Int)]) := Lib.hid (rd_frC _ _ _ _)
          have O14 := Lib.hid (O13.out.alloc (.cells #[.int .i64 ((towN hs L.length : Nat) : Int)] 3))
          have P14 := Lib.hid (own_keep P13.out hal (Nat.le_refl _))
          have X14 := Lib.hid (X13.out.next hal)
          have B14 := Lib.hid (B13.out.trans (hal.mono B13.out.size))
          have z114 : w11.heap.size ≤ (w13.alloc (.cells #[.int .i64 ((towN hs L.length : Nat) : Int)] 3)).heap.size := Nat.le_trans z113 hal.size
          refine hK.out _ _ X14.out (fun _ => ?_)
          clear hK K hal O13 P13 X13 B13 z113
          (try simp only [Act.put, List.setIfInBounds_toArray, List.set_cons_zero, List.set_cons_succ])
          generalize w13.alloc (.cells #[.int .i64 ((towN hs L.length : Nat) : Int)] 3) = w14 at *
          generalize w13.heap.size = bm at *
          refine wpAnyH_ready (rs := [3]) (by kernel_rfl) (by simp) ?_
          refine consL rfl (by rfl) (fun K hK => ?_) ?_
          · refine wp_app styI (.tmp 117) (.tmp 119) rfl w11.heap.size O14.out rfl 1 1 RN.out rfl rfl (by simp [Value.oneCell']) (by unfold maxLen; omega) (by omega) z114 ?_
            intro v15 w15 own15 gr15 nil15 at15
            have b15 : Below w11.heap.size w14 w15 := (Below.refl _ _).grown gr15 z114 (fun g e => (O14.out.lt g e).1)
            obtain ⟨A15, c15, rfl, -, -⟩ := own_sl own15
            have O15 : Hid (w15.ownsRow w11.heap.size 3 1 (.slice A15 (i + 1) c15) (i + 1) (nv (tws (L.take i) ++ [((towN hs L.length : Nat) : Int)]))) := Lib.hid (own_eq own15 rfl (by rw [nv_app]; rfl))
            have X15 := Lib.hid (X14.out.below b15 (Nat.lt_of_lt_of_le hR6 z611))
            have B15 := Lib.hid (B14.out.trans (b15.mono (Nat.le_trans hz6 z611)))
            have z115 := Nat.le_trans z114 b15.size
            have P15 := Lib.hid (ownsRow_of P14.out (fun g hg => b15.block g (HPg.out g hg)))
            refine hK.out _ _ X15.out (fun _ => ?_)
            clear hK K b15 own15 gr15 nil15 at15 O14 P14 X14 B14 RN z114
            (try simp only [Act.put, List.setIfInBounds_toArray, List.set_cons_zero, List.set_cons_succ])
            refine wpAnyH_done (by kernel_rfl) ?_ _
            simp only [tailPost, List.drop_succ_cons, List.drop_zero]
            have HP : Hid (Rd w15 w.heap.size (if ct = i then At else At.map (fun x => x.add i)) (nv (tws (L.drop i)))) := Lib.hid (by
              rw [show nv (tws (L.drop i)) = (nv (tws L)).drop i by unfold tws nv; rw [List.map_drop, List.map_drop]]
              have h := rd_fr (c := ct) (m := i) (s := 1) (RT.out.below B15.out) (fun e => by rw [List.drop_eq_nil_of_le (by rw [nv_length, tws_len]; omega)])
              unfold frA at h
              simp only [Nat.mul_one] at h
              exact h)
            have hpl : (nv (tws (L.drop i))).length = (L.length - i) * 1 := by rw [nv_length, tws_len, List.length_drop]; omega
            go_upto_region 17 with (at_builtin; refine wpList_app styI (.tmp 120) (.tmp 126) rfl rfl w11.heap.size O15.out rfl (L.length - i) (ct - i) HP.out rfl hpl (nv_one _) (by unfold maxLen; omega) (by omega) z115 ?_; intro v16 w16 own16 gr16 nil16 at16; obtain ⟨A16, c16, rfl, hc16, -⟩ := own_sl own16)
            have b16 : Below w11.heap.size w15 w16 := (Below.refl _ _).grown gr16 z115 (fun g e => (O15.out.lt g e).1)
            have hlen : i + 1 + (L.length - i) = L.length + 1 := by omega
            rw [hlen] at own16 hc16 ⊢
            have P16 := Lib.hid (ownsRow_of P15.out (fun g hg => b16.block g (HPg.out g hg)))
            have Q16 := Lib.hid own16
            have X16 := Lib.hid (X15.out.below b16 (Nat.lt_of_lt_of_le hR6 z611))
            have B16 := Lib.hid (B15.out.trans (b16.mono (Nat.le_trans hz6 z611)))
            clear b16 own16 gr16 nil16 at16 O15 P15 X15 B15 HP hpl z115 hlen
            have HF : Hid (Dt ((w16.setCell ⟨R, 2, none⟩ (.slice A11 (L.length + 1) c11)).setCell ⟨R, 3, none⟩ (.slice A16 (L.length + 1) c16)) (fun g => S g ∨ (w.heap.size ≤ g ∧ g < ((w16.setCell ⟨R, 2, none⟩ (.slice A11 (L.length + 1) c11)).setCell ⟨R, 3, none⟩ (.slice A16 (L.length + 1) c16)).heap.size)) R hs (addL hs e L) ∧ Oth (fun g => g = R) w ((w16.setCell ⟨R, 2, none⟩ (.slice A11 (L.length + 1) c11)).setCell ⟨R, 3, none⟩ (.slice A16 (L.length + 1) c16))) := Lib.hid (by
              have X17 := bxv_put (bxv_put X16.out 2 (by simp) (.slice A11 (L.length + 1) c11)) 3 (by simp) (.slice A16 (L.length + 1) c16)
              have hsz : ((w16.setCell ⟨R, 2, none⟩ (.slice A11 (L.length + 1) c11)).setCell ⟨R, 3, none⟩ (.slice A16 (L.length + 1) c16)).heap.size = w16.heap.size := by simp
              have hkp : ∀ g, g ≠ R → ((w16.setCell ⟨R, 2, none⟩ (.slice A11 (L.length + 1) c11)).setCell ⟨R, 3, none⟩ (.slice A16 (L.length + 1) c16)).heap[g]? = w16.heap[g]? := fun g hg => (Below.heap_setCell _ _ _ _ hg).trans (Below.heap_setCell _ _ _ _ hg)
              have hos : ((w16.setCell ⟨R, 2, none⟩ (.slice A11 (L.length + 1) c11)).setCell ⟨R, 3, none⟩ (.slice A16 (L.length + 1) c16)).os = w16.os ∧ ((w16.setCell ⟨R, 2, none⟩ (.slice A11 (L.length + 1) c11)).setCell ⟨R, 3, none⟩ (.slice A16 (L.length + 1) c16)).tape = w16.tape ∧ ((w16.setCell ⟨R, 2, none⟩ (.slice A11 (L.length + 1) c11)).setCell ⟨R, 3, none⟩ (.slice A16 (L.length + 1) c16)).output = w16.output := ⟨rfl, rfl, rfl⟩
              generalize (w16.setCell ⟨R, 2, none⟩ (.slice A11 (L.length + 1) c11)).setCell ⟨R, 3, none⟩ (.slice A16 (L.length + 1) c16) = W at *
              have hzz := B16.out.size
              obtain ⟨_, _, e1, q1, r1⟩ := own_sl P16.out
              injection e1 with e1 _ e1c
              subst e1; subst e1c
              obtain ⟨_, _, e2, q2, r2⟩ := own_sl Q16.out
              injection e2 with e2 _ e2c
              subst e2; subst e2c
              have hl : (L.take i ++ (e, towN hs L.length) :: L.drop i).length = L.length + 1 := by rw [List.length_append, List.length_cons, List.length_take, List.length_drop]; omega
              have hm1 : env ((L.take i ++ (e, towN hs L.length) :: L.drop i).map Prod.fst) = env (List.map Prod.fst (List.take i L) ++ [e] ++ List.map Prod.fst (List.drop i L)) := by simp
              have hm2 : nv (tws (L.take i ++ (e, towN hs L.length) :: L.drop i)) = nv (tws (List.take i L) ++ [((towN hs L.length : Nat) : Int)]) ++ nv (tws (List.drop i L)) := by simp [tws, nv]
              have z16 := z611
              rw [HQ.out.2]
              refine ⟨⟨Ah, ch, _, _, _, _, by rw [hl]; exact X17, ?_, ?_, ?_, .inl HS.out.1, fun g o e => .inl (HS.out.2.1 g o e), fun g o e => ?_, fun g o e => ?_, by rw [hl]; exact q1, by rw [hl]; exact q2, HS.out.2.2⟩, ⟨hos.1.trans B16.out.os, hos.2.1.trans B16.out.tape, hos.2.2.trans B16.out.output, by rw [hsz]; exact hzz, fun g hg hn => (hkp g hn).trans (B16.out.block g hg)⟩⟩
              · refine rd_blk ((RH.out.below B16.out).more hzz) (by omega) (fun g o e _ => hkp g (fun e2 => ?_))
                rw [e2] at e
                exact HS.out.2.2 o e
              · rw [hm1]
                refine rd_blk r1 (by omega) (fun g o e _ => hkp g (fun e2 => ?_))
                have := (P16.out.lt g (by rw [e]; rfl)).1
                omega
              · rw [hm2]
                refine rd_blk r2 (by omega) (fun g o e _ => hkp g (fun e2 => ?_))
                have := (Q16.out.lt g (by rw [e]; rfl)).1
                omega
              · have := P16.out.lt g (by rw [e]; rfl)
                exact .inr (by omega)
              · have := Q16.out.lt g (by rw [e]; rfl)
                exact .inr (by omega))
            have c2 := X16.out.c 2 _ rfl
            have c3 := X16.out.c 3 _ rfl
            have cl := X16.out.lt
            have fz := X16.out.fz
            clear P16 Q16 X16 B16
            go_wp2_with fail
            all_goals
              go_ret
              exact ⟨by rw [HQ.out.1]; rfl, HF.out.1, HF.out.2⟩
          · exact AllReadyH.nil
        · exact AllReadyH.nil
      · exact AllReadyH.nil
    · exact AllReadyH.nil
end Go.Proofs.Ytjhgbdeadkoegaa
