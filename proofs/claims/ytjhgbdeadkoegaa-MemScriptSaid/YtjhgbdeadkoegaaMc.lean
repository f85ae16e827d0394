/- Walks: the document's lanes. -/
import Derived.Test.YtjhgbdeadkoegaaMb
namespace Go.Proofs.Ytjhgbdeadkoegaa
open Go.RowKit Go.St Go.Shelf Go.Maps
set_option linter.unusedVariables false
set_option linter.unusedSimpArgs false
set_option maxRecDepth 100000

theorem tws_get {L : List Ld} {i : Nat} {x : Ld} (h : L[i]? = some x) : (tws L)[i]? = some (x.2 : Int) := by
  unfold tws
  rw [List.getElem?_map, h]
  rfl
set_option maxHeartbeats 3200000 in
theorem dlane_any (S : Nat → Prop) (R : Nat) (hs : List Int) (L : List Ld) (hL : L.length ≤ 100000) (h : Int) (w : World) (hD : Dt w S R hs L) :
    Calls Try.prog 47 #[.pointer (some ⟨R, 0, none⟩), .int .i64 h] w fun e w' => ∃ v, e = .returned v ∧ w'.ownsRow w.heap.size 3 1 v (lnL h L).length (nv (lnL h L)) ∧ Below w.heap.size w w' := by
  obtain ⟨Ah, ch, Ae, ce, At, ct, h1, h2, h3, h4, -⟩ := hD
  have H := Lib.hid (fun W (hb : Below w.heap.size w W) => dnone_any R W ((h1.next hb).c 0 _ rfl))
  have X1 := Lib.hid h1
  have RT := Lib.hid h4
  clear h1 h2 h3 h4
  obtain ⟨n, hn⟩ : ∃ n, n = L.length := ⟨_, rfl⟩
  have HN := Lib.hid hn
  rw [← hn] at X1 hL
  clear hn
  obtain ⟨E, hE⟩ : ∃ E, E = lnL h L := ⟨_, rfl⟩
  rw [← hE]
  by_cases ha : 1 ≤ h
  case neg =>
    obtain rfl : E = [] := by rw [hE]; unfold lnL; rw [if_neg (by omega)]
    have a1 : decide (1 ≤ h) = false := decide_eq_false ha
    clear hE
    go_enter Try.func47, Try.ntmps47
    go_wp2_with fail
    refine wp_loop_rounds 1 ?_
    rw [rounds_succ]
    go_wp2_with fail
    refine (H.out w (Below.refl _ _)).mono ?_
    rintro e w2 ⟨rfl, rfl⟩
    go_wp2_with fail
    go_ret
    exact ⟨_, rfl, World.ownsRow_nil _ _ _ _, Below.refl _ _⟩
  by_cases hb2 : h ≤ 12
  case neg =>
    obtain rfl : E = [] := by rw [hE]; unfold lnL; rw [if_neg (by omega)]
    have a1 : decide (1 ≤ h) = true := decide_eq_true ha
    have a2 : decide (h ≤ 12) = false := decide_eq_false hb2
    clear hE
    go_enter Try.func47, Try.ntmps47
    go_wp2_with fail
    refine wp_loop_rounds 1 ?_
    rw [rounds_succ]
    go_wp2_with fail
    refine (H.out w (Below.refl _ _)).mono ?_
    rintro e w2 ⟨rfl, rfl⟩
    go_wp2_with fail
    go_ret
    exact ⟨_, rfl, World.ownsRow_nil _ _ _ _, Below.refl _ _⟩
  have a1 : decide (1 ≤ h) = true := decide_eq_true ha
  have a2 : decide (h ≤ 12) = true := decide_eq_true hb2
  have HE : Hid (E = [] ++ lnJ h 0 (L.drop 0)) := Lib.hid (by rw [hE]; unfold lnL; rw [if_pos ⟨ha, hb2⟩]; rfl)
  clear hE
  go_enter Try.func47, Try.ntmps47
  go_wp2_with fail
  go_loopw [5, 6] (fun s5 s6 wr => ∃ (A5 : Option Addr) (c5 : Nat) (out : List Int) (i : Nat), s5 = .slice A5 out.length c5 ∧ s6 = .int .i64 (i : Int) ∧ i ≤ n ∧ out.length ≤ i ∧ Hid (wr.ownsRow w.heap.size 3 1 (.slice A5 out.length c5) out.length (nv out)) ∧ Hid (E = out ++ lnJ h i (L.drop i)) ∧ Hid (Below w.heap.size w wr)) (fun _ s6 _ => n - (intOf s6).toNat)
  case atStart => exact ⟨none, 0, [], 0, rfl, rfl, Nat.zero_le _, Nat.le_refl _, Lib.hid (World.ownsRow_nil _ _ _ _), HE, Lib.hid (Below.refl _ _)⟩
  case round =>
    clear HE
    obtain ⟨A5, c5, out, i, rfl, rfl, hi, hoi, OW, HQ, B2⟩ := hrel
    obtain ⟨w2, rfl⟩ : ∃ x, x = wr := ⟨_, rfl⟩
    have c2 := (X1.out.next B2.out).c 2 _ rfl
    have c3 := (X1.out.next B2.out).c 3 _ rfl
    have cl := (X1.out.next B2.out).lt
    have hs2 := B2.out.size
    by_cases hlt : i < n
    · obtain ⟨x, hx⟩ : ∃ x, L[i]? = some x := ⟨_, List.getElem?_eq_getElem (by rw [← HN.out]; exact hlt)⟩
      obtain ⟨b, off, rfl, hb, hce⟩ := RT.out.at_ (nv_get (tws_get hx))
      have d0 := (B2.out.cell (p := ⟨b, off + i, none⟩) hb).trans hce
      have zb : b < w2.heap.size := Nat.lt_of_lt_of_le hb hs2
      have HD := Lib.hid (drop_at hx)
      have i1 : (i : Int) < (n : Int) := by omega
      have i0 : (0 : Int) ≤ (i : Int) := by omega
      clear hce hx
      by_cases ht : h ≤ (x.2 : Int)
      · have HQ9 : Hid (E = (out ++ [(i : Int)]) ++ lnJ h (i + 1) (L.drop (i + 1))) := Lib.hid (by rw [HQ.out, HD.out, lnJ, if_pos ht]; simp)
        clear HQ HD
        go_wp2_with fail
        refine (H.out w2 B2.out).mono ?_
        rintro e w3 ⟨rfl, rfl⟩
        go_wp2_with (at_builtin; refine wpList_app styI (.tmp 38) (.tmp 40) rfl rfl w.heap.size (OW.out.alloc _) rfl 1 1 (rd_frC _ _ _ _) rfl rfl (by simp [Value.oneCell']) (by unfold maxLen; omega) (by omega) (by rw [World.size_alloc]; omega) ?_; intro v5 w5 own5 gr5 nil5 at5; obtain ⟨A6, c6, rfl, -, -⟩ := own_sl own5; have B9 := Lib.hid ((B2.out.alloc hs2 (.cells #[.int .i64 (i : Int)] 3)).grown gr5 (by rw [World.size_alloc]; omega) (fun g e => (OW.out.lt g e).1)))
        have O9 : Hid (w5.ownsRow w.heap.size 3 1 (.slice A6 (out ++ [(i : Int)]).length c6) (out ++ [(i : Int)]).length (nv (out ++ [(i : Int)]))) := Lib.hid (by
          have h := own_eq own5 (m := (out ++ [(i : Int)]).length) (ys := nv (out ++ [(i : Int)])) (by simp) (by rw [nv_app]; rfl)
          rw [List.length_append] at h ⊢
          exact h)
        clear own5 gr5 nil5 at5
        go_roundw
        case rel => exact ⟨A6, c6, out ++ [(i : Int)], i + 1, by rw [List.length_append]; rfl, by go_num, by omega, by rw [List.length_append]; simp only [List.length_cons, List.length_nil]; omega, O9, HQ9, B9⟩
        case measure => (first | (simp [intOf]; done) | (simp [intOf]; omega))
      · have HQ9 : Hid (E = out ++ lnJ h (i + 1) (L.drop (i + 1))) := Lib.hid (by rw [HQ.out, HD.out, lnJ, if_neg ht])
        clear HQ HD
        go_wp2_with fail
        refine (H.out w2 B2.out).mono ?_
        rintro e w3 ⟨rfl, rfl⟩
        go_wp2_with fail
        go_roundw
        case rel => exact ⟨A5, c5, out, i + 1, rfl, by go_num, by omega, by omega, OW, HQ9, B2⟩
        case measure => (first | (simp [intOf]; done) | (simp [intOf]; omega))
    · have i1 : ¬ (i : Int) < (n : Int) := by omega
      have SEQ : Hid (E = out) := Lib.hid (by rw [HQ.out, List.drop_eq_nil_of_le (by rw [← HN.out]; omega)]; simp [lnJ])
      clear HQ hlt
      go_wp2_with fail
      refine (H.out w2 B2.out).mono ?_
      rintro e w3 ⟨rfl, rfl⟩
      go_wp2_with fail
      go_ret
      exact ⟨_, rfl, by rw [SEQ.out]; exact OW.out, B2.out⟩
end Go.Proofs.Ytjhgbdeadkoegaa
