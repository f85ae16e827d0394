/- Walk: the document's cost. -/
import Derived.Test.YtjhgbdeadkoegaaMd
namespace Go.Proofs.Ytjhgbdeadkoegaa
open Go.RowKit Go.St Go.Shelf Go.Maps
set_option linter.unusedVariables false
set_option linter.unusedSimpArgs false
set_option maxRecDepth 100000

/-- One lane gone along by the document: p places are passed; n are counted. -/
def dcI (e : Ent) (L : List Ld) : List Int → Nat → Nat → Nat × Nat
  | [], p, n => (p, n)
  | x :: r, p, n => if x < (p : Int) then dcI e L r p n else if ltE ((L.map Prod.fst).getD x.toNat Ent.z) e = true then dcI e L r (x.toNat + 1) (n + 1) else (p, n + 1)
/-- All lanes. -/
def dcH (e : Ent) (L : List Ld) : Nat → Nat → Nat → Nat
  | 0, _, n => n
  | h + 1, p, n => dcH e L h (dcI e L (lnJ ((h + 1 : Nat) : Int) 0 L) p n).1 (dcI e L (lnJ ((h + 1 : Nat) : Int) 0 L) p n).2
theorem dcI_skip (e : Ent) (L : List Ld) (H : Int) (p n : Nat) : ∀ (M : List Ld) (i : Nat), i ≤ p → dcI e L (lnJ H i M) p n = dcI e L (lnJ H p (M.drop (p - i))) p n
  | [], i, hi => by simp [lnJ]
  | y :: r, i, hi => by
    rcases Nat.eq_or_lt_of_le hi with h | h
    · subst h; simp
    · have h1 := dcI_skip e L H p n r (i + 1) h
      rw [show p - i = (p - (i + 1)) + 1 by omega, List.drop_succ_cons, ← h1, lnJ]
      split
      · rw [dcI, if_pos (by omega)]
      · rfl
theorem dcI_wlk (e : Ent) (L : List Ld) (h : Nat) (k : Nat) : ∀ (q p n a : Nat), L.length - q = k → p ≤ q →
    ∃ p', (dcI e L (lnJ ((h + 1 : Nat) : Int) q (L.drop q)) p n) = (p', n + (wlk e h a (rwN (L.drop p)) (rwN (L.drop q))).2.2) ∧ (wlk e h a (rwN (L.drop p)) (rwN (L.drop q))).2.1 = rwN (L.drop p') := by
  induction k with
  | zero =>
    intro q p n a hk hp
    have e1 : L.drop q = [] := List.drop_eq_nil_of_le (by omega)
    rw [e1]
    exact ⟨p, rfl, rfl⟩
  | succ k ih =>
    intro q p n a hk hp
    obtain ⟨x, hx⟩ : ∃ x, L[q]? = some x := ⟨_, List.getElem?_eq_getElem (by omega)⟩
    rw [drop_at hx]
    have e2 : rwN (x :: L.drop (q + 1)) = ⟨0, x.1, x.2, x.2⟩ :: rwN (L.drop (q + 1)) := rfl
    have e3 : (L.map Prod.fst).getD ((q : Int)).toNat Ent.z = x.1 := by
      rw [List.getD_eq_getElem?_getD, Int.toNat_natCast, List.getElem?_map, hx]
      rfl
    rw [e2, lnJ, wlk]
    dsimp only
    by_cases hu : h < x.2
    · rw [if_pos (show ((h + 1 : Nat) : Int) ≤ (x.2 : Int) by omega), if_pos hu, dcI, if_neg (by omega), e3]
      by_cases hl : ltE x.1 e = true
      · rw [if_pos hl, if_pos hl]
        obtain ⟨p', h2, h3⟩ := ih (q + 1) (q + 1) (n + 1) 0 (by omega) (Nat.le_refl _)
        refine ⟨p', ?_, h3⟩
        rw [Int.toNat_natCast, h2]
        exact Prod.ext rfl (by dsimp only; omega)
      · rw [if_neg hl, if_neg hl]
        exact ⟨p, rfl, rfl⟩
    · rw [if_neg (show ¬ ((h + 1 : Nat) : Int) ≤ (x.2 : Int) by omega), if_neg hu]
      exact ih (q + 1) p n a (by omega) (by omega)
theorem dcH_fnd (e : Ent) (L : List Ld) : ∀ (h p n a : Nat), dcH e L h p n = n + (fnd e h a (rwN (L.drop p))).2
  | 0, p, n, a => rfl
  | h + 1, p, n, a => by
    obtain ⟨p', h2, h3⟩ := dcI_wlk e L h (L.length - p) p p n a rfl (Nat.le_refl _)
    rw [dcH, dcI_skip e L _ p n L 0 (Nat.zero_le _), Nat.sub_zero, h2]
    dsimp only
    rw [dcH_fnd e L h p' _ (wlk e h a (rwN (L.drop p)) (rwN (L.drop p))).1, fnd, h3]
    dsimp only
    omega
theorem dc_cst (key : ByteArray) (seq : Int) (L : List Ld) : dcH ⟨key, zB, seq, false⟩ L 12 0 0 = cst key seq L := by
  rw [dcH_fnd ⟨key, zB, seq, false⟩ L 12 0 0 0]
  unfold cst
  simp

theorem lnL_lt {h : Int} {L : List Ld} : ∀ x ∈ lnL h L, 0 ≤ x ∧ x < (L.length : Int) := by
  have key : ∀ (M : List Ld) (i : Nat) (x : Int), x ∈ lnJ h i M → (i : Int) ≤ x ∧ x < (i : Int) + M.length := by
    intro M
    induction M with
    | nil => intro i x hx; cases hx
    | cons y r ih =>
      intro i x hx
      rw [lnJ] at hx
      rw [List.length_cons]
      split at hx
      · rcases List.mem_cons.1 hx with h1 | h1
        · omega
        · have := ih (i + 1) x h1; omega
      · have := ih (i + 1) x hx; omega
  intro x hx
  unfold lnL at hx
  split at hx
  · have := key L 0 x hx; omega
  · cases hx
theorem dcI_ge (e : Ent) (L : List Ld) : ∀ (V : List Int) (p n : Nat), n ≤ (dcI e L V p n).2
  | [], _, n => Nat.le_refl _
  | x :: r, p, n => by
    rw [dcI]
    split
    · exact dcI_ge e L r p n
    · split
      · exact Nat.le_trans (Nat.le_succ n) (dcI_ge e L r (x.toNat + 1) (n + 1))
      · exact Nat.le_succ n
theorem dcH_ge (e : Ent) (L : List Ld) (h p n : Nat) : n ≤ dcH e L h p n := by rw [dcH_fnd e L h p n 0]; omega
set_option maxHeartbeats 6400000 in
theorem dcost_any (S : Nat → Prop) (R : Nat) (hs : List Int) (L : List Ld) (hL : L.length ≤ 100000) (key : ByteArray) (seq : Int) (w : World) (h : Dt w S R hs L) :
    Calls Try.prog 49 #[.pointer (some ⟨R, 0, none⟩), .string key, .int .i64 seq] w fun e w' => e = .returned (.int .i64 (cst key seq L : Nat)) ∧ Below w.heap.size w w' := by
  have HD := Lib.hid h
  have hcl := cst_le key seq L
  obtain ⟨E, hE⟩ : ∃ E, E = cst key seq L := ⟨_, rfl⟩
  have HE : Hid (E = dcH ⟨key, zB, seq, false⟩ L 12 0 0) := Lib.hid (by rw [hE, dc_cst])
  rw [← hE] at hcl ⊢
  clear hE h
  go_enter Try.func49, Try.ntmps49
  go_wp2_with fail
  refine (dnone_any R w (by obtain ⟨Ah, ch, Ae, ce, At, ct, h1, -⟩ := HD.out; exact h1.c 0 _ rfl)).mono ?_
  rintro e w2 ⟨rfl, rfl⟩
  go_wp2_with fail
  have B1 : Hid (Below w.heap.size w (w.alloc (.cells #[.string key, .string { data := #[] }, .int .i64 seq, .bool false] 32))) := Lib.hid ((Below.refl _ _).alloc (Nat.le_refl _) _)
  have X1 : Hid (BxV (w.alloc (.cells #[.string key, .string { data := #[] }, .int .i64 seq, .bool false] 32)) w.heap.size [.string key, .string { data := #[] }, .int .i64 seq, .bool false]) := Lib.hid (BxV.new w _ _)
  have D1 := Lib.hid (HD.out.next ((Below.refl _ _).alloc (Nat.le_refl _) (.cells #[.string key, .string { data := #[] }, .int .i64 seq, .bool false] 32)))
  generalize w.alloc (.cells #[.string key, .string { data := #[] }, .int .i64 seq, .bool false] 32) = w1 at *
  clear HD
  go_loopw [8, 9, 10] (fun s8 s9 s10 wr => ∃ n p hh : Nat, s8 = .int .i64 (n : Int) ∧ s9 = .int .i64 ((p : Int) - 1) ∧ s10 = .int .i64 (hh : Int) ∧ hh ≤ 12 ∧ Hid (E = dcH ⟨key, zB, seq, false⟩ L hh p n) ∧ Hid (Below w1.heap.size w1 wr)) (fun _ _ s10 _ => (intOf s10).toNat)
  case atStart => exact ⟨0, 0, 12, rfl, rfl, rfl, Nat.le_refl _, HE, Lib.hid (Below.refl _ _)⟩
  case round =>
    clear HE
    obtain ⟨n, p, hh, rfl, rfl, rfl, hh12, HE, B2⟩ := hrel
    obtain ⟨w2, rfl⟩ : ∃ x, x = wr := ⟨_, rfl⟩
    rcases Nat.eq_zero_or_pos hh with h0 | h0
    · subst h0
      have SEQ : Hid (E = n) := Lib.hid (by rw [HE.out]; rfl)
      clear HE
      go_wp2_with fail
      go_ret
      exact ⟨by rw [SEQ.out]; rfl, B1.out.trans (B2.out.mono B1.out.size)⟩
    · obtain ⟨g, rfl⟩ : ∃ g, hh = g + 1 := ⟨hh - 1, by omega⟩
      have i1 : (1 : Int) ≤ ((g + 1 : Nat) : Int) := by omega
      have HLE : Hid (lnL ((g + 1 : Nat) : Int) L = lnJ ((g + 1 : Nat) : Int) 0 L) := Lib.hid (by unfold lnL; rw [if_pos ⟨by omega, by omega⟩])
      go_wp2_with fail
      refine (dlane_any S R hs L hL ((g + 1 : Nat) : Int) w2 (D1.out.next B2.out)).mono ?_
      rintro e w3 ⟨u, rfl, own, hb⟩
      obtain ⟨AV, cV, rfl, -, rV⟩ := own_sl own
      have RV := Lib.hid rV
      have B3 := Lib.hid (B2.out.trans (hb.mono B2.out.size))
      have HLT := Lib.hid (lnL_lt (h := ((g + 1 : Nat) : Int)) (L := L))
      have HLL := lnL_len ((g + 1 : Nat) : Int) L
      have HE2 : Hid (E = dcH ⟨key, zB, seq, false⟩ L g (dcI ⟨key, zB, seq, false⟩ L (lnL ((g + 1 : Nat) : Int) L) p n).1 (dcI ⟨key, zB, seq, false⟩ L (lnL ((g + 1 : Nat) : Int) L) p n).2) := Lib.hid (by rw [HE.out, dcH, HLE.out])
      clear own rV hb HE HLE
      generalize lnL ((g + 1 : Nat) : Int) L = V at *
      go_wp2_with fail
      go_loopw [8, 9, 12] (fun s8 s9 s12 wr => ∃ n' p' i : Nat, s8 = .int .i64 (n' : Int) ∧ s9 = .int .i64 ((p' : Int) - 1) ∧ s12 = .int .i64 (i : Int) ∧ i ≤ V.length ∧ Hid (dcI ⟨key, zB, seq, false⟩ L V p n = dcI ⟨key, zB, seq, false⟩ L (V.drop i) p' n') ∧ Hid (Below w3.heap.size w3 wr)) (fun _ _ s12 _ => V.length - (intOf s12).toNat)
      case atStart => exact ⟨n, p, 0, rfl, rfl, rfl, Nat.zero_le _, Lib.hid rfl, Lib.hid (Below.refl _ _)⟩
      case round =>
        obtain ⟨n', p', i, rfl, rfl, rfl, hi, HI, B4⟩ := hrel
        obtain ⟨w4, rfl⟩ : ∃ x, x = wr := ⟨_, rfl⟩
        have HEG : n' ≤ E := by
          have h1 := dcI_ge ⟨key, zB, seq, false⟩ L (V.drop i) p' n'
          rw [← HI.out] at h1
          have h2 := dcH_ge ⟨key, zB, seq, false⟩ L g (dcI ⟨key, zB, seq, false⟩ L V p n).1 (dcI ⟨key, zB, seq, false⟩ L V p n).2
          rw [← HE2.out] at h2
          omega
        by_cases hlt : i < V.length
        · obtain ⟨x, hx⟩ : ∃ x, V[i]? = some x := ⟨_, List.getElem?_eq_getElem hlt⟩
          obtain ⟨hx0, hxL⟩ := HLT.out x (List.mem_of_getElem? hx)
          obtain ⟨bv, ov, rfl, hbv, hcv⟩ := RV.out.at_ (nv_get hx)
          have dv := (B4.out.cell (p := ⟨bv, ov + i, none⟩) hbv).trans hcv
          have zv : bv < w4.heap.size := Nat.lt_of_lt_of_le hbv B4.out.size
          have j1 : (i : Int) < (V.length : Int) := by omega
          have j0 : (0 : Int) ≤ (i : Int) := by omega
          have HDR := Lib.hid (drop_at hx)
          clear hx hcv
          by_cases hxp : x < (p' : Int)
          · have k1 : x ≤ (p' : Int) - 1 := by omega
            have HI9 : Hid (dcI ⟨key, zB, seq, false⟩ L V p n = dcI ⟨key, zB, seq, false⟩ L (V.drop (i + 1)) p' n') := Lib.hid (by rw [HI.out, HDR.out, dcI, if_pos hxp])
            clear HI
            go_wp2_with fail
            go_roundw
            case rel => exact ⟨n', p', i + 1, rfl, rfl, by go_num, by omega, HI9, B4⟩
            case measure => (first | (simp [intOf]; done) | (simp [intOf]; omega))
          · have k1 : ¬ x ≤ (p' : Int) - 1 := by omega
            obtain ⟨q, rfl⟩ : ∃ q : Nat, x = (q : Int) := ⟨x.toNat, by omega⟩
            obtain ⟨y, hy⟩ : ∃ y, L[q]? = some y := ⟨_, List.getElem?_eq_getElem (by omega)⟩
            have e3 : (L.map Prod.fst).getD ((q : Int)).toNat Ent.z = y.1 := by
              rw [List.getD_eq_getElem?_getD, Int.toNat_natCast, List.getElem?_map, hy]
              rfl
            have D4 := D1.out.next (B3.out.trans (B4.out.mono B3.out.size))
            obtain ⟨Ah, ch, Ae, ce, At, ct, g1, g2, g3, g4, -⟩ := D4
            obtain ⟨b, off, rfl, hb, hce⟩ := dt_ent g3 hy
            obtain ⟨d0, d1, d2, d3⟩ := hce.below hb (Below.refl _ _)
            have XE := X1.out.next (B3.out.trans (B4.out.mono B3.out.size))
            have x0 := XE.c 0 _ rfl
            have x1 := XE.c 1 _ rfl
            have x2 := XE.c 2 _ rfl
            have x3 := XE.c 3 _ rfl
            have xl := XE.lt
            have c2 := g1.c 2 _ rfl
            have cl := g1.lt
            have HA := Lib.hid (fun W => rahead_any y.1 ⟨key, zB, seq, false⟩ W)
            unfold zB at HA
            have nw : IntKind.i64.wrap ((n' : Int) + 1) = (n' : Int) + 1 := IntWalk.i64_in _ (by omega)
            clear g1 g2 g3 g4 XE hce hy
            have hqn : ¬ (q : Int) < (p' : Int) := hxp
            cases hl2 : ltE y.1 ⟨key, zB, seq, false⟩
            · have HE9 : Hid (E = dcH ⟨key, zB, seq, false⟩ L g p' (n' + 1)) := Lib.hid (by rw [HE2.out, HI.out, HDR.out, dcI, if_neg hqn, e3, if_neg (by rw [hl2]; decide)])
              unfold zB at hl2
              rw [hl2] at HA
              clear hl2 HI HE2 e3
              go_wp2_with fail
              refine wp_qall (by kernel_rfl) (by kernel_rfl) ?_
              intro hcg
              repeat (first | go_big_quiet_step ((with_reducible (exact Calls.reg (HA.out _)))) | quiet_step ((with_reducible (exact Calls.reg (HA.out _)))))
              refine wpQuiet_nil ?_
              intro wq hbwq hcwq hfwq
              clear hcg
              have B9 := Lib.hid (B3.out.trans ((B4.out.trans (hbwq.mono B4.out.size)).mono B3.out.size))
              clear hbwq hcwq hfwq
              go_wp2_with fail
              go_roundw
              case rel => exact ⟨n' + 1, p', g, by go_num, rfl, by go_num, by omega, HE9, B9⟩
              case measure => (first | (simp [intOf]; done) | (simp [intOf]; omega))
            · have HI9 : Hid (dcI ⟨key, zB, seq, false⟩ L V p n = dcI ⟨key, zB, seq, false⟩ L (V.drop (i + 1)) (q + 1) (n' + 1)) := Lib.hid (by rw [HI.out, HDR.out, dcI, if_neg hqn, e3, if_pos hl2, Int.toNat_natCast])
              unfold zB at hl2
              rw [hl2] at HA
              clear hl2 HI e3
              go_wp2_with fail
              refine wp_qall (by kernel_rfl) (by kernel_rfl) ?_
              intro hcg
              repeat (first | go_big_quiet_step ((with_reducible (exact Calls.reg (HA.out _)))) | quiet_step ((with_reducible (exact Calls.reg (HA.out _)))))
              refine wpQuiet_nil ?_
              intro wq hbwq hcwq hfwq
              clear hcg
              have B9 := Lib.hid (B4.out.trans (hbwq.mono B4.out.size))
              have dv' := (hcwq _ _ zv).trans dv
              have zv' : bv < wq.heap.size := Nat.lt_of_lt_of_le zv hbwq.size
              clear hbwq hcwq hfwq
              go_wp2_with fail
              go_roundw
              case rel => exact ⟨n' + 1, q + 1, i + 1, by go_num, by simp, by go_num, by omega, HI9, B9⟩
              case measure => (first | (simp [intOf]; done) | (simp [intOf]; omega))
        · have j1 : ¬ (i : Int) < (V.length : Int) := by omega
          have HE9 : Hid (E = dcH ⟨key, zB, seq, false⟩ L g p' n') := Lib.hid (by rw [HE2.out, HI.out, List.drop_eq_nil_of_le (by omega)]; rfl)
          have B9 := Lib.hid (B3.out.trans (B4.out.mono B3.out.size))
          clear HI HE2
          go_wp2_with fail
          go_roundw
          case rel => exact ⟨n', p', g, rfl, rfl, by go_num, by omega, HE9, B9⟩
          case measure => (first | (simp [intOf]; done) | (simp [intOf]; omega))
end Go.Proofs.Ytjhgbdeadkoegaa
