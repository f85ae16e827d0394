/- Walk: the keys that have a value at a stamp. -/
import Derived.Test.YtgikaglmeeeplaaIc
import Derived.Test.YtgikaglmeeeplaaId
import Derived.Test.YtgikaglmeeeplaaCut
import Derived.Test.YtgikaglmeeeplaaBox
namespace Go.Proofs.Ytgikaglmeeeplaa
open Go.RowKit Go.St
set_option linter.unusedVariables false
set_option linter.unusedSimpArgs false
set_option maxRecDepth 100000

theorem styK : STy Try.prog 51 67 2 32 (.agg #[.string { data := #[] }, .string { data := #[] }]) := ⟨Try.underlying51, ⟨_, rfl, by kernel_rfl, by kernel_rfl, by kernel_rfl⟩, rfl, by decide⟩
set_option maxHeartbeats 6400000 in
theorem rows24_any (A : Option Addr) (n c : Nat) (cs : List Cel) (hl : cs.length = n) (hn : n ≤ 1000000) (hs : risC cs) (hz : ∀ c ∈ cs, c.key ≠ zE) (s : Stp) (B : Nat) (w : World) (hr : Rd w B A (cev cs)) (hB : B ≤ w.heap.size) :
    Calls Try.prog 40 #[.slice A n c, .agg #[.int .i64 s.wall, .int .i32 s.logic, .int .i32 s.tag]] w fun e w' => ∃ v, e = .returned v ∧ w'.ownsRow w.heap.size 67 2 v (rowsL cs s).length (kvv (rowsL cs s)) ∧ Below w.heap.size w w' := by
  have HL := Lib.hid hl
  have HR := Lib.hid hr
  have HS := Lib.hid hs
  have HZ := Lib.hid hz
  clear hl hr hs hz
  obtain ⟨E, hE⟩ : ∃ E, E = rowsL cs s := ⟨_, rfl⟩
  rw [← hE]
  have HE := Lib.hid hE
  clear hE
  go_enter Try.func40, Try.ntmps40
  go_wp2_with fail
  obtain ⟨Z, hZ⟩ : ∃ Z, Z = w.heap.size := ⟨_, rfl⟩
  have z0 := World.cell?_alloc_mark w #[.int .i64 s.wall, .int .i32 s.logic, .int .i32 s.tag] 25 (0, 0) 0
  have z1 := World.cell?_alloc_mark w #[.int .i64 s.wall, .int .i32 s.logic, .int .i32 s.tag] 25 (0, 0) 1
  have z2 := World.cell?_alloc_mark w #[.int .i64 s.wall, .int .i32 s.logic, .int .i32 s.tag] 25 (0, 0) 2
  simp only [List.getElem?_toArray, List.getElem?_cons_zero, List.getElem?_cons_succ] at z0 z1 z2
  have BW := Lib.hid ((Below.refl w.heap.size w).alloc (Nat.le_refl _) (.cells #[.int .i64 s.wall, .int .i32 s.logic, .int .i32 s.tag] 25))
  have hZl : Z < (w.alloc (.cells #[.int .i64 s.wall, .int .i32 s.logic, .int .i32 s.tag] 25)).heap.size := by rw [hZ]; simp
  have hBZ : B ≤ Z := by omega
  rw [← hZ] at z0 z1 z2
  have Z0 := Lib.hid z0
  have Z1 := Lib.hid z1
  have Z2 := Lib.hid z2
  rw [← hZ]
  have hzb : w.heap.size = Z := hZ.symm
  have HZB := Lib.hid hzb
  have HR1 := Lib.hid (HR.out.below (BW.out.mono hB))
  clear z0 z1 z2 hZ hzb HR
  generalize w.alloc (.cells #[.int .i64 s.wall, .int .i32 s.logic, .int .i32 s.tag] 25) = w1 at *
  go_loopw [5, 6] (fun s5 s6 wr => ∃ (v : Value) (out : List (ByteArray × ByteArray)) (i : Nat), v = s5 ∧ s6 = .int .i64 (i : Int) ∧ i ≤ n ∧ Hid (out.length ≤ i) ∧ Hid (wr.ownsRow w1.heap.size 67 2 v out.length (kvv out)) ∧ Hid (E = out ++ rowsA s zE (cs.drop i)) ∧ Hid (Below w1.heap.size w1 wr)) (fun s5 s6 _ => n - (intOf s6).toNat)
  case atStart => exact ⟨_, [], 0, rfl, rfl, Nat.zero_le _, Lib.hid (Nat.le_refl _), Lib.hid (World.ownsRow_nil _ _ _ _), HE, Lib.hid (Below.refl _ _)⟩
  case round =>
    obtain ⟨v, out, i, rfl, rfl, hi, HOL, HO, HQ, hB1⟩ := hrel
    obtain ⟨w2, rfl⟩ : ∃ x, x = wr := ⟨_, rfl⟩
    by_cases hlt : i < n
    · obtain ⟨x0, hx0⟩ : ∃ x0, cs[i]? = some x0 := ⟨_, List.getElem?_eq_getElem (by rw [HL.out]; exact hlt)⟩
      obtain ⟨b, off, rfl, hb, hce0⟩ := ce_at HR1.out hx0
      have hb1 : b < w1.heap.size := by omega
      have HC0 := Lib.hid hce0
      have HX0 := Lib.hid hx0
      have i1 : (i : Int) < (n : Int) := by omega
      have i0 : (0 : Int) ≤ (i : Int) := by omega
      clear hce0 hx0
      go_wp2_with fail
      go_loopw [7] (fun s7 wr => ∃ k : Nat, s7 = .int .i64 (k : Int) ∧ i ≤ k ∧ k ≤ n ∧ Hid (∀ j c, i ≤ j → j < k → cs[j]? = some c → c.key = x0.key ∧ le c.at_ s = false) ∧ Hid (Below w2.heap.size w2 wr)) (fun s7 _ => n - (intOf s7).toNat)
      case atStart => exact ⟨i, rfl, Nat.le_refl _, hi, Lib.hid (fun j c h1 h2 => by omega), Lib.hid (Below.refl _ _)⟩
      case round =>
        obtain ⟨k, rfl, hik, hk, hU, hB2⟩ := hrel
        obtain ⟨w3, rfl⟩ : ∃ x, x = wr := ⟨_, rfl⟩
        have B13 := Lib.hid (hB1.out.trans (hB2.out.mono hB1.out.size))
        obtain ⟨y0, -, -, -, -, -⟩ := HC0.out.below hb1 B13.out
        have z0 := (B13.out.cell (p := ⟨Z, 0, none⟩) hZl).trans Z0.out
        have z1 := (B13.out.cell (p := ⟨Z, 1, none⟩) hZl).trans Z1.out
        have z2 := (B13.out.cell (p := ⟨Z, 2, none⟩) hZl).trans Z2.out
        have k0 : (0 : Int) ≤ (k : Int) := by omega
        have hb3 : b < w3.heap.size := by have := B13.out.size; omega
        have hZ3 : Z < w3.heap.size := by have := B13.out.size; omega
        by_cases hkn : k < n
        · obtain ⟨x, hx⟩ : ∃ x, cs[k]? = some x := ⟨_, List.getElem?_eq_getElem (by rw [HL.out]; exact hkn)⟩
          obtain ⟨b', off', eA, hb', hce⟩ := ce_at HR1.out hx
          injection eA with eA
          injection eA with eb eo
          subst eb eo
          obtain ⟨d0, d1, d2, d3, d4, d5⟩ := hce.below hb1 B13.out
          have HCX := Lib.hid hce
          have HX := Lib.hid hx
          have k1 : (k : Int) < (n : Int) := by omega
          have k2 : decide ((k : Int) < (n : Int)) = true := decide_eq_true k1
          clear hce hx hb'
          by_cases q1 : x.key = x0.key
          · have e1 : (x.key.toList == x0.key.toList) = true := by rw [str_eq, decide_eq_true q1]
            cases q2 : less s x.at_
            · have q4 : ¬ (0 < cmpS x.at_ s) := by
                cases q5 : less x.at_ s
                · rw [less_tri q5 q2, cmp_eq]; omega
                · rw [cmp_lt q5]; omega
              have R2 := Lib.hid (fun i' a b c d => rows_end2 (at_ := s) (i := i) (k := k) (i' := i') (κ := x0.key) HS.out HZ.out hik hU.out HX.out q1 (by unfold le; rw [q2]; rfl) a b c d)
              obtain ⟨xk, xa, xv, xd⟩ := x
              simp only at d0 d1 d2 d3 d4 d5 e1 q4 R2
              clear q1 q2
              cases xd
              · have R4 : Hid (∀ i', i < i' → i' ≤ n → (∀ j c, i ≤ j → j < i' → cs[j]? = some c → c.key = x0.key) → (∀ c, cs[i']? = some c → c.key ≠ x0.key) → E = (out ++ [(xk, xv)]) ++ rowsA s zE (cs.drop i')) := Lib.hid (fun i' a b c d => by
                  rw [HQ.out, R2.out i' a (by rw [HL.out]; exact b) c d, List.append_assoc]
                  rfl)
                go_wp2_with fail
                refine wp_qall (by kernel_rfl) (by kernel_rfl) ?_
                intro hcg
                repeat (first | go_big_quiet_step ((with_reducible (exact Calls.reg (hcompare_any xa s _)))) | quiet_step ((with_reducible (exact Calls.reg (hcompare_any xa s _)))))
                refine wpQuiet_nil ?_
                intro wq hbwq hcwq hfwq
                clear hcg
                have y0q := (hcwq b (off + i * 6) hb3).trans y0
                have d0q := (hcwq b (off + k * 6) hb3).trans d0
                have d5q := (hcwq b (off + k * 6 + 5) hb3).trans d5
                have hbq : b < wq.heap.size := Nat.lt_of_lt_of_le hb3 hbwq.size
                go_wp2_with fail
                refine wp_qall (by kernel_rfl) (by kernel_rfl) ?_
                intro hcg
                repeat (first | go_big_quiet_step (fail) | quiet_step (fail))
                refine wpQuiet_nil ?_
                intro wq2 hbwq2 hcwq2 hfwq2
                clear hcg
                have B3 := Lib.hid (B13.out.trans ((hbwq.trans (hbwq2.mono hbwq.size)).mono B13.out.size))
                have O3 := Lib.hid (own_keep (own_keep (own_keep HO.out hB2.out (Nat.le_refl _)) hbwq (Nat.le_refl _)) (hbwq2.trans ((Below.drew (Below.refl wq2.heap.size wq2)).mono hbwq2.size)) (Nat.le_refl _))
                have L4 : Hid ((out ++ [(xk, xv)]).length ≤ i + 1) := Lib.hid (by have := HOL.out; rw [List.length_append]; simp only [List.length_cons, List.length_nil]; omega)
                have L3 : out.length ≤ 1000000 := by have := HOL.out; omega
                clear hbwq hcwq hfwq hbwq2 hcwq2 hfwq2 hB1 B13 hB2 HO HOL y0q d0q d5q hbq R2 HQ y0 d0 d1 d2 d3 d4 d5
                go_wp2_with fail
                refine wp_heldall (S := fun X => Below w1.heap.size w1 X) 15 (by kernel_rfl) rfl (Below.drew B3.out) (fun hHeld => ?_)
                refine takeL (i := 0) (v := ?_) rfl (by kernel_rfl) (by kernel_rfl) (by kernel_rfl) (fun _ _ _ h => h) ⟨by rfl, ?_⟩ (by first | assumption | trivial) ?_
                rotate_left
                · intro W9 hSw
                  (try dsimp only at hSw)
                  (obtain ⟨r0, r1, r2, r3, r4, r5⟩ := HCX.out.below hb1 hSw; dsimp only at r0 r4)
                  go_simp
                  try with_reducible rfl
                (try simp only [Act.put, List.setIfInBounds_toArray, List.set_cons_zero, List.set_cons_succ])
                refine takeL (i := 1) (v := ?_) rfl (by kernel_rfl) (by kernel_rfl) (by kernel_rfl) (fun _ _ _ h => h) ⟨by rfl, ?_⟩ (by first | assumption | trivial) ?_
                rotate_left
                · intro W9 hSw
                  (try dsimp only at hSw)
                  (obtain ⟨r0, r1, r2, r3, r4, r5⟩ := HCX.out.below hb1 hSw; dsimp only at r0 r4)
                  go_simp
                  try with_reducible rfl
                (try simp only [Act.put, List.setIfInBounds_toArray, List.set_cons_zero, List.set_cons_succ])
                refine takeL (i := 2) (v := ?_) rfl (by kernel_rfl) (by kernel_rfl) (by kernel_rfl) (fun _ _ _ h => h) ⟨by rfl, ?_⟩ (by first | assumption | trivial) ?_
                rotate_left
                · intro W9 hSw
                  (try dsimp only at hSw)
                  (obtain ⟨r0, r1, r2, r3, r4, r5⟩ := HCX.out.below hb1 hSw; dsimp only at r0 r4)
                  go_simp
                  try with_reducible rfl
                (try simp only [Act.put, List.setIfInBounds_toArray, List.set_cons_zero, List.set_cons_succ])
                refine takeL (i := 3) (v := ?_) rfl (by kernel_rfl) (by kernel_rfl) (by kernel_rfl) (fun _ _ _ h => h) ⟨by rfl, ?_⟩ (by first | assumption | trivial) ?_
                rotate_left
                · intro W9 hSw
                  (try dsimp only at hSw)
                  (obtain ⟨r0, r1, r2, r3, r4, r5⟩ := HCX.out.below hb1 hSw; dsimp only at r0 r4)
                  go_simp
                  try with_reducible rfl
                (try simp only [Act.put, List.setIfInBounds_toArray, List.set_cons_zero, List.set_cons_succ])
                refine takeL (i := 4) (v := ?_) rfl (by kernel_rfl) (by kernel_rfl) (by kernel_rfl) (fun _ _ _ h => h) ⟨by rfl, ?_⟩ (by first | assumption | trivial) ?_
                rotate_left
                · intro W9 hSw
                  (try dsimp only at hSw)
                  (obtain ⟨r0, r1, r2, r3, r4, r5⟩ := HCX.out.below hb1 hSw; dsimp only at r0 r4)
                  go_simp
                  try with_reducible rfl
                (try simp only [Act.put, List.setIfInBounds_toArray, List.set_cons_zero, List.set_cons_succ])
                refine takeL (i := 5) (v := ?_) rfl (by kernel_rfl) (by kernel_rfl) (by kernel_rfl) (fun _ _ _ h => h) ⟨by rfl, ?_⟩ (by first | assumption | trivial) ?_
                rotate_left
                · intro W9 hSw
                  (try dsimp only at hSw)
                  (obtain ⟨r0, r1, r2, r3, r4, r5⟩ := HCX.out.below hb1 hSw; dsimp only at r0 r4)
                  go_simp
                  try with_reducible rfl
                (try simp only [Act.put, List.setIfInBounds_toArray, List.set_cons_zero, List.set_cons_succ])
                refine takeL (i := 6) (v := ?_) rfl (by kernel_rfl) (by kernel_rfl) (by kernel_rfl) (fun _ _ _ h => h) ⟨by rfl, ?_⟩ (by first | assumption | trivial) ?_
                rotate_left
                · intro W9 hSw
                  (try dsimp only at hSw)
                  (obtain ⟨r0, r1, r2, r3, r4, r5⟩ := HCX.out.below hb1 hSw; dsimp only at r0 r4)
                  go_simp
                  try with_reducible rfl
                (try simp only [Act.put, List.setIfInBounds_toArray, List.set_cons_zero, List.set_cons_succ])
                refine takeL (i := 7) (v := ?_) rfl (by kernel_rfl) (by kernel_rfl) (by kernel_rfl) (fun _ _ _ h => h) ⟨by rfl, ?_⟩ (by first | assumption | trivial) ?_
                rotate_left
                · intro W9 hSw
                  (try dsimp only at hSw)
                  (obtain ⟨r0, r1, r2, r3, r4, r5⟩ := HCX.out.below hb1 hSw; dsimp only at r0 r4)
                  go_simp
                  try with_reducible rfl
                (try simp only [Act.put, List.setIfInBounds_toArray, List.set_cons_zero, List.set_cons_succ])
                refine takeL (i := 8) (v := ?_) rfl (by kernel_rfl) (by kernel_rfl) (by kernel_rfl) (fun _ _ _ h => h) ⟨by rfl, ?_⟩ (by first | assumption | trivial) ?_
                rotate_left
                · intro W9 hSw
                  (try dsimp only at hSw)
                  (obtain ⟨r0, r1, r2, r3, r4, r5⟩ := HCX.out.below hb1 hSw; dsimp only at r0 r4)
                  go_simp
                  try with_reducible rfl
                (try simp only [Act.put, List.setIfInBounds_toArray, List.set_cons_zero, List.set_cons_succ])
                refine takeL (i := 9) (v := ?_) rfl (by kernel_rfl) (by kernel_rfl) (by kernel_rfl) (fun _ _ _ h => h) ⟨by rfl, ?_⟩ (by first | assumption | trivial) ?_
                rotate_left
                · intro W9 hSw
                  (try dsimp only at hSw)
                  (obtain ⟨r0, r1, r2, r3, r4, r5⟩ := HCX.out.below hb1 hSw; dsimp only at r0 r4)
                  go_simp
                  try with_reducible rfl
                (try simp only [Act.put, List.setIfInBounds_toArray, List.set_cons_zero, List.set_cons_succ])
                refine takeL (i := 10) (v := ?_) rfl (by kernel_rfl) (by kernel_rfl) (by kernel_rfl) (fun _ _ _ h => h) ⟨by rfl, ?_⟩ (by first | assumption | trivial) ?_
                rotate_left
                · intro W9 hSw
                  (try dsimp only at hSw)
                  (obtain ⟨r0, r1, r2, r3, r4, r5⟩ := HCX.out.below hb1 hSw; dsimp only at r0 r4)
                  go_simp
                  try with_reducible rfl
                (try simp only [Act.put, List.setIfInBounds_toArray, List.set_cons_zero, List.set_cons_succ])
                refine takeL (i := 11) (v := ?_) rfl (by kernel_rfl) (by kernel_rfl) (by kernel_rfl) (fun _ _ _ h => h) ⟨by rfl, ?_⟩ (by first | assumption | trivial) ?_
                rotate_left
                · intro W9 hSw
                  (try dsimp only at hSw)
                  (obtain ⟨r0, r1, r2, r3, r4, r5⟩ := HCX.out.below hb1 hSw; dsimp only at r0 r4)
                  go_simp
                  try with_reducible rfl
                (try simp only [Act.put, List.setIfInBounds_toArray, List.set_cons_zero, List.set_cons_succ])
                generalize wq2.drew = X at *
                refine wpAnyH_ready (rs := [12]) (by kernel_rfl) (by simp) ?_
                refine consL rfl (by rfl) (fun K hK => ?_) ?_
                · go_simp
                  have h6 : Below w1.heap.size w1 (X.alloc (.cells #[.string xk, .string xv] 67)) := hHeld.alloc hHeld.size _
                  have OX := Lib.hid (O3.out.alloc (.cells #[.string xk, .string xv] 67))
                  refine hK.out _ _ h6 (fun _ => ?_)
                  clear hK K
                  have r1 := rd_frC X #[.string xk, .string xv] 67 (0, 0)
                  generalize X.alloc (.cells #[.string xk, .string xv] 67) = X2 at *
                  generalize X.heap.size = r2 at *
                  (try simp only [Act.put, List.setIfInBounds_toArray, List.set_cons_zero, List.set_cons_succ])
                  refine wpAnyH_ready (rs := [13]) (by kernel_rfl) (by simp) ?_
                  refine consL rfl (by rfl) (fun K hK => ?_) ?_
                  · refine wp_app styK (.tmp 67) (.tmp 79) rfl w1.heap.size OX.out rfl 1 1 r1 rfl rfl (by simp [Value.oneCell']) (by unfold maxLen; omega) (by omega) h6.size ?_
                    intro v4 w4 own4 gr4 nil4 at4
                    have h7 : Below w1.heap.size w1 w4 := h6.grown gr4 h6.size (fun g e => (OX.out.lt g e).1)
                    refine hK.out _ _ h7 (fun _ => ?_)
                    clear hK K
                    have B4 := Lib.hid h7
                    have O4 : Hid (w4.ownsRow w1.heap.size 67 2 v4 (out ++ [(xk, xv)]).length (kvv (out ++ [(xk, xv)]))) := Lib.hid (own_eq own4 (by simp) (by rw [kvv_app]; simp [kvv]))
                    clear h7 own4 gr4 nil4 at4 h6 OX r1 hHeld B3 O3
                    generalize out ++ [(xk, xv)] = out4 at *
                    (try simp only [Act.put, List.setIfInBounds_toArray, List.set_cons_zero, List.set_cons_succ])
                    refine takeL (i := 14) (v := ?_) rfl (by kernel_rfl) (by kernel_rfl) (by kernel_rfl) (fun _ _ _ h => h) ⟨by rfl, ?_⟩ (by first | assumption | trivial) ?_
                    rotate_left
                    · intro W9 hSw
                      (try dsimp only at hSw)
                      go_simp
                      try with_reducible rfl
                    (try simp only [Act.put, List.setIfInBounds_toArray, List.set_cons_zero, List.set_cons_succ])
                    refine wpAnyH_done (by kernel_rfl) ?_ _
                    go_wp2_with fail
                    go_loopw [7] (fun s7 wr => ∃ k : Nat, s7 = .int .i64 (k : Int) ∧ i ≤ k ∧ k ≤ n ∧ Hid (∀ j c, i ≤ j → j < k → cs[j]? = some c → c.key = x0.key) ∧ Hid (Below w4.heap.size w4 wr)) (fun s7 _ => n - (intOf s7).toNat)
                    case atStart => exact ⟨i, rfl, Nat.le_refl _, hi, Lib.hid (fun j c h1 h2 => by omega), Lib.hid (Below.refl _ _)⟩
                    case round =>
                      obtain ⟨k', rfl, hik', hk', hU', hB5⟩ := hrel
                      obtain ⟨w5, rfl⟩ : ∃ x, x = wr := ⟨_, rfl⟩
                      have B15 := Lib.hid (B4.out.trans (hB5.out.mono B4.out.size))
                      obtain ⟨y0', -, -, -, -, -⟩ := HC0.out.below hb1 B15.out
                      have k0' : (0 : Int) ≤ (k' : Int) := by omega
                      have hb5 : b < w5.heap.size := by have := B15.out.size; omega
                      have OW5 : Hid (∀ W, Below w5.heap.size w5 W → W.ownsRow w1.heap.size 67 2 v4 out4.length (kvv out4)) := Lib.hid (fun W h => own_keep (own_keep O4.out hB5.out (Nat.le_refl _)) h (Nat.le_refl _))
                      have BW5 : Hid (∀ W, Below w5.heap.size w5 W → Below w1.heap.size w1 W) := Lib.hid (fun W h => B15.out.trans (h.mono B15.out.size))
                      have BV5 : Hid (∀ W, Below w5.heap.size w5 W → Below w4.heap.size w4 W) := Lib.hid (fun W h => hB5.out.trans (h.mono hB5.out.size))
                      by_cases hkn' : k' < n
                      · obtain ⟨x', hx'⟩ : ∃ x', cs[k']? = some x' := ⟨_, List.getElem?_eq_getElem (by rw [HL.out]; exact hkn')⟩
                        obtain ⟨b'', off'', eA', hb'', hce'⟩ := ce_at HR1.out hx'
                        injection eA' with eA'
                        injection eA' with eb' eo'
                        subst eb' eo'
                        obtain ⟨g0, -, -, -, -, -⟩ := hce'.below hb1 B15.out
                        have HX' := Lib.hid hx'
                        have k1' : (k' : Int) < (n : Int) := by omega
                        have k2' : decide ((k' : Int) < (n : Int)) = true := decide_eq_true k1'
                        clear hce' hx' hb''
                        by_cases q1' : x'.key = x0.key
                        · have e1' : (x'.key.toList == x0.key.toList) = true := by rw [str_eq, decide_eq_true q1']
                          have HU2' : Hid (∀ j c, i ≤ j → j < k' + 1 → cs[j]? = some c → c.key = x0.key) := Lib.hid (fun j c h1 h2 h3 => by
                            rcases Nat.lt_or_ge j k' with h | h
                            · exact hU'.out j c h1 h h3
                            · have e : j = k' := by omega
                              subst e
                              rw [HX'.out] at h3
                              injection h3 with h3
                              rw [← h3]
                              exact q1')
                          clear q1'
                          go_wp2_with fail
                          refine wp_qall (by kernel_rfl) (by kernel_rfl) ?_
                          intro hcg
                          repeat (first | go_big_quiet_step (fail) | quiet_step (fail))
                          refine wpQuiet_nil ?_
                          intro wq' hbwq' hcwq' hfwq'
                          clear hcg
                          have B6 := Lib.hid (BV5.out _ hbwq')
                          clear hbwq' hcwq' hfwq'
                          go_wp2_with fail
                          go_roundw
                          case rel => exact ⟨k' + 1, by go_num, by omega, by omega, HU2', B6⟩
                          case measure => simp [intOf]; omega
                        · have e1' : (x'.key.toList == x0.key.toList) = false := by rw [str_eq, decide_eq_false q1']
                          have hki : i < k' := by
                            rcases Nat.lt_or_ge i k' with h | h
                            · exact h
                            · have e : k' = i := by omega
                              subst e
                              have h2 := HX'.out
                              rw [HX0.out] at h2
                              injection h2 with h2
                              exact absurd (by rw [h2]) q1'
                          have HF := Lib.hid (R4.out k' hki hk' hU'.out (fun c hc => by
                            rw [HX'.out] at hc
                            injection hc with hc
                            rw [← hc]
                            exact q1'))
                          clear q1'
                          go_wp2_with fail
                          refine wp_qall (by kernel_rfl) (by kernel_rfl) ?_
                          intro hcg
                          repeat (first | go_big_quiet_step (fail) | quiet_step (fail))
                          refine wpQuiet_nil ?_
                          intro wq' hbwq' hcwq' hfwq'
                          clear hcg
                          have B6 := Lib.hid (BW5.out _ hbwq')
                          have O6 := Lib.hid (OW5.out _ hbwq')
                          clear hbwq' hcwq' hfwq'
                          go_wp2_with fail
                          go_roundw
                          case rel => exact ⟨v4, out4, k', rfl, rfl, hk', Lib.hid (by have := L4.out; omega), O6, HF, B6⟩
                          case measure => simp [intOf]; omega
                      · have k1' : ¬ (k' : Int) < (n : Int) := by omega
                        have k2' : decide ((k' : Int) < (n : Int)) = false := decide_eq_false k1'
                        have hki : i < k' := by omega
                        have HF := Lib.hid (R4.out k' hki hk' hU'.out (fun c hc => by
                          have h1 := (List.getElem?_eq_some_iff.1 hc).1
                          have h2 := HL.out
                          omega))
                        go_wp2_with fail
                        refine wp_qall (by kernel_rfl) (by kernel_rfl) ?_
                        intro hcg
                        repeat (first | go_big_quiet_step (fail) | quiet_step (fail))
                        refine wpQuiet_nil ?_
                        intro wq' hbwq' hcwq' hfwq'
                        clear hcg
                        have B6 := Lib.hid (BW5.out _ hbwq')
                        have O6 := Lib.hid (OW5.out _ hbwq')
                        clear hbwq' hcwq' hfwq'
                        go_wp2_with fail
                        go_roundw
                        case rel => exact ⟨v4, out4, k', rfl, rfl, hk', Lib.hid (by have := L4.out; omega), O6, HF, B6⟩
                        case measure => simp [intOf]; omega
                  · exact AllReadyH.nil
                · exact AllReadyH.nil
              · have R4 : Hid (∀ i', i < i' → i' ≤ n → (∀ j c, i ≤ j → j < i' → cs[j]? = some c → c.key = x0.key) → (∀ c, cs[i']? = some c → c.key ≠ x0.key) → E = out ++ rowsA s zE (cs.drop i')) := Lib.hid (fun i' a b c d => by
                  rw [HQ.out, R2.out i' a (by rw [HL.out]; exact b) c d]
                  rfl)
                clear R2 HQ
                go_wp2_with fail
                refine wp_qall (by kernel_rfl) (by kernel_rfl) ?_
                intro hcg
                repeat (first | go_big_quiet_step ((with_reducible (exact Calls.reg (hcompare_any xa s _)))) | quiet_step ((with_reducible (exact Calls.reg (hcompare_any xa s _)))))
                refine wpQuiet_nil ?_
                intro wq hbwq hcwq hfwq
                clear hcg
                have y0q := (hcwq b (off + i * 6) hb3).trans y0
                have d0q := (hcwq b (off + k * 6) hb3).trans d0
                have d5q := (hcwq b (off + k * 6 + 5) hb3).trans d5
                have hbq : b < wq.heap.size := Nat.lt_of_lt_of_le hb3 hbwq.size
                go_wp2_with fail
                refine wp_qall (by kernel_rfl) (by kernel_rfl) ?_
                intro hcg
                repeat (first | go_big_quiet_step (fail) | quiet_step (fail))
                refine wpQuiet_nil ?_
                intro wq2 hbwq2 hcwq2 hfwq2
                clear hcg
                have B4 := Lib.hid (B13.out.trans ((hbwq.trans (hbwq2.mono hbwq.size)).mono B13.out.size))
                have O4 := Lib.hid (own_keep (own_keep (own_keep HO.out hB2.out (Nat.le_refl _)) hbwq (Nat.le_refl _)) hbwq2 (Nat.le_refl _))
                have L4 : Hid (out.length ≤ i + 1) := Lib.hid (by have := HOL.out; omega)
                clear hbwq hcwq hfwq hbwq2 hcwq2 hfwq2 hB1 B13 hB2 HO HOL
                obtain ⟨w4, rfl⟩ : ∃ x, x = wq2 := ⟨_, rfl⟩
                obtain ⟨v4, rfl⟩ : ∃ x, x = v := ⟨_, rfl⟩
                obtain ⟨out4, rfl⟩ : ∃ x, x = out := ⟨_, rfl⟩
                go_wp2_with fail
                go_loopw [7] (fun s7 wr => ∃ k : Nat, s7 = .int .i64 (k : Int) ∧ i ≤ k ∧ k ≤ n ∧ Hid (∀ j c, i ≤ j → j < k → cs[j]? = some c → c.key = x0.key) ∧ Hid (Below w4.heap.size w4 wr)) (fun s7 _ => n - (intOf s7).toNat)
                case atStart => exact ⟨i, rfl, Nat.le_refl _, hi, Lib.hid (fun j c h1 h2 => by omega), Lib.hid (Below.refl _ _)⟩
                case round =>
                  obtain ⟨k', rfl, hik', hk', hU', hB5⟩ := hrel
                  obtain ⟨w5, rfl⟩ : ∃ x, x = wr := ⟨_, rfl⟩
                  have B15 := Lib.hid (B4.out.trans (hB5.out.mono B4.out.size))
                  obtain ⟨y0', -, -, -, -, -⟩ := HC0.out.below hb1 B15.out
                  have k0' : (0 : Int) ≤ (k' : Int) := by omega
                  have hb5 : b < w5.heap.size := by have := B15.out.size; omega
                  have OW5 : Hid (∀ W, Below w5.heap.size w5 W → W.ownsRow w1.heap.size 67 2 v4 out4.length (kvv out4)) := Lib.hid (fun W h => own_keep (own_keep O4.out hB5.out (Nat.le_refl _)) h (Nat.le_refl _))
                  have BW5 : Hid (∀ W, Below w5.heap.size w5 W → Below w1.heap.size w1 W) := Lib.hid (fun W h => B15.out.trans (h.mono B15.out.size))
                  have BV5 : Hid (∀ W, Below w5.heap.size w5 W → Below w4.heap.size w4 W) := Lib.hid (fun W h => hB5.out.trans (h.mono hB5.out.size))
                  by_cases hkn' : k' < n
                  · obtain ⟨x', hx'⟩ : ∃ x', cs[k']? = some x' := ⟨_, List.getElem?_eq_getElem (by rw [HL.out]; exact hkn')⟩
                    obtain ⟨b'', off'', eA', hb'', hce'⟩ := ce_at HR1.out hx'
                    injection eA' with eA'
                    injection eA' with eb' eo'
                    subst eb' eo'
                    obtain ⟨g0, -, -, -, -, -⟩ := hce'.below hb1 B15.out
                    have HX' := Lib.hid hx'
                    have k1' : (k' : Int) < (n : Int) := by omega
                    have k2' : decide ((k' : Int) < (n : Int)) = true := decide_eq_true k1'
                    clear hce' hx' hb''
                    by_cases q1' : x'.key = x0.key
                    · have e1' : (x'.key.toList == x0.key.toList) = true := by rw [str_eq, decide_eq_true q1']
                      have HU2' : Hid (∀ j c, i ≤ j → j < k' + 1 → cs[j]? = some c → c.key = x0.key) := Lib.hid (fun j c h1 h2 h3 => by
                        rcases Nat.lt_or_ge j k' with h | h
                        · exact hU'.out j c h1 h h3
                        · have e : j = k' := by omega
                          subst e
                          rw [HX'.out] at h3
                          injection h3 with h3
                          rw [← h3]
                          exact q1')
                      clear q1'
                      go_wp2_with fail
                      refine wp_qall (by kernel_rfl) (by kernel_rfl) ?_
                      intro hcg
                      repeat (first | go_big_quiet_step (fail) | quiet_step (fail))
                      refine wpQuiet_nil ?_
                      intro wq' hbwq' hcwq' hfwq'
                      clear hcg
                      have B6 := Lib.hid (BV5.out _ hbwq')
                      clear hbwq' hcwq' hfwq'
                      go_wp2_with fail
                      go_roundw
                      case rel => exact ⟨k' + 1, by go_num, by omega, by omega, HU2', B6⟩
                      case measure => simp [intOf]; omega
                    · have e1' : (x'.key.toList == x0.key.toList) = false := by rw [str_eq, decide_eq_false q1']
                      have hki : i < k' := by
                        rcases Nat.lt_or_ge i k' with h | h
                        · exact h
                        · have e : k' = i := by omega
                          subst e
                          have h2 := HX'.out
                          rw [HX0.out] at h2
                          injection h2 with h2
                          exact absurd (by rw [h2]) q1'
                      have HF := Lib.hid (R4.out k' hki hk' hU'.out (fun c hc => by
                        rw [HX'.out] at hc
                        injection hc with hc
                        rw [← hc]
                        exact q1'))
                      clear q1'
                      go_wp2_with fail
                      refine wp_qall (by kernel_rfl) (by kernel_rfl) ?_
                      intro hcg
                      repeat (first | go_big_quiet_step (fail) | quiet_step (fail))
                      refine wpQuiet_nil ?_
                      intro wq' hbwq' hcwq' hfwq'
                      clear hcg
                      have B6 := Lib.hid (BW5.out _ hbwq')
                      have O6 := Lib.hid (OW5.out _ hbwq')
                      clear hbwq' hcwq' hfwq'
                      go_wp2_with fail
                      go_roundw
                      case rel => exact ⟨v4, out4, k', rfl, rfl, hk', Lib.hid (by have := L4.out; omega), O6, HF, B6⟩
                      case measure => simp [intOf]; omega
                  · have k1' : ¬ (k' : Int) < (n : Int) := by omega
                    have k2' : decide ((k' : Int) < (n : Int)) = false := decide_eq_false k1'
                    have hki : i < k' := by omega
                    have HF := Lib.hid (R4.out k' hki hk' hU'.out (fun c hc => by
                      have h1 := (List.getElem?_eq_some_iff.1 hc).1
                      have h2 := HL.out
                      omega))
                    go_wp2_with fail
                    refine wp_qall (by kernel_rfl) (by kernel_rfl) ?_
                    intro hcg
                    repeat (first | go_big_quiet_step (fail) | quiet_step (fail))
                    refine wpQuiet_nil ?_
                    intro wq' hbwq' hcwq' hfwq'
                    clear hcg
                    have B6 := Lib.hid (BW5.out _ hbwq')
                    have O6 := Lib.hid (OW5.out _ hbwq')
                    clear hbwq' hcwq' hfwq'
                    go_wp2_with fail
                    go_roundw
                    case rel => exact ⟨v4, out4, k', rfl, rfl, hk', Lib.hid (by have := L4.out; omega), O6, HF, B6⟩
                    case measure => simp [intOf]; omega
            · have q3 : cmpS x.at_ s = 1 := cmp_gt q2
              have q4 : (0 < cmpS x.at_ s) := by omega
              have HU2 : Hid (∀ j c, i ≤ j → j < k + 1 → cs[j]? = some c → c.key = x0.key ∧ le c.at_ s = false) := Lib.hid (fun j c h1 h2 h3 => by
                rcases Nat.lt_or_ge j k with h | h
                · exact hU.out j c h1 h h3
                · have e : j = k := by omega
                  subst e
                  rw [HX.out] at h3
                  injection h3 with h3
                  subst h3
                  exact ⟨q1, by unfold le; rw [q2]; rfl⟩)
              clear q1 q2 q3
              go_wp2_with fail
              refine wp_qall (by kernel_rfl) (by kernel_rfl) ?_
              intro hcg
              repeat (first | go_big_quiet_step ((with_reducible (exact Calls.reg (hcompare_any x.at_ s _)))) | quiet_step ((with_reducible (exact Calls.reg (hcompare_any x.at_ s _)))))
              refine wpQuiet_nil ?_
              intro wq hbwq hcwq hfwq
              clear hcg
              have B4 := Lib.hid (hB2.out.trans (hbwq.mono hB2.out.size))
              clear hbwq hcwq hfwq
              go_wp2_with fail
              go_roundw
              case rel => exact ⟨k + 1, by go_num, by omega, by omega, HU2, B4⟩
              case measure => simp [intOf]; omega
          · have e1 : (x.key.toList == x0.key.toList) = false := by rw [str_eq, decide_eq_false q1]
            have R4 : Hid (∀ i', i < i' → i' ≤ n → (∀ j c, i ≤ j → j < i' → cs[j]? = some c → c.key = x0.key) → (∀ c, cs[i']? = some c → c.key ≠ x0.key) → E = out ++ rowsA s zE (cs.drop i')) := Lib.hid (fun i' a b c d => by
              rw [HQ.out, rows_end1 (at_ := s) (k := k) (κ := x0.key) hik (by rw [HL.out]; exact hk) hU.out (fun c hc => by
                rw [HX.out] at hc
                injection hc with hc
                rw [← hc]
                exact q1) a (by rw [HL.out]; exact b) c d])
            clear q1 HQ
            go_wp2_with fail
            refine wp_qall (by kernel_rfl) (by kernel_rfl) ?_
            intro hcg
            repeat (first | go_big_quiet_step (fail) | quiet_step (fail))
            refine wpQuiet_nil ?_
            intro wq hbwq hcwq hfwq
            clear hcg
            have y0q := (hcwq b (off + i * 6) hb3).trans y0
            have d0q := (hcwq b (off + k * 6) hb3).trans d0
            have hbq : b < wq.heap.size := Nat.lt_of_lt_of_le hb3 hbwq.size
            go_wp2_with fail
            refine wp_qall (by kernel_rfl) (by kernel_rfl) ?_
            intro hcg
            repeat (first | go_big_quiet_step (fail) | quiet_step (fail))
            refine wpQuiet_nil ?_
            intro wq2 hbwq2 hcwq2 hfwq2
            clear hcg
            have B4 := Lib.hid (B13.out.trans ((hbwq.trans (hbwq2.mono hbwq.size)).mono B13.out.size))
            have O4 := Lib.hid (own_keep (own_keep (own_keep HO.out hB2.out (Nat.le_refl _)) hbwq (Nat.le_refl _)) hbwq2 (Nat.le_refl _))
            have L4 : Hid (out.length ≤ i + 1) := Lib.hid (by have := HOL.out; omega)
            clear hbwq hcwq hfwq hbwq2 hcwq2 hfwq2 hB1 B13 hB2 HO HOL
            obtain ⟨w4, rfl⟩ : ∃ x, x = wq2 := ⟨_, rfl⟩
            obtain ⟨v4, rfl⟩ : ∃ x, x = v := ⟨_, rfl⟩
            obtain ⟨out4, rfl⟩ : ∃ x, x = out := ⟨_, rfl⟩
            go_wp2_with fail
            go_loopw [7] (fun s7 wr => ∃ k : Nat, s7 = .int .i64 (k : Int) ∧ i ≤ k ∧ k ≤ n ∧ Hid (∀ j c, i ≤ j → j < k → cs[j]? = some c → c.key = x0.key) ∧ Hid (Below w4.heap.size w4 wr)) (fun s7 _ => n - (intOf s7).toNat)
            case atStart => exact ⟨i, rfl, Nat.le_refl _, hi, Lib.hid (fun j c h1 h2 => by omega), Lib.hid (Below.refl _ _)⟩
            case round =>
              obtain ⟨k', rfl, hik', hk', hU', hB5⟩ := hrel
              obtain ⟨w5, rfl⟩ : ∃ x, x = wr := ⟨_, rfl⟩
              have B15 := Lib.hid (B4.out.trans (hB5.out.mono B4.out.size))
              obtain ⟨y0', -, -, -, -, -⟩ := HC0.out.below hb1 B15.out
              have k0' : (0 : Int) ≤ (k' : Int) := by omega
              have hb5 : b < w5.heap.size := by have := B15.out.size; omega
              have OW5 : Hid (∀ W, Below w5.heap.size w5 W → W.ownsRow w1.heap.size 67 2 v4 out4.length (kvv out4)) := Lib.hid (fun W h => own_keep (own_keep O4.out hB5.out (Nat.le_refl _)) h (Nat.le_refl _))
              have BW5 : Hid (∀ W, Below w5.heap.size w5 W → Below w1.heap.size w1 W) := Lib.hid (fun W h => B15.out.trans (h.mono B15.out.size))
              have BV5 : Hid (∀ W, Below w5.heap.size w5 W → Below w4.heap.size w4 W) := Lib.hid (fun W h => hB5.out.trans (h.mono hB5.out.size))
              by_cases hkn' : k' < n
              · obtain ⟨x', hx'⟩ : ∃ x', cs[k']? = some x' := ⟨_, List.getElem?_eq_getElem (by rw [HL.out]; exact hkn')⟩
                obtain ⟨b'', off'', eA', hb'', hce'⟩ := ce_at HR1.out hx'
                injection eA' with eA'
                injection eA' with eb' eo'
                subst eb' eo'
                obtain ⟨g0, -, -, -, -, -⟩ := hce'.below hb1 B15.out
                have HX' := Lib.hid hx'
                have k1' : (k' : Int) < (n : Int) := by omega
                have k2' : decide ((k' : Int) < (n : Int)) = true := decide_eq_true k1'
                clear hce' hx' hb''
                by_cases q1' : x'.key = x0.key
                · have e1' : (x'.key.toList == x0.key.toList) = true := by rw [str_eq, decide_eq_true q1']
                  have HU2' : Hid (∀ j c, i ≤ j → j < k' + 1 → cs[j]? = some c → c.key = x0.key) := Lib.hid (fun j c h1 h2 h3 => by
                    rcases Nat.lt_or_ge j k' with h | h
                    · exact hU'.out j c h1 h h3
                    · have e : j = k' := by omega
                      subst e
                      rw [HX'.out] at h3
                      injection h3 with h3
                      rw [← h3]
                      exact q1')
                  clear q1'
                  go_wp2_with fail
                  refine wp_qall (by kernel_rfl) (by kernel_rfl) ?_
                  intro hcg
                  repeat (first | go_big_quiet_step (fail) | quiet_step (fail))
                  refine wpQuiet_nil ?_
                  intro wq' hbwq' hcwq' hfwq'
                  clear hcg
                  have B6 := Lib.hid (BV5.out _ hbwq')
                  clear hbwq' hcwq' hfwq'
                  go_wp2_with fail
                  go_roundw
                  case rel => exact ⟨k' + 1, by go_num, by omega, by omega, HU2', B6⟩
                  case measure => simp [intOf]; omega
                · have e1' : (x'.key.toList == x0.key.toList) = false := by rw [str_eq, decide_eq_false q1']
                  have hki : i < k' := by
                    rcases Nat.lt_or_ge i k' with h | h
                    · exact h
                    · have e : k' = i := by omega
                      subst e
                      have h2 := HX'.out
                      rw [HX0.out] at h2
                      injection h2 with h2
                      exact absurd (by rw [h2]) q1'
                  have HF := Lib.hid (R4.out k' hki hk' hU'.out (fun c hc => by
                    rw [HX'.out] at hc
                    injection hc with hc
                    rw [← hc]
                    exact q1'))
                  clear q1'
                  go_wp2_with fail
                  refine wp_qall (by kernel_rfl) (by kernel_rfl) ?_
                  intro hcg
                  repeat (first | go_big_quiet_step (fail) | quiet_step (fail))
                  refine wpQuiet_nil ?_
                  intro wq' hbwq' hcwq' hfwq'
                  clear hcg
                  have B6 := Lib.hid (BW5.out _ hbwq')
                  have O6 := Lib.hid (OW5.out _ hbwq')
                  clear hbwq' hcwq' hfwq'
                  go_wp2_with fail
                  go_roundw
                  case rel => exact ⟨v4, out4, k', rfl, rfl, hk', Lib.hid (by have := L4.out; omega), O6, HF, B6⟩
                  case measure => simp [intOf]; omega
              · have k1' : ¬ (k' : Int) < (n : Int) := by omega
                have k2' : decide ((k' : Int) < (n : Int)) = false := decide_eq_false k1'
                have hki : i < k' := by omega
                have HF := Lib.hid (R4.out k' hki hk' hU'.out (fun c hc => by
                  have h1 := (List.getElem?_eq_some_iff.1 hc).1
                  have h2 := HL.out
                  omega))
                go_wp2_with fail
                refine wp_qall (by kernel_rfl) (by kernel_rfl) ?_
                intro hcg
                repeat (first | go_big_quiet_step (fail) | quiet_step (fail))
                refine wpQuiet_nil ?_
                intro wq' hbwq' hcwq' hfwq'
                clear hcg
                have B6 := Lib.hid (BW5.out _ hbwq')
                have O6 := Lib.hid (OW5.out _ hbwq')
                clear hbwq' hcwq' hfwq'
                go_wp2_with fail
                go_roundw
                case rel => exact ⟨v4, out4, k', rfl, rfl, hk', Lib.hid (by have := L4.out; omega), O6, HF, B6⟩
                case measure => simp [intOf]; omega
        · have k1 : ¬ (k : Int) < (n : Int) := by omega
          have k2 : decide ((k : Int) < (n : Int)) = false := decide_eq_false k1
          have R4 : Hid (∀ i', i < i' → i' ≤ n → (∀ j c, i ≤ j → j < i' → cs[j]? = some c → c.key = x0.key) → (∀ c, cs[i']? = some c → c.key ≠ x0.key) → E = out ++ rowsA s zE (cs.drop i')) := Lib.hid (fun i' a b c d => by
            rw [HQ.out, rows_end1 (at_ := s) (k := k) (κ := x0.key) hik (by rw [HL.out]; exact hk) hU.out (fun c hc => by
              have h1 := (List.getElem?_eq_some_iff.1 hc).1
              have h2 := HL.out
              omega) a (by rw [HL.out]; exact b) c d])
          clear HQ
          go_wp2_with fail
          refine wp_qall (by kernel_rfl) (by kernel_rfl) ?_
          intro hcg
          repeat (first | go_big_quiet_step (fail) | quiet_step (fail))
          refine wpQuiet_nil ?_
          intro wq hbwq hcwq hfwq
          clear hcg
          go_wp2_with fail
          refine wp_qall (by kernel_rfl) (by kernel_rfl) ?_
          intro hcg
          repeat (first | go_big_quiet_step (fail) | quiet_step (fail))
          refine wpQuiet_nil ?_
          intro wq2 hbwq2 hcwq2 hfwq2
          clear hcg
          have B4 := Lib.hid (B13.out.trans ((hbwq.trans (hbwq2.mono hbwq.size)).mono B13.out.size))
          have O4 := Lib.hid (own_keep (own_keep (own_keep HO.out hB2.out (Nat.le_refl _)) hbwq (Nat.le_refl _)) hbwq2 (Nat.le_refl _))
          have L4 : Hid (out.length ≤ i + 1) := Lib.hid (by have := HOL.out; omega)
          clear hbwq hcwq hfwq hbwq2 hcwq2 hfwq2 hB1 B13 hB2 HO HOL
          obtain ⟨w4, rfl⟩ : ∃ x, x = wq2 := ⟨_, rfl⟩
          obtain ⟨v4, rfl⟩ : ∃ x, x = v := ⟨_, rfl⟩
          obtain ⟨out4, rfl⟩ : ∃ x, x = out := ⟨_, rfl⟩
          go_wp2_with fail
          go_loopw [7] (fun s7 wr => ∃ k : Nat, s7 = .int .i64 (k : Int) ∧ i ≤ k ∧ k ≤ n ∧ Hid (∀ j c, i ≤ j → j < k → cs[j]? = some c → c.key = x0.key) ∧ Hid (Below w4.heap.size w4 wr)) (fun s7 _ => n - (intOf s7).toNat)
          case atStart => exact ⟨i, rfl, Nat.le_refl _, hi, Lib.hid (fun j c h1 h2 => by omega), Lib.hid (Below.refl _ _)⟩
          case round =>
            obtain ⟨k', rfl, hik', hk', hU', hB5⟩ := hrel
            obtain ⟨w5, rfl⟩ : ∃ x, x = wr := ⟨_, rfl⟩
            have B15 := Lib.hid (B4.out.trans (hB5.out.mono B4.out.size))
            obtain ⟨y0', -, -, -, -, -⟩ := HC0.out.below hb1 B15.out
            have k0' : (0 : Int) ≤ (k' : Int) := by omega
            have hb5 : b < w5.heap.size := by have := B15.out.size; omega
            have OW5 : Hid (∀ W, Below w5.heap.size w5 W → W.ownsRow w1.heap.size 67 2 v4 out4.length (kvv out4)) := Lib.hid (fun W h => own_keep (own_keep O4.out hB5.out (Nat.le_refl _)) h (Nat.le_refl _))
            have BW5 : Hid (∀ W, Below w5.heap.size w5 W → Below w1.heap.size w1 W) := Lib.hid (fun W h => B15.out.trans (h.mono B15.out.size))
            have BV5 : Hid (∀ W, Below w5.heap.size w5 W → Below w4.heap.size w4 W) := Lib.hid (fun W h => hB5.out.trans (h.mono hB5.out.size))
            by_cases hkn' : k' < n
            · obtain ⟨x', hx'⟩ : ∃ x', cs[k']? = some x' := ⟨_, List.getElem?_eq_getElem (by rw [HL.out]; exact hkn')⟩
              obtain ⟨b'', off'', eA', hb'', hce'⟩ := ce_at HR1.out hx'
              injection eA' with eA'
              injection eA' with eb' eo'
              subst eb' eo'
              obtain ⟨g0, -, -, -, -, -⟩ := hce'.below hb1 B15.out
              have HX' := Lib.hid hx'
              have k1' : (k' : Int) < (n : Int) := by omega
              have k2' : decide ((k' : Int) < (n : Int)) = true := decide_eq_true k1'
              clear hce' hx' hb''
              by_cases q1' : x'.key = x0.key
              · have e1' : (x'.key.toList == x0.key.toList) = true := by rw [str_eq, decide_eq_true q1']
                have HU2' : Hid (∀ j c, i ≤ j → j < k' + 1 → cs[j]? = some c → c.key = x0.key) := Lib.hid (fun j c h1 h2 h3 => by
                  rcases Nat.lt_or_ge j k' with h | h
                  · exact hU'.out j c h1 h h3
                  · have e : j = k' := by omega
                    subst e
                    rw [HX'.out] at h3
                    injection h3 with h3
                    rw [← h3]
                    exact q1')
                clear q1'
                go_wp2_with fail
                refine wp_qall (by kernel_rfl) (by kernel_rfl) ?_
                intro hcg
                repeat (first | go_big_quiet_step (fail) | quiet_step (fail))
                refine wpQuiet_nil ?_
                intro wq' hbwq' hcwq' hfwq'
                clear hcg
                have B6 := Lib.hid (BV5.out _ hbwq')
                clear hbwq' hcwq' hfwq'
                go_wp2_with fail
                go_roundw
                case rel => exact ⟨k' + 1, by go_num, by omega, by omega, HU2', B6⟩
                case measure => simp [intOf]; omega
              · have e1' : (x'.key.toList == x0.key.toList) = false := by rw [str_eq, decide_eq_false q1']
                have hki : i < k' := by
                  rcases Nat.lt_or_ge i k' with h | h
                  · exact h
                  · have e : k' = i := by omega
                    subst e
                    have h2 := HX'.out
                    rw [HX0.out] at h2
                    injection h2 with h2
                    exact absurd (by rw [h2]) q1'
                have HF := Lib.hid (R4.out k' hki hk' hU'.out (fun c hc => by
                  rw [HX'.out] at hc
                  injection hc with hc
                  rw [← hc]
                  exact q1'))
                clear q1'
                go_wp2_with fail
                refine wp_qall (by kernel_rfl) (by kernel_rfl) ?_
                intro hcg
                repeat (first | go_big_quiet_step (fail) | quiet_step (fail))
                refine wpQuiet_nil ?_
                intro wq' hbwq' hcwq' hfwq'
                clear hcg
                have B6 := Lib.hid (BW5.out _ hbwq')
                have O6 := Lib.hid (OW5.out _ hbwq')
                clear hbwq' hcwq' hfwq'
                go_wp2_with fail
                go_roundw
                case rel => exact ⟨v4, out4, k', rfl, rfl, hk', Lib.hid (by have := L4.out; omega), O6, HF, B6⟩
                case measure => simp [intOf]; omega
            · have k1' : ¬ (k' : Int) < (n : Int) := by omega
              have k2' : decide ((k' : Int) < (n : Int)) = false := decide_eq_false k1'
              have hki : i < k' := by omega
              have HF := Lib.hid (R4.out k' hki hk' hU'.out (fun c hc => by
                have h1 := (List.getElem?_eq_some_iff.1 hc).1
                have h2 := HL.out
                omega))
              go_wp2_with fail
              refine wp_qall (by kernel_rfl) (by kernel_rfl) ?_
              intro hcg
              repeat (first | go_big_quiet_step (fail) | quiet_step (fail))
              refine wpQuiet_nil ?_
              intro wq' hbwq' hcwq' hfwq'
              clear hcg
              have B6 := Lib.hid (BW5.out _ hbwq')
              have O6 := Lib.hid (OW5.out _ hbwq')
              clear hbwq' hcwq' hfwq'
              go_wp2_with fail
              go_roundw
              case rel => exact ⟨v4, out4, k', rfl, rfl, hk', Lib.hid (by have := L4.out; omega), O6, HF, B6⟩
              case measure => simp [intOf]; omega
    · have i1 : ¬ (i : Int) < (n : Int) := by omega
      have HF : E = out := by
        rw [HQ.out, List.drop_eq_nil_of_le (by rw [HL.out]; omega)]
        simp [rowsA]
      have HE2 := Lib.hid HF
      clear HF HE HQ
      go_wp2_with fail
      go_ret
      exact ⟨v, rfl, by rw [HE2.out]; exact own_base HO.out (by have := HZB.out; omega), BW.out.trans (hB1.out.mono (by have := HZB.out; omega))⟩
end Go.Proofs.Ytgikaglmeeeplaa
