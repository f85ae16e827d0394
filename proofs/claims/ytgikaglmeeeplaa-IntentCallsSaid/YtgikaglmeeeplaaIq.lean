/- Walks: did nothing come between two stamps; the cells that no read sees. -/
import Derived.Test.YtgikaglmeeeplaaIg
import Derived.Test.YtgikaglmeeeplaaQTail
namespace Go.Proofs.Ytgikaglmeeeplaa
open Go.RowKit Go.St
set_option linter.unusedVariables false
set_option linter.unusedSimpArgs false
set_option maxRecDepth 100000

def refB (cs : List Cel) (is : List Itt) (fr to' : Stp) (by_ : Int × Int) : Bool := !cs.any (btw fr to') && !is.any (fun i => !decide ((i.nd, i.nu) = by_) && le i.at_ to')
def refM (cs : List Cel) (is : List Itt) (fr to' : Stp) (by_ : Int × Int) : Bool := if scanE cs is fr to' = 0 then refB cs is fr to' by_ else false
def noTo {α : Type} (f : α → Bool) (l : List α) (i : Nat) : Prop := ∀ j a, j < i → l[j]? = some a → f a = false
theorem noTo_succ {α : Type} {f : α → Bool} {l : List α} {i : Nat} {x : α} (h : noTo f l i) (hx : l[i]? = some x) (k : f x = false) : noTo f l (i + 1) := fun j a hj ha => by
  rcases Nat.lt_or_ge j i with h1 | h1
  · exact h j a h1 ha
  · have e : j = i := by omega
    subst e
    rw [hx] at ha
    injection ha with ha
    rw [← ha]
    exact k
theorem noTo_all {α : Type} {f : α → Bool} {l : List α} {i : Nat} (h : noTo f l i) (hi : l.length ≤ i) : l.any f = false := by
  rw [List.any_eq_false]
  intro a ha
  obtain ⟨j, hj, e⟩ := List.getElem_of_mem ha
  rw [h j a (by omega) (by rw [← e]; exact List.getElem?_eq_getElem hj)]
  decide
theorem any_at {α : Type} {f : α → Bool} {l : List α} {i : Nat} {x : α} (hx : l[i]? = some x) (k : f x = true) : l.any f = true := by
  rw [List.any_eq_true]
  exact ⟨x, List.mem_of_getElem? hx, k⟩
/-- The boxes of Refresh. -/
structure RfB (W : World) (Z : Nat) (s t : Stp) (by_ : Int × Int) : Prop where
  a : BxV W Z (spc s)
  b : BxV W (Z + 1) (spc t)
  c : BxV W (Z + 1 + 1) [.int .i32 by_.1, .int .i32 by_.2]
theorem RfB.next {W W' : World} {Z : Nat} {s t : Stp} {by_ : Int × Int} (h : RfB W Z s t by_) (hb : Below W.heap.size W W') : RfB W' Z s t by_ := ⟨h.a.next hb, h.b.next hb, h.c.next hb⟩


set_option maxHeartbeats 6400000 in
theorem refresh24_any (A : Option Addr) (n c : Nat) (cs : List Cel) (hl : cs.length = n) (hn : n ≤ 1000000) (A2 : Option Addr) (m c2 : Nat) (is : List Itt) (hl2 : is.length = m) (hm : m ≤ 1000000) (s t : Stp) (by_ : Int × Int) (B : Nat) (w : World) (hr : Rd w B A (cev cs)) (hr2 : Rd w B A2 (itv is)) (hB : B ≤ w.heap.size) :
    Calls Try.prog 17 #[.slice A n c, .slice A2 m c2, .agg #[.int .i64 s.wall, .int .i32 s.logic, .int .i32 s.tag], .agg #[.int .i64 t.wall, .int .i32 t.logic, .int .i32 t.tag], .agg #[.int .i32 by_.1, .int .i32 by_.2]] w fun e w' => e = .returned (.tuple #[.bool (refM cs is s t by_), .int .i64 (scanE cs is s t)]) ∧ Below w.heap.size w w' := by
  have HL := Lib.hid hl
  have HR := Lib.hid hr
  have HL2 := Lib.hid hl2
  have HR2 := Lib.hid hr2
  clear hl hr hl2 hr2
  obtain ⟨E, hE⟩ : ∃ E, E = scanE cs is s t := ⟨_, rfl⟩
  obtain ⟨S, hS⟩ : ∃ S, S = refM cs is s t by_ := ⟨_, rfl⟩
  rw [← hE, ← hS]
  have HE := Lib.hid hE
  have HS := Lib.hid hS
  clear hE hS
  go_enter Try.func17, Try.ntmps17
  go_wp2_with fail
  have X5 : Hid (RfB ((((w.alloc (.cells #[.int .i64 s.wall, .int .i32 s.logic, .int .i32 s.tag] 25)).alloc (.cells #[.int .i64 t.wall, .int .i32 t.logic, .int .i32 t.tag] 25)).alloc (.cells #[.int .i32 by_.1, .int .i32 by_.2] 27)).alloc (.cells #[.int .i64 s.wall, .int .i32 s.logic, .int .i32 s.tag, .int .i64 t.wall, .int .i32 t.logic, .int .i32 t.tag] 25)) w.heap.size s t by_) := Lib.hid ⟨((((BxV.new w _ _).alloc _).alloc _).alloc _), by
    have h := ((BxV.new (w.alloc (.cells #[.int .i64 s.wall, .int .i32 s.logic, .int .i32 s.tag] 25)) #[.int .i64 t.wall, .int .i32 t.logic, .int .i32 t.tag] 25).alloc (.cells #[.int .i32 by_.1, .int .i32 by_.2] 27)).alloc (.cells #[.int .i64 s.wall, .int .i32 s.logic, .int .i32 s.tag, .int .i64 t.wall, .int .i32 t.logic, .int .i32 t.tag] 25)
    simp only [World.size_alloc] at h; exact h, by
    have h := (BxV.new ((w.alloc (.cells #[.int .i64 s.wall, .int .i32 s.logic, .int .i32 s.tag] 25)).alloc (.cells #[.int .i64 t.wall, .int .i32 t.logic, .int .i32 t.tag] 25)) #[.int .i32 by_.1, .int .i32 by_.2] 27).alloc (.cells #[.int .i64 s.wall, .int .i32 s.logic, .int .i32 s.tag, .int .i64 t.wall, .int .i32 t.logic, .int .i32 t.tag] 25)
    simp only [World.size_alloc] at h; exact h⟩
  have RS : Hid (Rd ((((w.alloc (.cells #[.int .i64 s.wall, .int .i32 s.logic, .int .i32 s.tag] 25)).alloc (.cells #[.int .i64 t.wall, .int .i32 t.logic, .int .i32 t.tag] 25)).alloc (.cells #[.int .i32 by_.1, .int .i32 by_.2] 27)).alloc (.cells #[.int .i64 s.wall, .int .i32 s.logic, .int .i32 s.tag, .int .i64 t.wall, .int .i32 t.logic, .int .i32 t.tag] 25)) ((((w.alloc (.cells #[.int .i64 s.wall, .int .i32 s.logic, .int .i32 s.tag] 25)).alloc (.cells #[.int .i64 t.wall, .int .i32 t.logic, .int .i32 t.tag] 25)).alloc (.cells #[.int .i32 by_.1, .int .i32 by_.2] 27)).alloc (.cells #[.int .i64 s.wall, .int .i32 s.logic, .int .i32 s.tag, .int .i64 t.wall, .int .i32 t.logic, .int .i32 t.tag] 25)).heap.size (some ⟨w.heap.size + 1 + 1 + 1, 0, none⟩) (spv [s, t])) := Lib.hid (by
    have h := rd_frC (((w.alloc (.cells #[.int .i64 s.wall, .int .i32 s.logic, .int .i32 s.tag] 25)).alloc (.cells #[.int .i64 t.wall, .int .i32 t.logic, .int .i32 t.tag] 25)).alloc (.cells #[.int .i32 by_.1, .int .i32 by_.2] 27)) #[.int .i64 s.wall, .int .i32 s.logic, .int .i32 s.tag, .int .i64 t.wall, .int .i32 t.logic, .int .i32 t.tag] 25 (0, 0)
    simpa [spv, spc] using h)
  have B5 : Hid (Below w.heap.size w ((((w.alloc (.cells #[.int .i64 s.wall, .int .i32 s.logic, .int .i32 s.tag] 25)).alloc (.cells #[.int .i64 t.wall, .int .i32 t.logic, .int .i32 t.tag] 25)).alloc (.cells #[.int .i32 by_.1, .int .i32 by_.2] 27)).alloc (.cells #[.int .i64 s.wall, .int .i32 s.logic, .int .i32 s.tag, .int .i64 t.wall, .int .i32 t.logic, .int .i32 t.tag] 25))) := Lib.hid (((((((Below.refl _ _).alloc (Nat.le_refl _) _).alloc (by simp) _).alloc (by simp <;> omega) _).alloc (by simp <;> omega) _)))
  have hz5 : w.heap.size + 1 + 1 < ((((w.alloc (.cells #[.int .i64 s.wall, .int .i32 s.logic, .int .i32 s.tag] 25)).alloc (.cells #[.int .i64 t.wall, .int .i32 t.logic, .int .i32 t.tag] 25)).alloc (.cells #[.int .i32 by_.1, .int .i32 by_.2] 27)).alloc (.cells #[.int .i64 s.wall, .int .i32 s.logic, .int .i32 s.tag, .int .i64 t.wall, .int .i32 t.logic, .int .i32 t.tag] 25)).heap.size := by simp <;> omega
  generalize ((((w.alloc (.cells #[.int .i64 s.wall, .int .i32 s.logic, .int .i32 s.tag] 25)).alloc (.cells #[.int .i64 t.wall, .int .i32 t.logic, .int .i32 t.tag] 25)).alloc (.cells #[.int .i32 by_.1, .int .i32 by_.2] 27)).alloc (.cells #[.int .i64 s.wall, .int .i32 s.logic, .int .i32 s.tag, .int .i64 t.wall, .int .i32 t.logic, .int .i32 t.tag] 25)) = w5 at *
  have R5 := Lib.hid ((HR.out.below (B5.out.mono hB)).more (show B ≤ w5.heap.size by omega))
  have R52 := Lib.hid ((HR2.out.below (B5.out.mono hB)).more (show B ≤ w5.heap.size by omega))
  refine (checked24_any A n c cs HL.out (by omega) A2 m c2 is HL2.out (by omega) (some ⟨w.heap.size + 1 + 1 + 1, 0, none⟩) 2 2 [s, t] rfl (by decide) w5.heap.size w5 R5.out R52.out RS.out (Nat.le_refl _)).mono ?_
  rintro e w6 ⟨rfl, hb6⟩
  have X6 := Lib.hid (X5.out.next hb6)
  have B6 := Lib.hid (B5.out.trans (hb6.mono B5.out.size))
  clear hb6 X5 RS B5 R5 R52 hz5
  by_cases h0 : chkdE cs is [s, t] = 0
  case neg =>
    have hE1 : E = chkdE cs is [s, t] := by rw [HE.out]; unfold scanE; rw [if_neg h0]
    have SEQ : Hid (S = false) := Lib.hid (by rw [HS.out]; unfold refM; rw [if_neg (by rw [← HE.out, hE1]; exact h0)])
    rw [← hE1] at h0 ⊢
    have e1 : (E != 0) = true := by simpa using h0
    clear hE1 h0 HE HS
    go_wp2_with fail
    go_ret2
    exact ⟨by rw [SEQ.out] <;> rfl, B6.out⟩
  have hE1 : E = if less t s then 2 else 0 := by rw [HE.out]; unfold scanE; rw [if_pos h0]
  rw [h0]
  clear h0
  have a0 := X6.out.a.c 0 _ rfl
  have a1 := X6.out.a.c 1 _ rfl
  have a2 := X6.out.a.c 2 _ rfl
  have b0 := X6.out.b.c 0 _ rfl
  have b1 := X6.out.b.c 1 _ rfl
  have b2 := X6.out.b.c 2 _ rfl
  go_wp2_with fail
  refine (hcompare_any t s _).mono ?_
  rintro e w7 ⟨rfl, hb7⟩
  have X7 := Lib.hid (X6.out.next hb7)
  have B7 := Lib.hid (B6.out.trans (hb7.mono B6.out.size))
  clear hb7 X6 B6 a0 a1 a2 b0 b1 b2
  cases hts : less t s
  case true =>
    have q9 : cmpS t s < 0 := (cmp_neg t s).2 hts
    have EEQ : Hid (E = 2) := Lib.hid (by rw [hE1, hts]; rfl)
    have SEQ : Hid (S = false) := Lib.hid (by rw [HS.out]; unfold refM; rw [if_neg (by rw [← HE.out, EEQ.out]; decide)])
    clear hE1 hts HE HS
    go_wp2_with fail
    go_ret2
    exact ⟨by rw [SEQ.out, EEQ.out] <;> rfl, B7.out⟩
  have q9 : ¬ cmpS t s < 0 := fun h => by rw [(cmp_neg t s).1 h] at hts; cases hts
  have EEQ : Hid (E = 0) := Lib.hid (by rw [hE1, hts]; rfl)
  have HS1 : Hid (S = refB cs is s t by_) := Lib.hid (by rw [HS.out]; unfold refM; rw [if_pos (by rw [← HE.out]; exact EEQ.out)])
  have hzB : B ≤ w7.heap.size := by have := B7.out.size; omega
  have R7 := Lib.hid (HR.out.below (B7.out.mono hB))
  have R72 := Lib.hid (HR2.out.below (B7.out.mono hB))
  clear hE1 hts HE HS HR HR2
  go_wp2_with fail
  go_loopw [32] (fun s32 wr => ∃ (i : Nat), s32 = .int .i64 (i : Int) ∧ i ≤ n ∧ Hid (noTo (btw s t) cs i) ∧ Hid (Below w7.heap.size w7 wr)) (fun s32 _ => n - (intOf s32).toNat)
  case atStart => exact ⟨0, rfl, Nat.zero_le _, Lib.hid (fun j a h => by omega), Lib.hid (Below.refl _ _)⟩
  case round =>
    obtain ⟨i, rfl, hi, HN, hB1⟩ := hrel
    obtain ⟨w2, rfl⟩ : ∃ x, x = wr := ⟨_, rfl⟩
    have X2 := Lib.hid (X7.out.next hB1.out)
    have B2 := Lib.hid (B7.out.trans (hB1.out.mono B7.out.size))
    by_cases hlt : i < n
    · obtain ⟨x, hx⟩ : ∃ x, cs[i]? = some x := ⟨_, List.getElem?_eq_getElem (by rw [HL.out]; exact hlt)⟩
      obtain ⟨b, off, rfl, hb, hce⟩ := ce_at R7.out hx
      obtain ⟨d0, d1, d2, d3, d4, d5⟩ := hce.below (Nat.lt_of_lt_of_le hb hzB) hB1.out
      have CY : Hid (CeI (w2.alloc (.cells #[.string x.key, .int .i64 x.at_.wall, .int .i32 x.at_.logic, .int .i32 x.at_.tag, .string x.val, .bool x.del] 45)) w2.heap.size 0 x) := Lib.hid (by
        have h := (BxV.new w2 #[.string x.key, .int .i64 x.at_.wall, .int .i32 x.at_.logic, .int .i32 x.at_.tag, .string x.val, .bool x.del] 45).c
        exact ⟨h 0 _ rfl, h 1 _ rfl, h 2 _ rfl, h 3 _ rfl, h 4 _ rfl, h 5 _ rfl⟩)
      have CYL : Hid (w2.heap.size < (w2.alloc (.cells #[.string x.key, .int .i64 x.at_.wall, .int .i32 x.at_.logic, .int .i32 x.at_.tag, .string x.val, .bool x.del] 45)).heap.size) := Lib.hid (by simp)
      have HX := Lib.hid hx
      have i1 : (i : Int) < (n : Int) := by omega
      have a0 := X2.out.a.c 0 _ rfl
      have a1 := X2.out.a.c 1 _ rfl
      have a2 := X2.out.a.c 2 _ rfl
      have zz0 : w.heap.size < w2.heap.size := X2.out.a.lt
      have zzb : b < w2.heap.size := by have := hB1.out.size; omega
      clear hce hx
      go_wp2_with fail
      refine (hcompare_any x.at_ s _).mono ?_
      rintro e w4 ⟨rfl, hb4⟩
      have hb24 := (((Below.refl w2.heap.size w2).alloc (Nat.le_refl _) (.cells #[.string x.key, .int .i64 x.at_.wall, .int .i32 x.at_.logic, .int .i32 x.at_.tag, .string x.val, .bool x.del] 45)).trans (hb4.mono (by simp)))
      have X4 := Lib.hid (X2.out.next hb24)
      have Y4 := CeI.below CY.out CYL.out hb4
      have B4 := Lib.hid (hB1.out.trans (hb24.mono hB1.out.size))
      clear zz0 zzb a0 a1 a2 d0 d1 d2 d3 d4 d5 hb4 hb24
      cases k1 : less s x.at_
      · have g3 : ¬ (0 < cmpS x.at_ s) := by have := (cmp_le x.at_ s).2 k1; omega
        have HN9 := Lib.hid (noTo_succ HN.out HX.out (by unfold btw; rw [k1]; rfl))
        clear k1 X4 Y4 X2 B2 hB1
        go_wp2_with fail
        go_roundw
        case rel => exact ⟨i + 1, by go_num, by omega, HN9, B4⟩
        case measure => simp [intOf]; omega
      · have g3 : 0 < cmpS x.at_ s := by rw [cmp_gt k1]; omega
        have y1 := Y4.c1
        have y2 := Y4.c2
        have y3 := Y4.c3
        have b0 := X4.out.b.c 0 _ rfl
        have b1 := X4.out.b.c 1 _ rfl
        have b2 := X4.out.b.c 2 _ rfl
        go_wp2_with fail
        refine (hcompare_any x.at_ t _).mono ?_
        rintro e w5' ⟨rfl, hb5⟩
        have B9 := Lib.hid (B4.out.trans (hb5.mono B4.out.size))
        have B99 := Lib.hid (B7.out.trans (B9.out.mono B7.out.size))
        clear y1 y2 y3 b0 b1 b2 hb5 X4 Y4 X2 B2 hB1 B4
        cases k2 : less t x.at_
        · have g4 : cmpS x.at_ t ≤ 0 := (cmp_le _ _).2 k2
          have SEQ : Hid (S = false) := Lib.hid (by
            rw [HS1.out]; unfold refB
            rw [any_at HX.out (show btw s t x = true by unfold btw le; rw [k1, k2]; rfl)]
            rfl)
          clear k1 k2
          go_wp2_with fail
          go_ret2
          exact ⟨by rw [SEQ.out, EEQ.out] <;> rfl, B99.out⟩
        · have g4 : ¬ cmpS x.at_ t ≤ 0 := cmp_gt0 k2
          have HN9 := Lib.hid (noTo_succ HN.out HX.out (show btw s t x = false by unfold btw le; rw [k2]; simp))
          clear k1 k2
          go_wp2_with fail
          go_roundw
          case rel => exact ⟨i + 1, by go_num, by omega, HN9, B9⟩
          case measure => simp [intOf]; omega
    · have i1 : ¬ (i : Int) < (n : Int) := by omega
      have HA1 := Lib.hid (noTo_all HN.out (by rw [HL.out]; omega))
      have R2 := Lib.hid (R72.out.below (hB1.out.mono hzB))
      have hzB2 : B ≤ w2.heap.size := by have := hB1.out.size; omega
      clear HN hlt X7 B7 R7 R72 hB1
      go_wp2_with fail
      go_loopw [51] (fun s51 wr => ∃ (i : Nat), s51 = .int .i64 (i : Int) ∧ i ≤ m ∧ Hid (noTo (fun i => !decide ((i.nd, i.nu) = by_) && le i.at_ t) is i) ∧ Hid (Below w2.heap.size w2 wr)) (fun s51 _ => m - (intOf s51).toNat)
      case atStart => exact ⟨0, rfl, Nat.zero_le _, Lib.hid (fun j a h => by omega), Lib.hid (Below.refl _ _)⟩
      case round =>
        obtain ⟨i', rfl, hi', HN2, hB3⟩ := hrel
        obtain ⟨w3, rfl⟩ : ∃ x, x = wr := ⟨_, rfl⟩
        have X3 := Lib.hid (X2.out.next hB3.out)
        by_cases hlt2 : i' < m
        · obtain ⟨x, hx⟩ : ∃ x, is[i']? = some x := ⟨_, List.getElem?_eq_getElem (by rw [HL2.out]; exact hlt2)⟩
          obtain ⟨b, off, rfl, hb, hce⟩ := it_at R2.out hx
          obtain ⟨d0, d1, d2, d3, d4, d5, d6, d7, d8, d9, d10, d11⟩ := hce.below (Nat.lt_of_lt_of_le hb hzB2) hB3.out
          have HX := Lib.hid hx
          have k1 : (i' : Int) < (m : Int) := by omega
          have b0 := X3.out.b.c 0 _ rfl
          have b1 := X3.out.b.c 1 _ rfl
          have b2 := X3.out.b.c 2 _ rfl
          have x0 := X3.out.c.c 0 _ rfl
          have x1 := X3.out.c.c 1 _ rfl
          have zz1 : w.heap.size + 1 < w3.heap.size := X3.out.b.lt
          have zz2 : w.heap.size + 1 + 1 < w3.heap.size := X3.out.c.lt
          have zzb : b < w3.heap.size := by have := hB3.out.size; omega
          clear hce hx
          by_cases q1 : x.nd = by_.1
          · have g1 : (x.nd == by_.1) = true := by simpa using q1
            by_cases q2 : x.nu = by_.2
            · have g2 : (x.nu == by_.2) = true := by simpa using q2
              have HN9 := Lib.hid (noTo_succ HN2.out HX.out (by (try dsimp only); rw [decide_eq_true (show (x.nd, x.nu) = by_ by rw [q1, q2])]; rfl))
              have B9 := Lib.hid (hB3.out.alloc hB3.out.size (.cells #[.string x.key, .int .i32 x.nd, .int .i32 x.nu, .int .i64 x.bg.wall, .int .i32 x.bg.logic, .int .i32 x.bg.tag, .string x.anc, .int .i64 x.at_.wall, .int .i32 x.at_.logic, .int .i32 x.at_.tag, .string x.val, .bool x.del] 29))
              clear q1 q2 hB3 X3
              go_wp2_with fail
              go_roundw
              case rel => exact ⟨i' + 1, by go_num, by omega, HN9, B9⟩
              case measure => simp [intOf]; omega
            · have g2 : (x.nu == by_.2) = false := by simpa using q2
              have hne : Hid (¬ (x.nd = by_.1 ∧ x.nu = by_.2)) := Lib.hid (fun e => q2 e.2)
              clear q1 q2
              go_wp2_with fail
              refine (hcompare_any x.at_ t _).mono ?_
              rintro e w4 ⟨rfl, hb4⟩
              have B9 := Lib.hid (hB3.out.trans (((Below.refl w3.heap.size w3).alloc (Nat.le_refl _) (.cells #[.string x.key, .int .i32 x.nd, .int .i32 x.nu, .int .i64 x.bg.wall, .int .i32 x.bg.logic, .int .i32 x.bg.tag, .string x.anc, .int .i64 x.at_.wall, .int .i32 x.at_.logic, .int .i32 x.at_.tag, .string x.val, .bool x.del] 29)).trans (hb4.mono (by simp)) |>.mono hB3.out.size))
              have B99 := Lib.hid (B2.out.trans (B9.out.mono B2.out.size))
              clear hb4 hB3 X3
              cases k2 : less t x.at_
              · have g3 : cmpS x.at_ t ≤ 0 := (cmp_le _ _).2 k2
                have SEQ : Hid (S = false) := Lib.hid (by
                  rw [HS1.out]; unfold refB
                  rw [any_at (f := fun i => !decide ((i.nd, i.nu) = by_) && le i.at_ t) HX.out (by (try dsimp only); rw [decide_eq_false (fun e => hne.out ⟨congrArg Prod.fst e, congrArg Prod.snd e⟩)]; unfold le; rw [k2]; rfl)]
                  simp)
                clear k2
                go_wp2_with fail
                go_ret2
                exact ⟨by rw [SEQ.out, EEQ.out] <;> rfl, B99.out⟩
              · have g3 : ¬ cmpS x.at_ t ≤ 0 := cmp_gt0 k2
                have HN9 := Lib.hid (noTo_succ HN2.out HX.out (by (try dsimp only); unfold le; rw [k2]; simp))
                clear k2
                go_wp2_with fail
                go_roundw
                case rel => exact ⟨i' + 1, by go_num, by omega, HN9, B9⟩
                case measure => simp [intOf]; omega
          · have g1 : (x.nd == by_.1) = false := by simpa using q1
            have hne : Hid (¬ (x.nd = by_.1 ∧ x.nu = by_.2)) := Lib.hid (fun e => q1 e.1)
            clear q1
            go_wp2_with fail
            refine (hcompare_any x.at_ t _).mono ?_
            rintro e w4 ⟨rfl, hb4⟩
            have B9 := Lib.hid (hB3.out.trans (((Below.refl w3.heap.size w3).alloc (Nat.le_refl _) (.cells #[.string x.key, .int .i32 x.nd, .int .i32 x.nu, .int .i64 x.bg.wall, .int .i32 x.bg.logic, .int .i32 x.bg.tag, .string x.anc, .int .i64 x.at_.wall, .int .i32 x.at_.logic, .int .i32 x.at_.tag, .string x.val, .bool x.del] 29)).trans (hb4.mono (by simp)) |>.mono hB3.out.size))
            have B99 := Lib.hid (B2.out.trans (B9.out.mono B2.out.size))
            clear hb4 hB3 X3
            cases k2 : less t x.at_
            · have g3 : cmpS x.at_ t ≤ 0 := (cmp_le _ _).2 k2
              have SEQ : Hid (S = false) := Lib.hid (by
                rw [HS1.out]; unfold refB
                rw [any_at (f := fun i => !decide ((i.nd, i.nu) = by_) && le i.at_ t) HX.out (by (try dsimp only); rw [decide_eq_false (fun e => hne.out ⟨congrArg Prod.fst e, congrArg Prod.snd e⟩)]; unfold le; rw [k2]; rfl)]
                simp)
              clear k2
              go_wp2_with fail
              go_ret2
              exact ⟨by rw [SEQ.out, EEQ.out] <;> rfl, B99.out⟩
            · have g3 : ¬ cmpS x.at_ t ≤ 0 := cmp_gt0 k2
              have HN9 := Lib.hid (noTo_succ HN2.out HX.out (by (try dsimp only); unfold le; rw [k2]; simp))
              clear k2
              go_wp2_with fail
              go_roundw
              case rel => exact ⟨i' + 1, by go_num, by omega, HN9, B9⟩
              case measure => simp [intOf]; omega
        · have k1 : ¬ (i' : Int) < (m : Int) := by omega
          have SEQ : Hid (S = true) := Lib.hid (by
            rw [HS1.out]; unfold refB
            rw [HA1.out, noTo_all HN2.out (by rw [HL2.out]; omega)]
            rfl)
          have B99 := Lib.hid (B2.out.trans (hB3.out.mono B2.out.size))
          clear hlt2
          go_wp2_with fail
          go_ret2
          exact ⟨by rw [SEQ.out, EEQ.out] <;> rfl, B99.out⟩
end Go.Proofs.Ytgikaglmeeeplaa
