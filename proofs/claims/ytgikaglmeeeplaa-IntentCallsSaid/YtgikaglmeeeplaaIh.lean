/- Walk: at which stamp an intent may be laid. -/
import Derived.Test.YtgikaglmeeeplaaIg
namespace Go.Proofs.Ytgikaglmeeeplaa
open Go.RowKit Go.St
set_option linter.unusedVariables false
set_option linter.unusedSimpArgs false
set_option maxRecDepth 100000

/-- The floor: the greatest of a stamp and those of a key's cells. -/
def flF (cs : List Cel) (k : ByteArray) (fl : Stp) (i : Nat) : Stp := ((cs.take i).filter (fun c => decide (c.key = k))).foldl (fun b c => maxS b c.at_) fl
theorem flF_yes {cs : List Cel} {k : ByteArray} {fl : Stp} {i : Nat} {x : Cel} (hx : cs[i]? = some x) (h : x.key = k) : flF cs k fl (i + 1) = maxS (flF cs k fl i) x.at_ := by
  unfold flF
  rw [late_snoc hx, if_pos (by simpa using h), List.foldl_append]
  rfl
theorem flF_no {cs : List Cel} {k : ByteArray} {fl : Stp} {i : Nat} {x : Cel} (hx : cs[i]? = some x) (h : x.key ≠ k) : flF cs k fl (i + 1) = flF cs k fl i := by
  unfold flF
  rw [late_snoc hx, if_neg (by simpa using h), List.append_nil]
/-- The intent that stands at a key. -/
def atK (is : List Itt) (k : ByteArray) : Option Itt := is.find? (fun i => decide (i.key = k))
def noK (is : List Itt) (k : ByteArray) (i : Nat) : Prop := ∀ j a, j < i → is[j]? = some a → a.key ≠ k
theorem noK_succ {is : List Itt} {k : ByteArray} {i : Nat} {x : Itt} (h : noK is k i) (hx : is[i]? = some x) (hk : x.key ≠ k) : noK is k (i + 1) := fun j a hj ha => by
  rcases Nat.lt_or_ge j i with h1 | h1
  · exact h j a h1 ha
  · have e : j = i := by omega
    subst e
    rw [hx] at ha
    injection ha with ha
    rw [← ha]
    exact hk
theorem atK_some : ∀ {is : List Itt} {k : ByteArray} {i : Nat} {x : Itt}, noK is k i → is[i]? = some x → x.key = k → atK is k = some x
  | [], _, _, _, _, hx, _ => by simp at hx
  | y :: r, k, 0, x, _, hx, hk => by
    have e : y = x := by simpa using hx
    subst e
    simp [atK, hk]
  | y :: r, k, i + 1, x, h, hx, hk => by
    have h0 := h 0 y (by omega) rfl
    have := atK_some (is := r) (i := i) (fun j a hj ha => h (j + 1) a (by omega) (by simpa using ha)) (by simpa using hx) hk
    unfold atK at *
    rw [List.find?_cons, decide_eq_false h0]
    exact this
theorem atK_none {is : List Itt} {k : ByteArray} {i : Nat} (h : noK is k i) (hi : is.length ≤ i) : atK is k = none := by
  unfold atK
  rw [List.find?_eq_none]
  intro a ha
  obtain ⟨j, hj, e⟩ := List.getElem_of_mem ha
  have := h j a (by omega) (by rw [← e]; exact List.getElem?_eq_getElem hj)
  simpa using this
def wrT (cs : List Cel) (is : List Itt) (x : Itt) (fl : Stp) : Stp × Bool × Int :=
  if chkdE cs is [fl] = 0 then (if chkI x = 0 then (match atK is x.key with
    | some y => if y.nd = x.nd ∧ y.nu = x.nu then (y.at_, false, 0) else (zeroS, true, 0)
    | none => if less (flF cs x.key fl cs.length) x.at_ then (x.at_, false, 0) else (nextS (flF cs x.key fl cs.length) x.at_.tag, false, nextE (flF cs x.key fl cs.length) x.at_.tag)) else (zeroS, false, chkI x)) else (zeroS, false, chkdE cs is [fl])
def wrV (r : Stp × Bool × Int) : Value := .tuple #[.agg #[.int .i64 r.1.wall, .int .i32 r.1.logic, .int .i32 r.1.tag], .bool r.2.1, .int .i64 r.2.2]

/-- The boxes of Write. -/
structure WrB (W : World) (Z : Nat) (x : Itt) (t : Stp) : Prop where
  a : BxV W Z x.c
  b : BxV W (Z + 1) (spc t)
  c : BxV W (Z + 1 + 1) (spc zeroS)
theorem WrB.next {W W' : World} {Z : Nat} {x : Itt} {t : Stp} (h : WrB W Z x t) (hb : Below W.heap.size W W') : WrB W' Z x t := ⟨h.a.next hb, h.b.next hb, h.c.next hb⟩


set_option maxHeartbeats 6400000 in
theorem write24_any (A : Option Addr) (n c : Nat) (cs : List Cel) (hl : cs.length = n) (hn : n ≤ 1000000) (A2 : Option Addr) (m c2 : Nat) (is : List Itt) (hl2 : is.length = m) (hm : m ≤ 1000000) (x : Itt) (t : Stp) (B : Nat) (w : World) (hr : Rd w B A (cev cs)) (hr2 : Rd w B A2 (itv is)) (hB : B ≤ w.heap.size) :
    Calls Try.prog 10 #[.slice A n c, .slice A2 m c2, x.v, .agg #[.int .i64 t.wall, .int .i32 t.logic, .int .i32 t.tag]] w fun e w' => e = .returned (wrV (wrT cs is x t)) ∧ Below w.heap.size w w' := by
  have HL := Lib.hid hl
  have HR := Lib.hid hr
  have HL2 := Lib.hid hl2
  have HR2 := Lib.hid hr2
  clear hl hr hl2 hr2
  obtain ⟨S, hS⟩ : ∃ S, S = wrT cs is x t := ⟨_, rfl⟩
  rw [← hS]
  have HS := Lib.hid hS
  clear hS
  unfold Itt.v
  have HCI := Lib.hid (pitt_any x)
  unfold Itt.v at HCI
  go_enter Try.func10, Try.ntmps10
  go_wp2_with fail
  have X5 : Hid (WrB ((((w.alloc (.cells #[.string x.key, .int .i32 x.nd, .int .i32 x.nu, .int .i64 x.bg.wall, .int .i32 x.bg.logic, .int .i32 x.bg.tag, .string x.anc, .int .i64 x.at_.wall, .int .i32 x.at_.logic, .int .i32 x.at_.tag, .string x.val, .bool x.del] 29)).alloc (.cells #[.int .i64 t.wall, .int .i32 t.logic, .int .i32 t.tag] 25)).alloc (.cells #[.int .i64 0, .int .i32 0, .int .i32 0] 25)).alloc (.cells #[.int .i64 t.wall, .int .i32 t.logic, .int .i32 t.tag] 25)) w.heap.size x t) := Lib.hid ⟨((((BxV.new w _ _).alloc _).alloc _).alloc _), by
    have h := ((BxV.new (w.alloc (.cells #[.string x.key, .int .i32 x.nd, .int .i32 x.nu, .int .i64 x.bg.wall, .int .i32 x.bg.logic, .int .i32 x.bg.tag, .string x.anc, .int .i64 x.at_.wall, .int .i32 x.at_.logic, .int .i32 x.at_.tag, .string x.val, .bool x.del] 29)) #[.int .i64 t.wall, .int .i32 t.logic, .int .i32 t.tag] 25).alloc (.cells #[.int .i64 0, .int .i32 0, .int .i32 0] 25)).alloc (.cells #[.int .i64 t.wall, .int .i32 t.logic, .int .i32 t.tag] 25)
    simp only [World.size_alloc] at h; exact h, by
    have h := ((BxV.new ((w.alloc (.cells #[.string x.key, .int .i32 x.nd, .int .i32 x.nu, .int .i64 x.bg.wall, .int .i32 x.bg.logic, .int .i32 x.bg.tag, .string x.anc, .int .i64 x.at_.wall, .int .i32 x.at_.logic, .int .i32 x.at_.tag, .string x.val, .bool x.del] 29)).alloc (.cells #[.int .i64 t.wall, .int .i32 t.logic, .int .i32 t.tag] 25)) #[.int .i64 0, .int .i32 0, .int .i32 0] 25)).alloc (.cells #[.int .i64 t.wall, .int .i32 t.logic, .int .i32 t.tag] 25)
    simp only [World.size_alloc] at h; exact h⟩
  have RS : Hid (Rd ((((w.alloc (.cells #[.string x.key, .int .i32 x.nd, .int .i32 x.nu, .int .i64 x.bg.wall, .int .i32 x.bg.logic, .int .i32 x.bg.tag, .string x.anc, .int .i64 x.at_.wall, .int .i32 x.at_.logic, .int .i32 x.at_.tag, .string x.val, .bool x.del] 29)).alloc (.cells #[.int .i64 t.wall, .int .i32 t.logic, .int .i32 t.tag] 25)).alloc (.cells #[.int .i64 0, .int .i32 0, .int .i32 0] 25)).alloc (.cells #[.int .i64 t.wall, .int .i32 t.logic, .int .i32 t.tag] 25)) ((((w.alloc (.cells #[.string x.key, .int .i32 x.nd, .int .i32 x.nu, .int .i64 x.bg.wall, .int .i32 x.bg.logic, .int .i32 x.bg.tag, .string x.anc, .int .i64 x.at_.wall, .int .i32 x.at_.logic, .int .i32 x.at_.tag, .string x.val, .bool x.del] 29)).alloc (.cells #[.int .i64 t.wall, .int .i32 t.logic, .int .i32 t.tag] 25)).alloc (.cells #[.int .i64 0, .int .i32 0, .int .i32 0] 25)).alloc (.cells #[.int .i64 t.wall, .int .i32 t.logic, .int .i32 t.tag] 25)).heap.size (some ⟨w.heap.size + 1 + 1 + 1, 0, none⟩) (spv [t])) := Lib.hid (by
    have h := rd_frC (((w.alloc (.cells #[.string x.key, .int .i32 x.nd, .int .i32 x.nu, .int .i64 x.bg.wall, .int .i32 x.bg.logic, .int .i32 x.bg.tag, .string x.anc, .int .i64 x.at_.wall, .int .i32 x.at_.logic, .int .i32 x.at_.tag, .string x.val, .bool x.del] 29)).alloc (.cells #[.int .i64 t.wall, .int .i32 t.logic, .int .i32 t.tag] 25)).alloc (.cells #[.int .i64 0, .int .i32 0, .int .i32 0] 25)) #[.int .i64 t.wall, .int .i32 t.logic, .int .i32 t.tag] 25 (0, 0)
    simpa [spv, spc] using h)
  have B5 : Hid (Below w.heap.size w ((((w.alloc (.cells #[.string x.key, .int .i32 x.nd, .int .i32 x.nu, .int .i64 x.bg.wall, .int .i32 x.bg.logic, .int .i32 x.bg.tag, .string x.anc, .int .i64 x.at_.wall, .int .i32 x.at_.logic, .int .i32 x.at_.tag, .string x.val, .bool x.del] 29)).alloc (.cells #[.int .i64 t.wall, .int .i32 t.logic, .int .i32 t.tag] 25)).alloc (.cells #[.int .i64 0, .int .i32 0, .int .i32 0] 25)).alloc (.cells #[.int .i64 t.wall, .int .i32 t.logic, .int .i32 t.tag] 25))) := Lib.hid (((((((Below.refl _ _).alloc (Nat.le_refl _) _).alloc (by simp) _).alloc (by simp <;> omega) _).alloc (by simp <;> omega) _)))
  have hz5 : w.heap.size + 1 + 1 < ((((w.alloc (.cells #[.string x.key, .int .i32 x.nd, .int .i32 x.nu, .int .i64 x.bg.wall, .int .i32 x.bg.logic, .int .i32 x.bg.tag, .string x.anc, .int .i64 x.at_.wall, .int .i32 x.at_.logic, .int .i32 x.at_.tag, .string x.val, .bool x.del] 29)).alloc (.cells #[.int .i64 t.wall, .int .i32 t.logic, .int .i32 t.tag] 25)).alloc (.cells #[.int .i64 0, .int .i32 0, .int .i32 0] 25)).alloc (.cells #[.int .i64 t.wall, .int .i32 t.logic, .int .i32 t.tag] 25)).heap.size := by simp <;> omega
  generalize ((((w.alloc (.cells #[.string x.key, .int .i32 x.nd, .int .i32 x.nu, .int .i64 x.bg.wall, .int .i32 x.bg.logic, .int .i32 x.bg.tag, .string x.anc, .int .i64 x.at_.wall, .int .i32 x.at_.logic, .int .i32 x.at_.tag, .string x.val, .bool x.del] 29)).alloc (.cells #[.int .i64 t.wall, .int .i32 t.logic, .int .i32 t.tag] 25)).alloc (.cells #[.int .i64 0, .int .i32 0, .int .i32 0] 25)).alloc (.cells #[.int .i64 t.wall, .int .i32 t.logic, .int .i32 t.tag] 25)) = w5 at *
  have R5 := Lib.hid ((HR.out.below (B5.out.mono hB)).more (show B ≤ w5.heap.size by omega))
  have R52 := Lib.hid ((HR2.out.below (B5.out.mono hB)).more (show B ≤ w5.heap.size by omega))
  refine (checked24_any A n c cs HL.out (by omega) A2 m c2 is HL2.out (by omega) (some ⟨w.heap.size + 1 + 1 + 1, 0, none⟩) 1 1 [t] rfl (by decide) w5.heap.size w5 R5.out R52.out RS.out (Nat.le_refl _)).mono ?_
  rintro e w6 ⟨rfl, hb6⟩
  have X6 := Lib.hid (X5.out.next hb6)
  have B6 := Lib.hid (B5.out.trans (hb6.mono B5.out.size))
  have hz6 : w.heap.size + 1 + 1 < w6.heap.size := by have := hb6.size; omega
  clear hb6 X5 RS B5 R5 R52 hz5
  by_cases h0 : chkdE cs is [t] = 0
  case neg =>
    obtain ⟨E, hE⟩ : ∃ E, E = chkdE cs is [t] := ⟨_, rfl⟩
    have SEQ : Hid (S = (zeroS, false, E)) := Lib.hid (by rw [HS.out, hE]; unfold wrT; rw [if_neg h0])
    rw [← hE] at h0 ⊢
    have e1 : (E != 0) = true := by simpa using h0
    have XR := Lib.hid X6.out.c
    have q0 := XR.out.c 0 _ rfl
    have q1 := XR.out.c 1 _ rfl
    have q2 := XR.out.c 2 _ rfl
    have qf := XR.out.fz
    clear hE h0 HS
    go_wp2_with fail
    obtain ⟨w9, rfl⟩ : ∃ x, x = w6 := ⟨_, rfl⟩
    have B9 := B6
    change bodyPost _ _ _ _ _ (World.setCells w9 (w.heap.size + 1 + 1) 0 [.int .i64 0, .int .i32 0, .int .i32 0])
    have RB := (XR.out.set [.int .i64 0, .int .i32 0, .int .i32 0] rfl)
    have BZ := bel_setCells (b := w.heap.size + 1 + 1) (by omega) [.int .i64 0, .int .i32 0, .int .i32 0] 0 _ B9.out
    have r0 := RB.c 0 _ rfl
    have r1 := RB.c 1 _ rfl
    have r2 := RB.c 2 _ rfl
    generalize World.setCells w9 (w.heap.size + 1 + 1) 0 [.int .i64 0, .int .i32 0, .int .i32 0] = wz at *
    refine bodyPost_ret (v := .tuple #[.agg #[.int .i64 0, .int .i32 0, .int .i32 0], .bool false, .int .i64 E]) (by simp [results, Try.results10, go_sem, r0, r1, r2]) rfl ⟨?_, BZ⟩
    rw [SEQ.out]
    all_goals rfl
  have HS0 : Hid (S = if chkI x = 0 then (match atK is x.key with
    | some y => if y.nd = x.nd ∧ y.nu = x.nu then (y.at_, false, 0) else (zeroS, true, 0)
    | none => if less (flF cs x.key t cs.length) x.at_ then (x.at_, false, 0) else (nextS (flF cs x.key t cs.length) x.at_.tag, false, nextE (flF cs x.key t cs.length) x.at_.tag)) else (zeroS, false, chkI x)) := Lib.hid (by rw [HS.out]; unfold wrT; rw [if_pos h0])
  rw [h0]
  clear h0 HS
  have y0 := X6.out.a.c 0 _ rfl
  have y1 := X6.out.a.c 1 _ rfl
  have y2 := X6.out.a.c 2 _ rfl
  have y3 := X6.out.a.c 3 _ rfl
  have y4 := X6.out.a.c 4 _ rfl
  have y5 := X6.out.a.c 5 _ rfl
  have y6 := X6.out.a.c 6 _ rfl
  have y7 := X6.out.a.c 7 _ rfl
  have y8 := X6.out.a.c 8 _ rfl
  have y9 := X6.out.a.c 9 _ rfl
  have y10 := X6.out.a.c 10 _ rfl
  have y11 := X6.out.a.c 11 _ rfl
  go_wp2_with fail
  refine (HCI.out w6).mono ?_
  rintro e w7 ⟨rfl, hb7⟩
  have X7 := Lib.hid (X6.out.next hb7)
  have B7 := Lib.hid (B6.out.trans (hb7.mono B6.out.size))
  have hz7 : w.heap.size + 1 + 1 < w7.heap.size := by have := hb7.size; omega
  clear hb7 X6 B6 hz6 y0 y1 y2 y3 y4 y5 y6 y7 y8 y9 y10 y11 HCI
  by_cases h0 : chkI x = 0
  case neg =>
    obtain ⟨E, hE⟩ : ∃ E, E = chkI x := ⟨_, rfl⟩
    have SEQ : Hid (S = (zeroS, false, E)) := Lib.hid (by rw [HS0.out, if_neg h0, hE])
    rw [← hE] at h0 ⊢
    have e1 : (E != 0) = true := by simpa using h0
    have XR := Lib.hid X7.out.c
    have q0 := XR.out.c 0 _ rfl
    have q1 := XR.out.c 1 _ rfl
    have q2 := XR.out.c 2 _ rfl
    have qf := XR.out.fz
    clear hE h0 HS0
    go_wp2_with fail
    obtain ⟨w9, rfl⟩ : ∃ x, x = w7 := ⟨_, rfl⟩
    have B9 := B7
    change bodyPost _ _ _ _ _ (World.setCells w9 (w.heap.size + 1 + 1) 0 [.int .i64 0, .int .i32 0, .int .i32 0])
    have RB := (XR.out.set [.int .i64 0, .int .i32 0, .int .i32 0] rfl)
    have BZ := bel_setCells (b := w.heap.size + 1 + 1) (by omega) [.int .i64 0, .int .i32 0, .int .i32 0] 0 _ B9.out
    have r0 := RB.c 0 _ rfl
    have r1 := RB.c 1 _ rfl
    have r2 := RB.c 2 _ rfl
    generalize World.setCells w9 (w.heap.size + 1 + 1) 0 [.int .i64 0, .int .i32 0, .int .i32 0] = wz at *
    refine bodyPost_ret (v := .tuple #[.agg #[.int .i64 0, .int .i32 0, .int .i32 0], .bool false, .int .i64 E]) (by simp [results, Try.results10, go_sem, r0, r1, r2]) rfl ⟨?_, BZ⟩
    rw [SEQ.out]
    all_goals rfl
  have HS1 : Hid (S = match atK is x.key with
    | some y => if y.nd = x.nd ∧ y.nu = x.nu then (y.at_, false, 0) else (zeroS, true, 0)
    | none => if less (flF cs x.key t cs.length) x.at_ then (x.at_, false, 0) else (nextS (flF cs x.key t cs.length) x.at_.tag, false, nextE (flF cs x.key t cs.length) x.at_.tag)) := Lib.hid (by rw [HS0.out, if_pos h0])
  rw [h0]
  clear h0 HS0
  have R7 := Lib.hid (HR.out.below (B7.out.mono hB))
  have R72 := Lib.hid (HR2.out.below (B7.out.mono hB))
  clear HR2
  go_wp2_with fail
  go_loopw [34] (fun s34 wr => ∃ (i : Nat), s34 = .int .i64 (i : Int) ∧ i ≤ m ∧ Hid (noK is x.key i) ∧ Hid (Below w7.heap.size w7 wr)) (fun s34 _ => m - (intOf s34).toNat)
  case atStart => exact ⟨0, rfl, Nat.zero_le _, Lib.hid (fun j a h => by omega), Lib.hid (Below.refl _ _)⟩
  case round =>
    obtain ⟨i, rfl, hi, HN, hB1⟩ := hrel
    obtain ⟨w2, rfl⟩ : ∃ x, x = wr := ⟨_, rfl⟩
    have hz2 : w.heap.size + 1 + 1 < w2.heap.size := by have := hB1.out.size; omega
    have X2 := Lib.hid (X7.out.next hB1.out)
    have B2 := Lib.hid (B7.out.trans (hB1.out.mono B7.out.size))
    by_cases hlt : i < m
    · obtain ⟨y, hy⟩ : ∃ y, is[i]? = some y := ⟨_, List.getElem?_eq_getElem (by rw [HL2.out]; exact hlt)⟩
      obtain ⟨b, off, rfl, hb, hce⟩ := it_at R72.out hy
      obtain ⟨d0, d1, d2, d3, d4, d5, d6, d7, d8, d9, d10, d11⟩ := hce.below (Nat.lt_of_lt_of_le hb (by omega)) hB1.out
      have HY := Lib.hid hy
      have i1 : (i : Int) < (m : Int) := by omega
      have x0 := X2.out.a.c 0 _ rfl
      have x1 := X2.out.a.c 1 _ rfl
      have x2 := X2.out.a.c 2 _ rfl
      have zz0 : w.heap.size < w2.heap.size := by omega
      have zz2 : w.heap.size + 1 + 1 < w2.heap.size := by omega
      have zzb : b < w2.heap.size := by have := hB1.out.size; omega
      clear hce hy
      by_cases q0 : y.key = x.key
      · have g0 : (y.key.toList == x.key.toList) = true := by rw [str_eq, decide_eq_true q0]
        have HK := Lib.hid q0
        clear q0
        by_cases q1 : y.nd = x.nd
        · have g1 : (y.nd == x.nd) = true := by simpa using q1
          by_cases q2 : y.nu = x.nu
          · have g2 : (y.nu == x.nu) = true := by simpa using q2
            have SEQ : Hid (S = (y.at_, false, 0)) := Lib.hid (by rw [HS1.out, atK_some HN.out HY.out HK.out]; exact if_pos ⟨q1, q2⟩)
            clear q1 q2
            have XR := Lib.hid X2.out.c
            have q0 := XR.out.c 0 _ rfl
            have q1 := XR.out.c 1 _ rfl
            have q2 := XR.out.c 2 _ rfl
            have qf := XR.out.fz
            clear XR
            go_wp2_with fail
            change bodyPost _ _ _ _ _ ((World.setCells w2 (w.heap.size + 1 + 1) 0 [.int .i64 y.at_.wall, .int .i32 y.at_.logic, .int .i32 y.at_.tag]).alloc (.cells #[.string y.key, .int .i32 y.nd, .int .i32 y.nu, .int .i64 y.bg.wall, .int .i32 y.bg.logic, .int .i32 y.bg.tag, .string y.anc, .int .i64 y.at_.wall, .int .i32 y.at_.logic, .int .i32 y.at_.tag, .string y.val, .bool y.del] 29))
            have RB := (X2.out.c.set [.int .i64 y.at_.wall, .int .i32 y.at_.logic, .int .i32 y.at_.tag] rfl).alloc (.cells #[.string y.key, .int .i32 y.nd, .int .i32 y.nu, .int .i64 y.bg.wall, .int .i32 y.bg.logic, .int .i32 y.bg.tag, .string y.anc, .int .i64 y.at_.wall, .int .i32 y.at_.logic, .int .i32 y.at_.tag, .string y.val, .bool y.del] 29)
            have BZ := (bel_setCells (b := w.heap.size + 1 + 1) (by omega) [.int .i64 y.at_.wall, .int .i32 y.at_.logic, .int .i32 y.at_.tag] 0 _ B2.out).alloc (by rw [setCells_size]; omega) (.cells #[.string y.key, .int .i32 y.nd, .int .i32 y.nu, .int .i64 y.bg.wall, .int .i32 y.bg.logic, .int .i32 y.bg.tag, .string y.anc, .int .i64 y.at_.wall, .int .i32 y.at_.logic, .int .i32 y.at_.tag, .string y.val, .bool y.del] 29)
            have r0 := RB.c 0 _ rfl
            have r1 := RB.c 1 _ rfl
            have r2 := RB.c 2 _ rfl
            generalize (World.setCells w2 (w.heap.size + 1 + 1) 0 [.int .i64 y.at_.wall, .int .i32 y.at_.logic, .int .i32 y.at_.tag]).alloc (.cells #[.string y.key, .int .i32 y.nd, .int .i32 y.nu, .int .i64 y.bg.wall, .int .i32 y.bg.logic, .int .i32 y.bg.tag, .string y.anc, .int .i64 y.at_.wall, .int .i32 y.at_.logic, .int .i32 y.at_.tag, .string y.val, .bool y.del] 29) = wz at *
            refine bodyPost_ret (v := .tuple #[.agg #[.int .i64 y.at_.wall, .int .i32 y.at_.logic, .int .i32 y.at_.tag], .bool false, .int .i64 0]) (by simp [results, Try.results10, go_sem, r0, r1, r2]) rfl ⟨?_, BZ⟩
            rw [SEQ.out]
            all_goals rfl
          · have g2 : (y.nu == x.nu) = false := by simpa using q2
            have hne : Hid (¬ (y.nd = x.nd ∧ y.nu = x.nu)) := Lib.hid (fun e => q2 e.2)
            clear q1 q2
            have SEQ : Hid (S = (zeroS, true, 0)) := Lib.hid (by rw [HS1.out, atK_some HN.out HY.out HK.out]; exact if_neg hne.out)
            have XR := Lib.hid X2.out.c
            have q0 := XR.out.c 0 _ rfl
            have q1 := XR.out.c 1 _ rfl
            have q2 := XR.out.c 2 _ rfl
            have qf := XR.out.fz
            clear XR
            go_wp2_with fail
            change bodyPost _ _ _ _ _ ((World.setCells w2 (w.heap.size + 1 + 1) 0 [.int .i64 0, .int .i32 0, .int .i32 0]).alloc (.cells #[.string y.key, .int .i32 y.nd, .int .i32 y.nu, .int .i64 y.bg.wall, .int .i32 y.bg.logic, .int .i32 y.bg.tag, .string y.anc, .int .i64 y.at_.wall, .int .i32 y.at_.logic, .int .i32 y.at_.tag, .string y.val, .bool y.del] 29))
            have RB := (X2.out.c.set [.int .i64 0, .int .i32 0, .int .i32 0] rfl).alloc (.cells #[.string y.key, .int .i32 y.nd, .int .i32 y.nu, .int .i64 y.bg.wall, .int .i32 y.bg.logic, .int .i32 y.bg.tag, .string y.anc, .int .i64 y.at_.wall, .int .i32 y.at_.logic, .int .i32 y.at_.tag, .string y.val, .bool y.del] 29)
            have BZ := (bel_setCells (b := w.heap.size + 1 + 1) (by omega) [.int .i64 0, .int .i32 0, .int .i32 0] 0 _ B2.out).alloc (by rw [setCells_size]; omega) (.cells #[.string y.key, .int .i32 y.nd, .int .i32 y.nu, .int .i64 y.bg.wall, .int .i32 y.bg.logic, .int .i32 y.bg.tag, .string y.anc, .int .i64 y.at_.wall, .int .i32 y.at_.logic, .int .i32 y.at_.tag, .string y.val, .bool y.del] 29)
            have r0 := RB.c 0 _ rfl
            have r1 := RB.c 1 _ rfl
            have r2 := RB.c 2 _ rfl
            generalize (World.setCells w2 (w.heap.size + 1 + 1) 0 [.int .i64 0, .int .i32 0, .int .i32 0]).alloc (.cells #[.string y.key, .int .i32 y.nd, .int .i32 y.nu, .int .i64 y.bg.wall, .int .i32 y.bg.logic, .int .i32 y.bg.tag, .string y.anc, .int .i64 y.at_.wall, .int .i32 y.at_.logic, .int .i32 y.at_.tag, .string y.val, .bool y.del] 29) = wz at *
            refine bodyPost_ret (v := .tuple #[.agg #[.int .i64 0, .int .i32 0, .int .i32 0], .bool true, .int .i64 0]) (by simp [results, Try.results10, go_sem, r0, r1, r2]) rfl ⟨?_, BZ⟩
            rw [SEQ.out]
            all_goals rfl
        · have g1 : (y.nd == x.nd) = false := by simpa using q1
          have hne : Hid (¬ (y.nd = x.nd ∧ y.nu = x.nu)) := Lib.hid (fun e => q1 e.1)
          clear q1
          have SEQ : Hid (S = (zeroS, true, 0)) := Lib.hid (by rw [HS1.out, atK_some HN.out HY.out HK.out]; exact if_neg hne.out)
          have XR := Lib.hid X2.out.c
          have q0 := XR.out.c 0 _ rfl
          have q1 := XR.out.c 1 _ rfl
          have q2 := XR.out.c 2 _ rfl
          have qf := XR.out.fz
          clear XR
          go_wp2_with fail
          change bodyPost _ _ _ _ _ ((World.setCells w2 (w.heap.size + 1 + 1) 0 [.int .i64 0, .int .i32 0, .int .i32 0]).alloc (.cells #[.string y.key, .int .i32 y.nd, .int .i32 y.nu, .int .i64 y.bg.wall, .int .i32 y.bg.logic, .int .i32 y.bg.tag, .string y.anc, .int .i64 y.at_.wall, .int .i32 y.at_.logic, .int .i32 y.at_.tag, .string y.val, .bool y.del] 29))
          have RB := (X2.out.c.set [.int .i64 0, .int .i32 0, .int .i32 0] rfl).alloc (.cells #[.string y.key, .int .i32 y.nd, .int .i32 y.nu, .int .i64 y.bg.wall, .int .i32 y.bg.logic, .int .i32 y.bg.tag, .string y.anc, .int .i64 y.at_.wall, .int .i32 y.at_.logic, .int .i32 y.at_.tag, .string y.val, .bool y.del] 29)
          have BZ := (bel_setCells (b := w.heap.size + 1 + 1) (by omega) [.int .i64 0, .int .i32 0, .int .i32 0] 0 _ B2.out).alloc (by rw [setCells_size]; omega) (.cells #[.string y.key, .int .i32 y.nd, .int .i32 y.nu, .int .i64 y.bg.wall, .int .i32 y.bg.logic, .int .i32 y.bg.tag, .string y.anc, .int .i64 y.at_.wall, .int .i32 y.at_.logic, .int .i32 y.at_.tag, .string y.val, .bool y.del] 29)
          have r0 := RB.c 0 _ rfl
          have r1 := RB.c 1 _ rfl
          have r2 := RB.c 2 _ rfl
          generalize (World.setCells w2 (w.heap.size + 1 + 1) 0 [.int .i64 0, .int .i32 0, .int .i32 0]).alloc (.cells #[.string y.key, .int .i32 y.nd, .int .i32 y.nu, .int .i64 y.bg.wall, .int .i32 y.bg.logic, .int .i32 y.bg.tag, .string y.anc, .int .i64 y.at_.wall, .int .i32 y.at_.logic, .int .i32 y.at_.tag, .string y.val, .bool y.del] 29) = wz at *
          refine bodyPost_ret (v := .tuple #[.agg #[.int .i64 0, .int .i32 0, .int .i32 0], .bool true, .int .i64 0]) (by simp [results, Try.results10, go_sem, r0, r1, r2]) rfl ⟨?_, BZ⟩
          rw [SEQ.out]
          all_goals rfl
      · have g0 : (y.key.toList == x.key.toList) = false := by rw [str_eq, decide_eq_false q0]
        have HN2 := Lib.hid (noK_succ HN.out HY.out q0)
        have B9 := Lib.hid (hB1.out.alloc hB1.out.size (.cells #[.string y.key, .int .i32 y.nd, .int .i32 y.nu, .int .i64 y.bg.wall, .int .i32 y.bg.logic, .int .i32 y.bg.tag, .string y.anc, .int .i64 y.at_.wall, .int .i32 y.at_.logic, .int .i32 y.at_.tag, .string y.val, .bool y.del] 29))
        clear q0 X2 B2
        go_wp2_with fail
        go_roundw
        case rel => exact ⟨i + 1, by go_num, by omega, HN2, B9⟩
        case measure => simp [intOf]; omega
    · have i1 : ¬ (i : Int) < (m : Int) := by omega
      have HS2 : Hid (S = if less (flF cs x.key t cs.length) x.at_ then (x.at_, false, 0) else (nextS (flF cs x.key t cs.length) x.at_.tag, false, nextE (flF cs x.key t cs.length) x.at_.tag)) := Lib.hid (by rw [HS1.out, atK_none HN.out (by rw [HL2.out]; omega)])
      clear HN HS1 hlt R7 R72 X7 B7 hB1
      go_wp2_with fail
      go_loopw [56] (fun s56 wr => ∃ (i : Nat), s56 = .int .i64 (i : Int) ∧ i ≤ n ∧ Hid (WrB wr w.heap.size x (flF cs x.key t i)) ∧ Hid (Below w.heap.size w wr)) (fun s56 _ => n - (intOf s56).toNat)
      case atStart => exact ⟨0, rfl, Nat.zero_le _, X2, B2⟩
      case round =>
        obtain ⟨i', rfl, hi', HP, hB3⟩ := hrel
        obtain ⟨w3, rfl⟩ : ∃ x, x = wr := ⟨_, rfl⟩
        clear X2 B2 hz2
        have hz3 : w.heap.size + 1 + 1 < w3.heap.size := HP.out.c.lt
        by_cases hlt2 : i' < n
        · obtain ⟨y, hy⟩ : ∃ y, cs[i']? = some y := ⟨_, List.getElem?_eq_getElem (by rw [HL.out]; exact hlt2)⟩
          obtain ⟨b, off, rfl, hb, hce⟩ := ce_at HR.out hy
          have hbw : b < w.heap.size := Nat.lt_of_lt_of_le hb hB
          obtain ⟨d0, d1, d2, d3, d4, d5⟩ := hce.below hbw hB3.out
          have HY := Lib.hid hy
          have CY : Hid (CeI (w3.alloc (.cells #[.string y.key, .int .i64 y.at_.wall, .int .i32 y.at_.logic, .int .i32 y.at_.tag, .string y.val, .bool y.del] 45)) w3.heap.size 0 y) := Lib.hid (by
            have h := (BxV.new w3 #[.string y.key, .int .i64 y.at_.wall, .int .i32 y.at_.logic, .int .i32 y.at_.tag, .string y.val, .bool y.del] 45).c
            exact ⟨h 0 _ rfl, h 1 _ rfl, h 2 _ rfl, h 3 _ rfl, h 4 _ rfl, h 5 _ rfl⟩)
          have k1 : (i' : Int) < (n : Int) := by omega
          have x0 := HP.out.a.c 0 _ rfl
          have u0 := HP.out.b.c 0 _ rfl
          have u1 := HP.out.b.c 1 _ rfl
          have u2 := HP.out.b.c 2 _ rfl
          have zz0 : w.heap.size < w3.heap.size := by omega
          have zz1 : w.heap.size + 1 < w3.heap.size := by omega
          have zzb : b < w3.heap.size := by omega
          clear hce hy
          by_cases q0 : y.key = x.key
          · have g0 : (y.key.toList == x.key.toList) = true := by rw [str_eq, decide_eq_true q0]
            have HF := Lib.hid (flF_yes (fl := t) HY.out q0)
            clear q0
            generalize flF cs x.key t i' = fl at *
            go_wp2_with fail
            refine (hmax_any fl y.at_ _).mono ?_
            rintro e w4 ⟨rfl, hb4⟩
            have P4 := (HP.out.next ((Below.refl w3.heap.size w3).alloc (Nat.le_refl _) (.cells #[.string y.key, .int .i64 y.at_.wall, .int .i32 y.at_.logic, .int .i32 y.at_.tag, .string y.val, .bool y.del] 45))).next hb4
            have B4 := hB3.out.trans (((Below.refl w3.heap.size w3).alloc (Nat.le_refl _) (.cells #[.string y.key, .int .i64 y.at_.wall, .int .i32 y.at_.logic, .int .i32 y.at_.tag, .string y.val, .bool y.del] 45)).trans (hb4.mono (by simp)) |>.mono (by omega))
            have P9 : Hid (WrB (World.setCells w4 (w.heap.size + 1) 0 (spc (maxS fl y.at_))) w.heap.size x (flF cs x.key t (i' + 1))) := Lib.hid (by rw [HF.out]; exact ⟨P4.a.other (by omega) _ _, P4.b.set _ rfl, P4.c.other (by omega) _ _⟩)
            have B9 : Hid (Below w.heap.size w (World.setCells w4 (w.heap.size + 1) 0 (spc (maxS fl y.at_)))) := Lib.hid (bel_setCells (by omega) _ 0 _ B4)
            have v0 := P4.b.c 0 _ rfl
            have v1 := P4.b.c 1 _ rfl
            have v2 := P4.b.c 2 _ rfl
            have vf := P4.b.fz
            clear u0 u1 u2 x0 zz0 zz1 zzb d0 d1 d2 d3 d4 d5 P4 B4 hb4 hB3 HP CY
            go_wp2_with fail
            go_roundw
            case rel => exact ⟨i' + 1, by go_num, by omega, P9, B9⟩
            case measure => simp [intOf]; omega
          · have g0 : (y.key.toList == x.key.toList) = false := by rw [str_eq, decide_eq_false q0]
            have HF := Lib.hid (flF_no (fl := t) HY.out q0)
            have P9 : Hid (WrB (w3.alloc (.cells #[.string y.key, .int .i64 y.at_.wall, .int .i32 y.at_.logic, .int .i32 y.at_.tag, .string y.val, .bool y.del] 45)) w.heap.size x (flF cs x.key t (i' + 1))) := Lib.hid (by rw [HF.out]; exact (HP.out.next ((Below.refl w3.heap.size w3).alloc (Nat.le_refl _) (.cells #[.string y.key, .int .i64 y.at_.wall, .int .i32 y.at_.logic, .int .i32 y.at_.tag, .string y.val, .bool y.del] 45))))
            have B9 := Lib.hid (hB3.out.alloc hB3.out.size (.cells #[.string y.key, .int .i64 y.at_.wall, .int .i32 y.at_.logic, .int .i32 y.at_.tag, .string y.val, .bool y.del] 45))
            clear q0 hB3 HP CY
            go_wp2_with fail
            go_roundw
            case rel => exact ⟨i' + 1, by go_num, by omega, P9, B9⟩
            case measure => simp [intOf]; omega
        · have k1 : ¬ (i' : Int) < (n : Int) := by omega
          have hin : cs.length = i' := by rw [HL.out]; omega
          rw [hin] at HS2
          generalize flF cs x.key t i' = fl at *
          have y7 := HP.out.a.c 7 _ rfl
          have y8 := HP.out.a.c 8 _ rfl
          have y9 := HP.out.a.c 9 _ rfl
          have u0 := HP.out.b.c 0 _ rfl
          have u1 := HP.out.b.c 1 _ rfl
          have u2 := HP.out.b.c 2 _ rfl
          clear hin hlt2
          go_wp2_with fail
          refine (hcompare_any x.at_ fl _).mono ?_
          rintro e w4 ⟨rfl, hb4⟩
          have P4 := Lib.hid (HP.out.next hb4)
          have B4 := Lib.hid (hB3.out.trans (hb4.mono hB3.out.size))
          have hz4 : w.heap.size + 1 + 1 < w4.heap.size := by have := hb4.size; omega
          clear hb4 u0 u1 u2 y7 y8 y9 HP hB3
          cases k2 : less fl x.at_
          · have g1 : ¬ 0 < cmpS x.at_ fl := by have := (cmp_le x.at_ fl).2 k2; omega
            have SEQ : Hid (S = (nextS fl x.at_.tag, false, nextE fl x.at_.tag)) := Lib.hid (by rw [HS2.out, k2]; rfl)
            have y9 := P4.out.a.c 9 _ rfl
            have u0 := P4.out.b.c 0 _ rfl
            have u1 := P4.out.b.c 1 _ rfl
            have u2 := P4.out.b.c 2 _ rfl
            clear k2 HS2
            go_wp2_with fail
            refine (hnext_any fl x.at_.tag _).mono ?_
            rintro e w5 ⟨rfl, hb5⟩
            have P5 := Lib.hid (P4.out.next hb5)
            have B5 := Lib.hid (B4.out.trans (hb5.mono B4.out.size))
            have hz5 : w.heap.size + 1 + 1 < w5.heap.size := by have := hb5.size; omega
            clear hb5 y9 u0 u1 u2 P4 B4 hz4
            generalize nextS fl x.at_.tag = u at *
            generalize nextE fl x.at_.tag = E at *
            have XR := Lib.hid P5.out.c
            have q0 := XR.out.c 0 _ rfl
            have q1 := XR.out.c 1 _ rfl
            have q2 := XR.out.c 2 _ rfl
            have qf := XR.out.fz
            clear XR
            go_upto_region 24 with (fail)
            change Code.wp _ _ _ _ (World.setCells w5 (w.heap.size + 1 + 1) 0 (spc u))
            have XR : Hid (BxV (World.setCells w5 (w.heap.size + 1 + 1) 0 (spc u)) (w.heap.size + 1 + 1) (spc u)) := Lib.hid (P5.out.c.set _ rfl)
            have B9 : Hid (Below w.heap.size w (World.setCells w5 (w.heap.size + 1 + 1) 0 (spc u))) := Lib.hid (bel_setCells (by omega) _ 0 _ B5.out)
            clear P5 B5 q0 q1 q2 qf
            generalize World.setCells w5 (w.heap.size + 1 + 1) 0 (spc u) = w9 at *
            have q0 := XR.out.c 0 _ rfl
            have q1 := XR.out.c 1 _ rfl
            have q2 := XR.out.c 2 _ rfl
            have qf := XR.out.fz
            go_wp2_with fail
            change bodyPost _ _ _ _ _ (World.setCells w9 (w.heap.size + 1 + 1) 0 [.int .i64 u.wall, .int .i32 u.logic, .int .i32 u.tag])
            have RB := (XR.out.set [.int .i64 u.wall, .int .i32 u.logic, .int .i32 u.tag] rfl)
            have BZ := bel_setCells (b := w.heap.size + 1 + 1) (by omega) [.int .i64 u.wall, .int .i32 u.logic, .int .i32 u.tag] 0 _ B9.out
            have r0 := RB.c 0 _ rfl
            have r1 := RB.c 1 _ rfl
            have r2 := RB.c 2 _ rfl
            generalize World.setCells w9 (w.heap.size + 1 + 1) 0 [.int .i64 u.wall, .int .i32 u.logic, .int .i32 u.tag] = wz at *
            refine bodyPost_ret (v := .tuple #[.agg #[.int .i64 u.wall, .int .i32 u.logic, .int .i32 u.tag], .bool false, .int .i64 E]) (by simp [results, Try.results10, go_sem, r0, r1, r2]) rfl ⟨?_, BZ⟩
            rw [SEQ.out]
            all_goals rfl
          · have g1 : 0 < cmpS x.at_ fl := by rw [cmp_gt k2]; omega
            have SEQ : Hid (S = (x.at_, false, 0)) := Lib.hid (by rw [HS2.out, k2]; rfl)
            have y7 := P4.out.a.c 7 _ rfl
            have y8 := P4.out.a.c 8 _ rfl
            have y9 := P4.out.a.c 9 _ rfl
            have XR := Lib.hid P4.out.c
            have q0 := XR.out.c 0 _ rfl
            have q1 := XR.out.c 1 _ rfl
            have q2 := XR.out.c 2 _ rfl
            have qf := XR.out.fz
            clear k2 HS2
            go_wp2_with fail
            obtain ⟨w9, rfl⟩ : ∃ x, x = w4 := ⟨_, rfl⟩
            have B9 := B4
            change bodyPost _ _ _ _ _ (World.setCells w9 (w.heap.size + 1 + 1) 0 [.int .i64 x.at_.wall, .int .i32 x.at_.logic, .int .i32 x.at_.tag])
            have RB := (XR.out.set [.int .i64 x.at_.wall, .int .i32 x.at_.logic, .int .i32 x.at_.tag] rfl)
            have BZ := bel_setCells (b := w.heap.size + 1 + 1) (by omega) [.int .i64 x.at_.wall, .int .i32 x.at_.logic, .int .i32 x.at_.tag] 0 _ B9.out
            have r0 := RB.c 0 _ rfl
            have r1 := RB.c 1 _ rfl
            have r2 := RB.c 2 _ rfl
            generalize World.setCells w9 (w.heap.size + 1 + 1) 0 [.int .i64 x.at_.wall, .int .i32 x.at_.logic, .int .i32 x.at_.tag] = wz at *
            refine bodyPost_ret (v := .tuple #[.agg #[.int .i64 x.at_.wall, .int .i32 x.at_.logic, .int .i32 x.at_.tag], .bool false, .int .i64 0]) (by simp [results, Try.results10, go_sem, r0, r1, r2]) rfl ⟨?_, BZ⟩
            rw [SEQ.out]
            all_goals rfl
end Go.Proofs.Ytgikaglmeeeplaa
