/- Walk: what a read at a stamp sees. -/
import Derived.Test.YtgikaglmeeeplaaIe
namespace Go.Proofs.Ytgikaglmeeeplaa
open Go.RowKit Go.St
set_option linter.unusedVariables false
set_option linter.unusedSimpArgs false
set_option maxRecDepth 100000

theorem styIt : STy Try.prog 23 29 12 96 (.agg #[.string { data := #[] }, .int .i32 0, .int .i32 0, .int .i64 0, .int .i32 0, .int .i32 0, .string { data := #[] }, .int .i64 0, .int .i32 0, .int .i32 0, .string { data := #[] }, .bool false]) := ⟨Try.underlying23, ⟨_, rfl, by kernel_rfl, by kernel_rfl, by kernel_rfl⟩, rfl, by decide⟩
/-- What is seen. -/
structure Sn where
  kind : Int
  rows : List (ByteArray × ByteArray)
  its : List Itt
  at_ : Stp
deriving DecidableEq
def scanE (cs : List Cel) (is : List Itt) (at_ lim : Stp) : Int := if chkdE cs is [at_, lim] = 0 then (if less lim at_ then 2 else 0) else chkdE cs is [at_, lim]
def scanM (cs : List Cel) (is : List Itt) (at_ lim : Stp) (by_ : Int × Int) (kn : List (Int × Int)) : Sn :=
  if scanE cs is at_ lim = 0 then (if (heed is at_ lim by_ kn).length = 0 then (if (cs.filter (btw at_ lim)).length = 0 then ⟨1, rowsL cs at_, [], zeroS⟩ else ⟨3, [], [], late cs at_ lim⟩) else ⟨2, [], heed is at_ lim by_ kn, zeroS⟩) else ⟨0, [], [], zeroS⟩
def SnP (base : Nat) (w : World) (e : Ending) (s : Sn) (E : Int) : Prop :=
  ∃ vr vi, e = .returned (.tuple #[.agg #[.int .i64 s.kind, vr, vi, .int .i64 s.at_.wall, .int .i32 s.at_.logic, .int .i32 s.at_.tag], .int .i64 E]) ∧ w.ownsRow base 67 2 vr s.rows.length (kvv s.rows) ∧ w.ownsRow base 29 12 vi s.its.length (itv s.its)

theorem cmp_le (a b : Stp) : cmpS a b ≤ 0 ↔ less b a = false := by
  constructor
  · intro h
    cases q : less b a
    · rfl
    · rw [cmp_gt q] at h
      omega
  · intro h
    cases q : less a b
    · rw [less_tri q h, cmp_eq]
      omega
    · rw [cmp_lt q]
      omega
def sezL : List Value := [.int .i64 0, .slice none 0 0, .slice none 0 0, .int .i64 0, .int .i32 0, .int .i32 0]
/-- The boxes of a scan: its stamp, its limit, by whom, what it tells. -/
structure ScB (W : World) (Z : Nat) (s t : Stp) (by_ : Int × Int) : Prop where
  a : BxV W Z (spc s)
  b : BxV W (Z + 1) (spc t)
  c : BxV W (Z + 1 + 1) [.int .i32 by_.1, .int .i32 by_.2]
  d : BxV W (Z + 1 + 1 + 1) sezL
theorem ScB.next {W W' : World} {Z : Nat} {s t : Stp} {by_ : Int × Int} (h : ScB W Z s t by_) (hb : Below W.heap.size W W') : ScB W' Z s t by_ := ⟨h.a.next hb, h.b.next hb, h.c.next hb, h.d.next hb⟩
theorem heed_snoc {is : List Itt} {i : Nat} {x : Itt} (hx : is[i]? = some x) (f : Itt → Bool) : (is.take (i + 1)).filter f = (is.take i).filter f ++ (if f x then [x] else []) := by
  rw [List.take_add_one, hx, List.filter_append]
  cases h : f x <;> simp [h]
theorem late_snoc {is : List Cel} {i : Nat} {x : Cel} (hx : is[i]? = some x) (f : Cel → Bool) : (is.take (i + 1)).filter f = (is.take i).filter f ++ (if f x then [x] else []) := by
  rw [List.take_add_one, hx, List.filter_append]
  cases h : f x <;> simp [h]
def someL (cs : List Cel) (s t : Stp) (i : Nat) : Bool := decide (0 < ((cs.take i).filter (btw s t)).length)
def lateF (l : List Cel) : Stp := l.foldl (fun b c => maxS b c.at_) zeroS
theorem lateF_snoc (l : List Cel) (x : Cel) : lateF (l ++ [x]) = maxS (lateF l) x.at_ := by simp [lateF, List.foldl_append]
theorem scan_bad {cs : List Cel} {is : List Itt} {s t : Stp} {b : Int × Int} {kn : List (Int × Int)} (h : scanE cs is s t ≠ 0) : scanM cs is s t b kn = ⟨0, [], [], zeroS⟩ := by unfold scanM; rw [if_neg h]
theorem scan_met {cs : List Cel} {is : List Itt} {s t : Stp} {b : Int × Int} {kn : List (Int × Int)} (h : scanE cs is s t = 0) (k : (heed is s t b kn).length ≠ 0) : scanM cs is s t b kn = ⟨2, [], heed is s t b kn, zeroS⟩ := by unfold scanM; rw [if_pos h, if_neg k]
theorem scan_uns {cs : List Cel} {is : List Itt} {s t : Stp} {b : Int × Int} {kn : List (Int × Int)} (h : scanE cs is s t = 0) (k : (heed is s t b kn).length = 0) (l : (cs.filter (btw s t)).length ≠ 0) : scanM cs is s t b kn = ⟨3, [], [], late cs s t⟩ := by unfold scanM; rw [if_pos h, if_pos k, if_neg l]
theorem scan_rows {cs : List Cel} {is : List Itt} {s t : Stp} {b : Int × Int} {kn : List (Int × Int)} (h : scanE cs is s t = 0) (k : (heed is s t b kn).length = 0) (l : (cs.filter (btw s t)).length = 0) : scanM cs is s t b kn = ⟨1, rowsL cs s, [], zeroS⟩ := by unfold scanM; rw [if_pos h, if_pos k, if_pos l]

theorem heed_yes {s t : Stp} {b : Int × Int} {kn : List (Int × Int)} {x : Itt} (h : ¬ (x.nd = b.1 ∧ x.nu = b.2)) (k : less s x.at_ = false ∨ (less t x.at_ = false ∧ ¬ (x.nd, x.nu) ∈ kn)) : heedF s t b kn x = true := by
  unfold heedF le
  rw [decide_eq_false (fun e => h ⟨congrArg Prod.fst e, congrArg Prod.snd e⟩)]
  rcases k with k | ⟨k1, k2⟩
  · rw [k]; rfl
  · rw [k1, decide_eq_false k2]; cases less s x.at_ <;> rfl
theorem heed_no {s t : Stp} {b : Int × Int} {kn : List (Int × Int)} {x : Itt} (h : (x.nd = b.1 ∧ x.nu = b.2) ∨ (less s x.at_ = true ∧ (less t x.at_ = true ∨ (x.nd, x.nu) ∈ kn))) : heedF s t b kn x = false := by
  unfold heedF le
  rcases h with ⟨h1, h2⟩ | ⟨h1, h2⟩
  · rw [decide_eq_true (show (x.nd, x.nu) = b by rw [h1, h2])]; rfl
  · rw [h1]
    rcases h2 with h2 | h2
    · rw [h2]; simp
    · rw [decide_eq_true h2]; simp
theorem cmp_gt0 {a b : Stp} (h : less b a = true) : ¬ cmpS a b ≤ 0 := by rw [cmp_gt h]; omega

set_option maxHeartbeats 6400000 in
theorem scan24_any (A : Option Addr) (n c : Nat) (cs : List Cel) (hl : cs.length = n) (hn : n ≤ 1000000) (A2 : Option Addr) (m c2 : Nat) (is : List Itt) (hl2 : is.length = m) (hm : m ≤ 1000000) (s t : Stp) (by_ : Int × Int) (A3 : Option Addr) (q c3 : Nat) (kn : List (Int × Int)) (hl3 : kn.length = q) (hq : q ≤ 140737488351232) (B : Nat) (w : World) (hr : Rd w B A (cev cs)) (hr2 : Rd w B A2 (itv is)) (hr3 : Rd w B A3 (txv kn)) (hB : B ≤ w.heap.size) :
    Calls Try.prog 16 #[.slice A n c, .slice A2 m c2, .agg #[.int .i64 s.wall, .int .i32 s.logic, .int .i32 s.tag], .agg #[.int .i64 t.wall, .int .i32 t.logic, .int .i32 t.tag], .agg #[.int .i32 by_.1, .int .i32 by_.2], .slice A3 q c3] w fun e w' => SnP w.heap.size w' e (scanM cs is s t by_ kn) (scanE cs is s t) ∧ Below w.heap.size w w' := by
  have HL := Lib.hid hl
  have HR := Lib.hid hr
  have HL2 := Lib.hid hl2
  have HR2 := Lib.hid hr2
  have HL3 := Lib.hid hl3
  have HR3 := Lib.hid hr3
  clear hl hr hl2 hr2 hl3 hr3
  obtain ⟨E, hE⟩ : ∃ E, E = scanE cs is s t := ⟨_, rfl⟩
  obtain ⟨S, hS⟩ : ∃ S, S = scanM cs is s t by_ kn := ⟨_, rfl⟩
  rw [← hE, ← hS]
  have HE := Lib.hid hE
  have HS := Lib.hid hS
  clear hE hS
  go_enter Try.func16, Try.ntmps16
  go_wp2_with fail
  have X5 : Hid (ScB (((((w.alloc (.cells #[.int .i64 s.wall, .int .i32 s.logic, .int .i32 s.tag] 25)).alloc (.cells #[.int .i64 t.wall, .int .i32 t.logic, .int .i32 t.tag] 25)).alloc (.cells #[.int .i32 by_.1, .int .i32 by_.2] 27)).alloc (.cells #[.int .i64 0, .slice none 0 0, .slice none 0 0, .int .i64 0, .int .i32 0, .int .i32 0] 53)).alloc (.cells #[.int .i64 s.wall, .int .i32 s.logic, .int .i32 s.tag, .int .i64 t.wall, .int .i32 t.logic, .int .i32 t.tag] 25)) w.heap.size s t by_) := Lib.hid ⟨((((BxV.new w _ _).alloc _).alloc _).alloc _).alloc _, by
    have h := (((BxV.new (w.alloc (.cells #[.int .i64 s.wall, .int .i32 s.logic, .int .i32 s.tag] 25)) #[.int .i64 t.wall, .int .i32 t.logic, .int .i32 t.tag] 25).alloc (.cells #[.int .i32 by_.1, .int .i32 by_.2] 27)).alloc (.cells #[.int .i64 0, .slice none 0 0, .slice none 0 0, .int .i64 0, .int .i32 0, .int .i32 0] 53)).alloc (.cells #[.int .i64 s.wall, .int .i32 s.logic, .int .i32 s.tag, .int .i64 t.wall, .int .i32 t.logic, .int .i32 t.tag] 25)
    simp only [World.size_alloc] at h; exact h, by
    have h := ((BxV.new ((w.alloc (.cells #[.int .i64 s.wall, .int .i32 s.logic, .int .i32 s.tag] 25)).alloc (.cells #[.int .i64 t.wall, .int .i32 t.logic, .int .i32 t.tag] 25)) #[.int .i32 by_.1, .int .i32 by_.2] 27).alloc (.cells #[.int .i64 0, .slice none 0 0, .slice none 0 0, .int .i64 0, .int .i32 0, .int .i32 0] 53)).alloc (.cells #[.int .i64 s.wall, .int .i32 s.logic, .int .i32 s.tag, .int .i64 t.wall, .int .i32 t.logic, .int .i32 t.tag] 25)
    simp only [World.size_alloc] at h; exact h, by
    have h := (BxV.new (((w.alloc (.cells #[.int .i64 s.wall, .int .i32 s.logic, .int .i32 s.tag] 25)).alloc (.cells #[.int .i64 t.wall, .int .i32 t.logic, .int .i32 t.tag] 25)).alloc (.cells #[.int .i32 by_.1, .int .i32 by_.2] 27)) #[.int .i64 0, .slice none 0 0, .slice none 0 0, .int .i64 0, .int .i32 0, .int .i32 0] 53).alloc (.cells #[.int .i64 s.wall, .int .i32 s.logic, .int .i32 s.tag, .int .i64 t.wall, .int .i32 t.logic, .int .i32 t.tag] 25)
    simp only [World.size_alloc] at h; exact h⟩
  have RS : Hid (Rd (((((w.alloc (.cells #[.int .i64 s.wall, .int .i32 s.logic, .int .i32 s.tag] 25)).alloc (.cells #[.int .i64 t.wall, .int .i32 t.logic, .int .i32 t.tag] 25)).alloc (.cells #[.int .i32 by_.1, .int .i32 by_.2] 27)).alloc (.cells #[.int .i64 0, .slice none 0 0, .slice none 0 0, .int .i64 0, .int .i32 0, .int .i32 0] 53)).alloc (.cells #[.int .i64 s.wall, .int .i32 s.logic, .int .i32 s.tag, .int .i64 t.wall, .int .i32 t.logic, .int .i32 t.tag] 25)) (((((w.alloc (.cells #[.int .i64 s.wall, .int .i32 s.logic, .int .i32 s.tag] 25)).alloc (.cells #[.int .i64 t.wall, .int .i32 t.logic, .int .i32 t.tag] 25)).alloc (.cells #[.int .i32 by_.1, .int .i32 by_.2] 27)).alloc (.cells #[.int .i64 0, .slice none 0 0, .slice none 0 0, .int .i64 0, .int .i32 0, .int .i32 0] 53)).alloc (.cells #[.int .i64 s.wall, .int .i32 s.logic, .int .i32 s.tag, .int .i64 t.wall, .int .i32 t.logic, .int .i32 t.tag] 25)).heap.size (some ⟨w.heap.size + 1 + 1 + 1 + 1, 0, none⟩) (spv [s, t])) := Lib.hid (by
    have h := rd_frC ((((w.alloc (.cells #[.int .i64 s.wall, .int .i32 s.logic, .int .i32 s.tag] 25)).alloc (.cells #[.int .i64 t.wall, .int .i32 t.logic, .int .i32 t.tag] 25)).alloc (.cells #[.int .i32 by_.1, .int .i32 by_.2] 27)).alloc (.cells #[.int .i64 0, .slice none 0 0, .slice none 0 0, .int .i64 0, .int .i32 0, .int .i32 0] 53)) #[.int .i64 s.wall, .int .i32 s.logic, .int .i32 s.tag, .int .i64 t.wall, .int .i32 t.logic, .int .i32 t.tag] 25 (0, 0)
    simpa [spv, spc] using h)
  have B5 : Hid (Below w.heap.size w (((((w.alloc (.cells #[.int .i64 s.wall, .int .i32 s.logic, .int .i32 s.tag] 25)).alloc (.cells #[.int .i64 t.wall, .int .i32 t.logic, .int .i32 t.tag] 25)).alloc (.cells #[.int .i32 by_.1, .int .i32 by_.2] 27)).alloc (.cells #[.int .i64 0, .slice none 0 0, .slice none 0 0, .int .i64 0, .int .i32 0, .int .i32 0] 53)).alloc (.cells #[.int .i64 s.wall, .int .i32 s.logic, .int .i32 s.tag, .int .i64 t.wall, .int .i32 t.logic, .int .i32 t.tag] 25))) := Lib.hid (((((((Below.refl _ _).alloc (Nat.le_refl _) _).alloc (by simp) _).alloc (by simp; omega) _).alloc (by simp; omega) _).alloc (by simp; omega) _))
  have hz5 : w.heap.size + 4 < (((((w.alloc (.cells #[.int .i64 s.wall, .int .i32 s.logic, .int .i32 s.tag] 25)).alloc (.cells #[.int .i64 t.wall, .int .i32 t.logic, .int .i32 t.tag] 25)).alloc (.cells #[.int .i32 by_.1, .int .i32 by_.2] 27)).alloc (.cells #[.int .i64 0, .slice none 0 0, .slice none 0 0, .int .i64 0, .int .i32 0, .int .i32 0] 53)).alloc (.cells #[.int .i64 s.wall, .int .i32 s.logic, .int .i32 s.tag, .int .i64 t.wall, .int .i32 t.logic, .int .i32 t.tag] 25)).heap.size := by simp
  generalize (((((w.alloc (.cells #[.int .i64 s.wall, .int .i32 s.logic, .int .i32 s.tag] 25)).alloc (.cells #[.int .i64 t.wall, .int .i32 t.logic, .int .i32 t.tag] 25)).alloc (.cells #[.int .i32 by_.1, .int .i32 by_.2] 27)).alloc (.cells #[.int .i64 0, .slice none 0 0, .slice none 0 0, .int .i64 0, .int .i32 0, .int .i32 0] 53)).alloc (.cells #[.int .i64 s.wall, .int .i32 s.logic, .int .i32 s.tag, .int .i64 t.wall, .int .i32 t.logic, .int .i32 t.tag] 25)) = w5 at *
  have R5 := Lib.hid ((HR.out.below (B5.out.mono hB)).more (show B ≤ w5.heap.size by omega))
  have R52 := Lib.hid ((HR2.out.below (B5.out.mono hB)).more (show B ≤ w5.heap.size by omega))
  have R53 := Lib.hid ((HR3.out.below (B5.out.mono hB)).more (show B ≤ w5.heap.size by omega))
  refine (checked24_any A n c cs HL.out (by omega) A2 m c2 is HL2.out (by omega) (some ⟨w.heap.size + 1 + 1 + 1 + 1, 0, none⟩) 2 2 [s, t] rfl (by decide) w5.heap.size w5 R5.out R52.out RS.out (Nat.le_refl _)).mono ?_
  rintro e w6 ⟨rfl, hb6⟩
  have X6 := Lib.hid (X5.out.next hb6)
  have B6 := Lib.hid (B5.out.trans (hb6.mono B5.out.size))
  have R6 := Lib.hid ((R5.out.below hb6).more hb6.size)
  have R62 := Lib.hid ((R52.out.below hb6).more hb6.size)
  have R63 := Lib.hid ((R53.out.below hb6).more hb6.size)
  have hz6 : w.heap.size + 4 < w6.heap.size := by have := hb6.size; omega
  clear hb6 X5 RS B5 R5 R52 R53 hz5 HR HR2 HR3
  by_cases h0 : chkdE cs is [s, t] = 0
  case neg =>
    have hE1 : E = chkdE cs is [s, t] := by rw [HE.out]; unfold scanE; rw [if_neg h0]
    have EEQ := Lib.hid hE1
    have SEQ := Lib.hid (HS.out.trans (scan_bad (b := by_) (kn := kn) (by rw [← HE.out, hE1]; exact h0)))
    rw [← hE1] at h0
    have e1 : (E != 0) = true := by simpa using h0
    have HEE : Hid (chkdE cs is [s, t] = E) := Lib.hid hE1.symm
    rw [HEE.out]
    have XR := Lib.hid X6.out.d
    have q0 := XR.out.c 0 _ rfl
    have q1 := XR.out.c 1 _ rfl
    have q2 := XR.out.c 2 _ rfl
    have q3 := XR.out.c 3 _ rfl
    have q4 := XR.out.c 4 _ rfl
    have q5 := XR.out.c 5 _ rfl
    have qf := XR.out.fz
    clear hE1 h0 HE HS EEQ
    go_wp2_with fail
    obtain ⟨w9, rfl⟩ : ∃ x, x = w6 := ⟨_, rfl⟩
    have B9 := B6
    have OR9 := Lib.hid (World.ownsRow_nil w9 (w.heap.size + 4) 67 2)
    have OI9 := Lib.hid (World.ownsRow_nil w9 (w.heap.size + 4) 29 12)
    have EEQ : Hid (E = E) := Lib.hid rfl
    change bodyPost _ _ _ _ _ (World.setCells w9 (w.heap.size + 1 + 1 + 1) 0 [.int .i64 0, .slice none 0 0, .slice none 0 0, .int .i64 0, .int .i32 0, .int .i32 0])
    have RB := (XR.out.set [.int .i64 0, .slice none 0 0, .slice none 0 0, .int .i64 0, .int .i32 0, .int .i32 0] rfl)
    have BZ := bel_setCells (b := w.heap.size + 1 + 1 + 1) (by omega) [.int .i64 0, .slice none 0 0, .slice none 0 0, .int .i64 0, .int .i32 0, .int .i32 0] 0 _ B9.out
    have OR := own_base (own_setCells OR9.out (p := w.heap.size + 1 + 1 + 1) (by omega) 0 [.int .i64 0, .slice none 0 0, .slice none 0 0, .int .i64 0, .int .i32 0, .int .i32 0]) (show w.heap.size ≤ _ by omega)
    have OI := own_base (own_setCells OI9.out (p := w.heap.size + 1 + 1 + 1) (by omega) 0 [.int .i64 0, .slice none 0 0, .slice none 0 0, .int .i64 0, .int .i32 0, .int .i32 0]) (show w.heap.size ≤ _ by omega)
    have r0 := RB.c 0 _ rfl
    have r1 := RB.c 1 _ rfl
    have r2 := RB.c 2 _ rfl
    have r3 := RB.c 3 _ rfl
    have r4 := RB.c 4 _ rfl
    have r5 := RB.c 5 _ rfl
    generalize World.setCells w9 (w.heap.size + 1 + 1 + 1) 0 [.int .i64 0, .slice none 0 0, .slice none 0 0, .int .i64 0, .int .i32 0, .int .i32 0] = wz at *
    refine bodyPost_ret (v := .tuple #[.agg #[.int .i64 0, .slice none 0 0, .slice none 0 0, .int .i64 0, .int .i32 0, .int .i32 0], .int .i64 E]) (by simp [results, Try.results16, go_sem, r0, r1, r2, r3, r4, r5]) rfl ⟨?_, BZ⟩
    rw [SEQ.out, EEQ.out]
    exact ⟨_, _, rfl, OR, OI⟩
  have hE1 : E = if less t s then 2 else 0 := by rw [HE.out]; unfold scanE; rw [if_pos h0]
  rw [h0]
  have HO := Lib.hid (chkdE_ok.1 h0)
  clear h0
  obtain ⟨a0, a1, a2⟩ : w6.cell? ⟨w.heap.size, 0, none⟩ = _ ∧ w6.cell? ⟨w.heap.size, 1, none⟩ = _ ∧ w6.cell? ⟨w.heap.size, 2, none⟩ = _ := ⟨X6.out.a.c 0 _ rfl, X6.out.a.c 1 _ rfl, X6.out.a.c 2 _ rfl⟩
  obtain ⟨b0, b1, b2⟩ : w6.cell? ⟨w.heap.size + 1, 0, none⟩ = _ ∧ w6.cell? ⟨w.heap.size + 1, 1, none⟩ = _ ∧ w6.cell? ⟨w.heap.size + 1, 2, none⟩ = _ := ⟨X6.out.b.c 0 _ rfl, X6.out.b.c 1 _ rfl, X6.out.b.c 2 _ rfl⟩
  go_wp2_with fail
  refine (hcompare_any t s _).mono ?_
  rintro e w7 ⟨rfl, hb7⟩
  have X7 := Lib.hid (X6.out.next hb7)
  have B7 := Lib.hid (B6.out.trans (hb7.mono B6.out.size))
  have R7 := Lib.hid ((R6.out.below hb7).more hb7.size)
  have R72 := Lib.hid ((R62.out.below hb7).more hb7.size)
  have R73 := Lib.hid ((R63.out.below hb7).more hb7.size)
  have hz7 : w.heap.size + 4 < w7.heap.size := by have := hb7.size; omega
  clear hb7 X6 B6 R6 R62 R63 hz6 a0 a1 a2 b0 b1 b2
  cases hts : less t s
  case true =>
    have q9 : cmpS t s < 0 := (cmp_neg t s).2 hts
    have q8 : decide (cmpS t s < 0) = true := decide_eq_true q9
    have EEQ : Hid (E = 2) := Lib.hid (by rw [hE1, hts]; rfl)
    have SEQ := Lib.hid (HS.out.trans (scan_bad (b := by_) (kn := kn) (by rw [← HE.out, EEQ.out]; decide)))
    have XR := Lib.hid X7.out.d
    have q0 := XR.out.c 0 _ rfl
    have q1 := XR.out.c 1 _ rfl
    have q2 := XR.out.c 2 _ rfl
    have q3 := XR.out.c 3 _ rfl
    have q4 := XR.out.c 4 _ rfl
    have q5 := XR.out.c 5 _ rfl
    have qf := XR.out.fz
    clear hE1 hts HE HS
    go_wp2_with fail
    obtain ⟨w9, rfl⟩ : ∃ x, x = w7 := ⟨_, rfl⟩
    have B9 := B7
    have OR9 := Lib.hid (World.ownsRow_nil w9 (w.heap.size + 4) 67 2)
    have OI9 := Lib.hid (World.ownsRow_nil w9 (w.heap.size + 4) 29 12)
    change bodyPost _ _ _ _ _ (World.setCells w9 (w.heap.size + 1 + 1 + 1) 0 [.int .i64 0, .slice none 0 0, .slice none 0 0, .int .i64 0, .int .i32 0, .int .i32 0])
    have RB := (XR.out.set [.int .i64 0, .slice none 0 0, .slice none 0 0, .int .i64 0, .int .i32 0, .int .i32 0] rfl)
    have BZ := bel_setCells (b := w.heap.size + 1 + 1 + 1) (by omega) [.int .i64 0, .slice none 0 0, .slice none 0 0, .int .i64 0, .int .i32 0, .int .i32 0] 0 _ B9.out
    have OR := own_base (own_setCells OR9.out (p := w.heap.size + 1 + 1 + 1) (by omega) 0 [.int .i64 0, .slice none 0 0, .slice none 0 0, .int .i64 0, .int .i32 0, .int .i32 0]) (show w.heap.size ≤ _ by omega)
    have OI := own_base (own_setCells OI9.out (p := w.heap.size + 1 + 1 + 1) (by omega) 0 [.int .i64 0, .slice none 0 0, .slice none 0 0, .int .i64 0, .int .i32 0, .int .i32 0]) (show w.heap.size ≤ _ by omega)
    have r0 := RB.c 0 _ rfl
    have r1 := RB.c 1 _ rfl
    have r2 := RB.c 2 _ rfl
    have r3 := RB.c 3 _ rfl
    have r4 := RB.c 4 _ rfl
    have r5 := RB.c 5 _ rfl
    generalize World.setCells w9 (w.heap.size + 1 + 1 + 1) 0 [.int .i64 0, .slice none 0 0, .slice none 0 0, .int .i64 0, .int .i32 0, .int .i32 0] = wz at *
    refine bodyPost_ret (v := .tuple #[.agg #[.int .i64 0, .slice none 0 0, .slice none 0 0, .int .i64 0, .int .i32 0, .int .i32 0], .int .i64 2]) (by simp [results, Try.results16, go_sem, r0, r1, r2, r3, r4, r5]) rfl ⟨?_, BZ⟩
    rw [SEQ.out, EEQ.out]
    exact ⟨_, _, rfl, OR, OI⟩
  have q9 : ¬ cmpS t s < 0 := fun h => by rw [(cmp_neg t s).1 h] at hts; cases hts
  have EEQ : Hid (E = 0) := Lib.hid (by rw [hE1, hts]; rfl)
  have E0 : Hid (scanE cs is s t = 0) := Lib.hid (by rw [← HE.out]; exact EEQ.out)
  clear hE1 hts HE
  go_wp2_with fail
  go_loopw [15, 39] (fun s15 s39 wr => ∃ (Av : Option Addr) (cv : Nat) (out : List Itt) (i : Nat), s15 = .slice Av out.length cv ∧ s39 = .int .i64 (i : Int) ∧ i ≤ m ∧ Hid (out = (is.take i).filter (heedF s t by_ kn)) ∧ Hid (wr.ownsRow w7.heap.size 29 12 (.slice Av out.length cv) out.length (itv out)) ∧ Hid (Below w7.heap.size w7 wr)) (fun s15 s39 _ => m - (intOf s39).toNat)
  case atStart => exact ⟨none, 0, [], 0, rfl, rfl, Nat.zero_le _, Lib.hid rfl, Lib.hid (World.ownsRow_nil _ _ _ _), Lib.hid (Below.refl _ _)⟩
  case round =>
    obtain ⟨Av, cv, out, i, rfl, rfl, hi, HQ, HOw, hB1⟩ := hrel
    obtain ⟨w2, rfl⟩ : ∃ x, x = wr := ⟨_, rfl⟩
    have hz2 : w.heap.size + 4 < w2.heap.size := by have := hB1.out.size; omega
    by_cases hlt : i < m
    · obtain ⟨x, hx⟩ : ∃ x, is[i]? = some x := ⟨_, List.getElem?_eq_getElem (by rw [HL2.out]; exact hlt)⟩
      obtain ⟨b, off, rfl, hb, hce⟩ := it_at R72.out hx
      obtain ⟨d0, d1, d2, d3, d4, d5, d6, d7, d8, d9, d10, d11⟩ := hce.below hb hB1.out
      have X2 := Lib.hid (X7.out.next hB1.out)
      have IY : Hid (ItI (w2.alloc (.cells #[.string x.key, .int .i32 x.nd, .int .i32 x.nu, .int .i64 x.bg.wall, .int .i32 x.bg.logic, .int .i32 x.bg.tag, .string x.anc, .int .i64 x.at_.wall, .int .i32 x.at_.logic, .int .i32 x.at_.tag, .string x.val, .bool x.del] 29)) w2.heap.size 0 x) := Lib.hid (by
        have h := (BxV.new w2 #[.string x.key, .int .i32 x.nd, .int .i32 x.nu, .int .i64 x.bg.wall, .int .i32 x.bg.logic, .int .i32 x.bg.tag, .string x.anc, .int .i64 x.at_.wall, .int .i32 x.at_.logic, .int .i32 x.at_.tag, .string x.val, .bool x.del] 29).c
        exact ⟨h 0 _ rfl, h 1 _ rfl, h 2 _ rfl, h 3 _ rfl, h 4 _ rfl, h 5 _ rfl, h 6 _ rfl, h 7 _ rfl, h 8 _ rfl, h 9 _ rfl, h 10 _ rfl, h 11 _ rfl⟩)
      have IYL : Hid (w2.heap.size < (w2.alloc (.cells #[.string x.key, .int .i32 x.nd, .int .i32 x.nu, .int .i64 x.bg.wall, .int .i32 x.bg.logic, .int .i32 x.bg.tag, .string x.anc, .int .i64 x.at_.wall, .int .i32 x.at_.logic, .int .i32 x.at_.tag, .string x.val, .bool x.del] 29)).heap.size) := Lib.hid (by simp)
      have HX := Lib.hid hx
      have hol : out.length ≤ i := by
        rw [HQ.out]
        exact Nat.le_trans (List.length_filter_le _ _) (List.length_take_le _ _)
      have i1 : (i : Int) < (m : Int) := by omega
      obtain ⟨a0, a1, a2⟩ : w2.cell? ⟨w.heap.size, 0, none⟩ = _ ∧ w2.cell? ⟨w.heap.size, 1, none⟩ = _ ∧ w2.cell? ⟨w.heap.size, 2, none⟩ = _ := ⟨X2.out.a.c 0 _ rfl, X2.out.a.c 1 _ rfl, X2.out.a.c 2 _ rfl⟩
      obtain ⟨b0, b1, b2⟩ : w2.cell? ⟨w.heap.size + 1, 0, none⟩ = _ ∧ w2.cell? ⟨w.heap.size + 1, 1, none⟩ = _ ∧ w2.cell? ⟨w.heap.size + 1, 2, none⟩ = _ := ⟨X2.out.b.c 0 _ rfl, X2.out.b.c 1 _ rfl, X2.out.b.c 2 _ rfl⟩
      obtain ⟨x0, x1⟩ : w2.cell? ⟨w.heap.size + 1 + 1, 0, none⟩ = _ ∧ w2.cell? ⟨w.heap.size + 1 + 1, 1, none⟩ = _ := ⟨X2.out.c.c 0 _ rfl, X2.out.c.c 1 _ rfl⟩
      have x2 : w.heap.size < w2.heap.size ∧ w.heap.size + 1 < w2.heap.size ∧ w.heap.size + 1 + 1 < w2.heap.size ∧ b < w2.heap.size := ⟨by omega, by omega, by omega, Nat.lt_of_lt_of_le hb hB1.out.size⟩
      obtain ⟨zz0, zz1, zz2, zzb⟩ := x2
      clear hce hx
      by_cases q1 : x.nd = by_.1
      · have g1 : (x.nd == by_.1) = true := by simpa using q1
        by_cases q2 : x.nu = by_.2
        · have g2 : (x.nu == by_.2) = true := by simpa using q2
          have hy := heed_no (s := s) (t := t) (b := by_) (kn := kn) (x := x) (.inl ⟨q1, q2⟩)
          have B9 := Lib.hid (hB1.out.alloc hB1.out.size (.cells #[.string x.key, .int .i32 x.nd, .int .i32 x.nu, .int .i64 x.bg.wall, .int .i32 x.bg.logic, .int .i32 x.bg.tag, .string x.anc, .int .i64 x.at_.wall, .int .i32 x.at_.logic, .int .i32 x.at_.tag, .string x.val, .bool x.del] 29))
          have O9 := Lib.hid (HOw.out.alloc (.cells #[.string x.key, .int .i32 x.nd, .int .i32 x.nu, .int .i64 x.bg.wall, .int .i32 x.bg.logic, .int .i32 x.bg.tag, .string x.anc, .int .i64 x.at_.wall, .int .i32 x.at_.logic, .int .i32 x.at_.tag, .string x.val, .bool x.del] 29))
          have HQ9 : Hid (out = (is.take (i + 1)).filter (heedF s t by_ kn)) := Lib.hid (by rw [heed_snoc HX.out, hy, HQ.out]; simp)
          clear HQ HOw hB1 q1 q2 hy IY X2 HX
          go_wp2_with fail
          go_roundw
          case rel => exact ⟨Av, cv, out, i + 1, rfl, by go_num, by omega, HQ9, O9, B9⟩
          case measure => simp [intOf]; omega
        · have g2 : (x.nu == by_.2) = false := by simpa using q2
          have hne : Hid (¬ (x.nd = by_.1 ∧ x.nu = by_.2)) := Lib.hid (fun e => q2 e.2)
          clear q1 q2
          go_wp2_with fail
          refine (hcompare_any x.at_ s _).mono ?_
          rintro e w4 ⟨rfl, hb4⟩
          have X4 := (X2.out.next ((Below.refl w2.heap.size w2).alloc (Nat.le_refl _) (.cells #[.string x.key, .int .i32 x.nd, .int .i32 x.nu, .int .i64 x.bg.wall, .int .i32 x.bg.logic, .int .i32 x.bg.tag, .string x.anc, .int .i64 x.at_.wall, .int .i32 x.at_.logic, .int .i32 x.at_.tag, .string x.val, .bool x.del] 29))).next hb4
          have Y4 := ItI.below IY.out IYL.out hb4
          have hz4 : w2.heap.size < w4.heap.size := by have := hb4.size; rw [World.size_alloc] at this; omega
          clear zz0 zz1 zz2 zzb x0 x1 a0 a1 a2 b0 b1 b2 d0 d1 d2 d3 d4 d5 d6 d7 d8 d9 d10 d11
          cases k1 : less s x.at_
          · have g3 : cmpS x.at_ s ≤ 0 := (cmp_le _ _).2 k1
            have hy := heed_yes (s := s) (t := t) (kn := kn) hne.out (.inl k1)
            clear X4 Y4 k1
            have B9 := Lib.hid (hB1.out.trans (((Below.refl w2.heap.size w2).alloc (Nat.le_refl _) (.cells #[.string x.key, .int .i32 x.nd, .int .i32 x.nu, .int .i64 x.bg.wall, .int .i32 x.bg.logic, .int .i32 x.bg.tag, .string x.anc, .int .i64 x.at_.wall, .int .i32 x.at_.logic, .int .i32 x.at_.tag, .string x.val, .bool x.del] 29)).trans (hb4.mono (by simp)) |>.mono hB1.out.size))
            have O9 := Lib.hid (own_keep (HOw.out.alloc (.cells #[.string x.key, .int .i32 x.nd, .int .i32 x.nu, .int .i64 x.bg.wall, .int .i32 x.bg.logic, .int .i32 x.bg.tag, .string x.anc, .int .i64 x.at_.wall, .int .i32 x.at_.logic, .int .i32 x.at_.tag, .string x.val, .bool x.del] 29)) hb4 (Nat.le_refl _))
            have HQ9 : Hid (out ++ [x] = (is.take (i + 1)).filter (heedF s t by_ kn)) := Lib.hid (by rw [heed_snoc HX.out, hy, HQ.out]; simp)
            have hs9 := B9.out.size
            obtain ⟨y0, y1, y2, y3, y4, y5, y6, y7, y8, y9, y10, y11⟩ := ItI.below IY.out IYL.out hb4
            clear HQ HOw hB1
            go_wp2_with (at_builtin; refine wpList_app styIt (.tmp 66) (.tmp 68) rfl rfl w7.heap.size (O9.out.alloc _) rfl 1 1 (rd_frC _ _ _ _) rfl rfl (by simp [Value.oneCell']) (by unfold maxLen; omega) (by omega) (by rw [World.size_alloc]; omega) ?_; intro v5 w5 own5 gr5 nil5 at5; obtain ⟨A5, c5, rfl, -, -⟩ := own_sl own5)
            have B10 := Lib.hid ((B9.out.alloc hs9 _).grown gr5 (by rw [World.size_alloc]; omega) (fun g e => (O9.out.lt g e).1))
            have O10 : Hid (w5.ownsRow w7.heap.size 29 12 (.slice A5 (out.length + 1) c5) (out ++ [x]).length (itv (out ++ [x]))) := Lib.hid (own_eq own5 (by simp) (by rw [itv_app]; rfl))
            go_roundw
            case rel => exact ⟨A5, c5, out ++ [x], i + 1, by rw [List.length_append]; rfl, by go_num, by omega, HQ9, Lib.hid (by have h := O10.out; rw [List.length_append] at h ⊢; exact h), B10⟩
            case measure => simp [intOf]; omega
          · have g3 : ¬ cmpS x.at_ s ≤ 0 := cmp_gt0 k1
            obtain ⟨b0, b1, b2⟩ : w4.cell? ⟨w.heap.size + 1, 0, none⟩ = _ ∧ w4.cell? ⟨w.heap.size + 1, 1, none⟩ = _ ∧ w4.cell? ⟨w.heap.size + 1, 2, none⟩ = _ := ⟨X4.b.c 0 _ rfl, X4.b.c 1 _ rfl, X4.b.c 2 _ rfl⟩
            have y7 := Y4.c7
            have y8 := Y4.c8
            have y9 := Y4.c9
            clear X4 Y4
            go_wp2_with fail
            refine (hcompare_any x.at_ t _).mono ?_
            rintro e w6' ⟨rfl, hb6⟩
            have hb64 := hb4.trans (hb6.mono hb4.size)
            have Y6 := ItI.below IY.out IYL.out hb64
            clear y7 y8 y9 b0 b1 b2 hz4
            cases k2 : less t x.at_
            · have g4 : cmpS x.at_ t ≤ 0 := (cmp_le _ _).2 k2
              have y1 := Y6.c1
              have y2 := Y6.c2
              have R6k := Lib.hid ((R73.out.below (hB1.out.trans (((Below.refl w2.heap.size w2).alloc (Nat.le_refl _) (.cells #[.string x.key, .int .i32 x.nd, .int .i32 x.nu, .int .i64 x.bg.wall, .int .i32 x.bg.logic, .int .i32 x.bg.tag, .string x.anc, .int .i64 x.at_.wall, .int .i32 x.at_.logic, .int .i32 x.at_.tag, .string x.val, .bool x.del] 29)).trans (hb64.mono (by simp)) |>.mono hB1.out.size))))
              have hz6' : w7.heap.size ≤ w6'.heap.size := by have h1 := hB1.out.size; have h2 := hb64.size; rw [World.size_alloc] at h2; omega
              clear Y6
              go_wp2_with fail
              refine (known_any A3 q c3 kn HL3.out hq (x.nd, x.nu) w7.heap.size _ R6k.out hz6').mono ?_
              rintro e w8' ⟨rfl, hb8⟩
              have hb84 := hb64.trans (hb8.mono hb64.size)
              clear y1 y2 R6k hz6'
              by_cases k3 : (x.nd, x.nu) ∈ kn
              · have hy := heed_no (s := s) (t := t) (b := by_) (kn := kn) (.inr ⟨k1, .inr k3⟩)
                rw [decide_eq_true k3]
                clear k1 k2 k3
                have B9 := Lib.hid (hB1.out.trans (((Below.refl w2.heap.size w2).alloc (Nat.le_refl _) (.cells #[.string x.key, .int .i32 x.nd, .int .i32 x.nu, .int .i64 x.bg.wall, .int .i32 x.bg.logic, .int .i32 x.bg.tag, .string x.anc, .int .i64 x.at_.wall, .int .i32 x.at_.logic, .int .i32 x.at_.tag, .string x.val, .bool x.del] 29)).trans (hb84.mono (by simp)) |>.mono hB1.out.size))
                have O9 := Lib.hid (own_keep (HOw.out.alloc (.cells #[.string x.key, .int .i32 x.nd, .int .i32 x.nu, .int .i64 x.bg.wall, .int .i32 x.bg.logic, .int .i32 x.bg.tag, .string x.anc, .int .i64 x.at_.wall, .int .i32 x.at_.logic, .int .i32 x.at_.tag, .string x.val, .bool x.del] 29)) hb84 (Nat.le_refl _))
                have HQ9 : Hid (out = (is.take (i + 1)).filter (heedF s t by_ kn)) := Lib.hid (by rw [heed_snoc HX.out, hy, HQ.out]; simp)
                clear HQ HOw hB1
                go_wp2_with fail
                go_roundw
                case rel => exact ⟨Av, cv, out, i + 1, rfl, by go_num, by omega, HQ9, O9, B9⟩
                case measure => simp [intOf]; omega
              · have hy := heed_yes (s := s) (t := t) (kn := kn) hne.out (.inr ⟨k2, k3⟩)
                rw [decide_eq_false k3]
                clear k1 k2 k3
                have B9 := Lib.hid (hB1.out.trans (((Below.refl w2.heap.size w2).alloc (Nat.le_refl _) (.cells #[.string x.key, .int .i32 x.nd, .int .i32 x.nu, .int .i64 x.bg.wall, .int .i32 x.bg.logic, .int .i32 x.bg.tag, .string x.anc, .int .i64 x.at_.wall, .int .i32 x.at_.logic, .int .i32 x.at_.tag, .string x.val, .bool x.del] 29)).trans (hb84.mono (by simp)) |>.mono hB1.out.size))
                have O9 := Lib.hid (own_keep (HOw.out.alloc (.cells #[.string x.key, .int .i32 x.nd, .int .i32 x.nu, .int .i64 x.bg.wall, .int .i32 x.bg.logic, .int .i32 x.bg.tag, .string x.anc, .int .i64 x.at_.wall, .int .i32 x.at_.logic, .int .i32 x.at_.tag, .string x.val, .bool x.del] 29)) hb84 (Nat.le_refl _))
                have HQ9 : Hid (out ++ [x] = (is.take (i + 1)).filter (heedF s t by_ kn)) := Lib.hid (by rw [heed_snoc HX.out, hy, HQ.out]; simp)
                have hs9 := B9.out.size
                obtain ⟨y0, y1, y2, y3, y4, y5, y6, y7, y8, y9, y10, y11⟩ := ItI.below IY.out IYL.out hb84
                clear HQ HOw hB1
                go_wp2_with (at_builtin; refine wpList_app styIt (.tmp 66) (.tmp 68) rfl rfl w7.heap.size (O9.out.alloc _) rfl 1 1 (rd_frC _ _ _ _) rfl rfl (by simp [Value.oneCell']) (by unfold maxLen; omega) (by omega) (by rw [World.size_alloc]; omega) ?_; intro v5 w5 own5 gr5 nil5 at5; obtain ⟨A5, c5, rfl, -, -⟩ := own_sl own5)
                have B10 := Lib.hid ((B9.out.alloc hs9 _).grown gr5 (by rw [World.size_alloc]; omega) (fun g e => (O9.out.lt g e).1))
                have O10 : Hid (w5.ownsRow w7.heap.size 29 12 (.slice A5 (out.length + 1) c5) (out ++ [x]).length (itv (out ++ [x]))) := Lib.hid (own_eq own5 (by simp) (by rw [itv_app]; rfl))
                go_roundw
                case rel => exact ⟨A5, c5, out ++ [x], i + 1, by rw [List.length_append]; rfl, by go_num, by omega, HQ9, Lib.hid (by have h := O10.out; rw [List.length_append] at h ⊢; exact h), B10⟩
                case measure => simp [intOf]; omega
            · have g4 : ¬ cmpS x.at_ t ≤ 0 := cmp_gt0 k2
              have hy := heed_no (s := s) (t := t) (b := by_) (kn := kn) (x := x) (.inr ⟨k1, .inl k2⟩)
              clear k1 k2 Y6
              have B9 := Lib.hid (hB1.out.trans (((Below.refl w2.heap.size w2).alloc (Nat.le_refl _) (.cells #[.string x.key, .int .i32 x.nd, .int .i32 x.nu, .int .i64 x.bg.wall, .int .i32 x.bg.logic, .int .i32 x.bg.tag, .string x.anc, .int .i64 x.at_.wall, .int .i32 x.at_.logic, .int .i32 x.at_.tag, .string x.val, .bool x.del] 29)).trans (hb64.mono (by simp)) |>.mono hB1.out.size))
              have O9 := Lib.hid (own_keep (HOw.out.alloc (.cells #[.string x.key, .int .i32 x.nd, .int .i32 x.nu, .int .i64 x.bg.wall, .int .i32 x.bg.logic, .int .i32 x.bg.tag, .string x.anc, .int .i64 x.at_.wall, .int .i32 x.at_.logic, .int .i32 x.at_.tag, .string x.val, .bool x.del] 29)) hb64 (Nat.le_refl _))
              have HQ9 : Hid (out = (is.take (i + 1)).filter (heedF s t by_ kn)) := Lib.hid (by rw [heed_snoc HX.out, hy, HQ.out]; simp)
              clear HQ HOw hB1
              go_wp2_with fail
              go_roundw
              case rel => exact ⟨Av, cv, out, i + 1, rfl, by go_num, by omega, HQ9, O9, B9⟩
              case measure => simp [intOf]; omega
      · have g1 : (x.nd == by_.1) = false := by simpa using q1
        have hne : Hid (¬ (x.nd = by_.1 ∧ x.nu = by_.2)) := Lib.hid (fun e => q1 e.1)
        clear q1
        go_wp2_with fail
        refine (hcompare_any x.at_ s _).mono ?_
        rintro e w4 ⟨rfl, hb4⟩
        have X4 := (X2.out.next ((Below.refl w2.heap.size w2).alloc (Nat.le_refl _) (.cells #[.string x.key, .int .i32 x.nd, .int .i32 x.nu, .int .i64 x.bg.wall, .int .i32 x.bg.logic, .int .i32 x.bg.tag, .string x.anc, .int .i64 x.at_.wall, .int .i32 x.at_.logic, .int .i32 x.at_.tag, .string x.val, .bool x.del] 29))).next hb4
        have Y4 := ItI.below IY.out IYL.out hb4
        have hz4 : w2.heap.size < w4.heap.size := by have := hb4.size; rw [World.size_alloc] at this; omega
        clear zz0 zz1 zz2 zzb x0 x1 a0 a1 a2 b0 b1 b2 d0 d1 d2 d3 d4 d5 d6 d7 d8 d9 d10 d11
        cases k1 : less s x.at_
        · have g3 : cmpS x.at_ s ≤ 0 := (cmp_le _ _).2 k1
          have hy := heed_yes (s := s) (t := t) (kn := kn) hne.out (.inl k1)
          clear X4 Y4 k1
          have B9 := Lib.hid (hB1.out.trans (((Below.refl w2.heap.size w2).alloc (Nat.le_refl _) (.cells #[.string x.key, .int .i32 x.nd, .int .i32 x.nu, .int .i64 x.bg.wall, .int .i32 x.bg.logic, .int .i32 x.bg.tag, .string x.anc, .int .i64 x.at_.wall, .int .i32 x.at_.logic, .int .i32 x.at_.tag, .string x.val, .bool x.del] 29)).trans (hb4.mono (by simp)) |>.mono hB1.out.size))
          have O9 := Lib.hid (own_keep (HOw.out.alloc (.cells #[.string x.key, .int .i32 x.nd, .int .i32 x.nu, .int .i64 x.bg.wall, .int .i32 x.bg.logic, .int .i32 x.bg.tag, .string x.anc, .int .i64 x.at_.wall, .int .i32 x.at_.logic, .int .i32 x.at_.tag, .string x.val, .bool x.del] 29)) hb4 (Nat.le_refl _))
          have HQ9 : Hid (out ++ [x] = (is.take (i + 1)).filter (heedF s t by_ kn)) := Lib.hid (by rw [heed_snoc HX.out, hy, HQ.out]; simp)
          have hs9 := B9.out.size
          obtain ⟨y0, y1, y2, y3, y4, y5, y6, y7, y8, y9, y10, y11⟩ := ItI.below IY.out IYL.out hb4
          clear HQ HOw hB1
          go_wp2_with (at_builtin; refine wpList_app styIt (.tmp 66) (.tmp 68) rfl rfl w7.heap.size (O9.out.alloc _) rfl 1 1 (rd_frC _ _ _ _) rfl rfl (by simp [Value.oneCell']) (by unfold maxLen; omega) (by omega) (by rw [World.size_alloc]; omega) ?_; intro v5 w5 own5 gr5 nil5 at5; obtain ⟨A5, c5, rfl, -, -⟩ := own_sl own5)
          have B10 := Lib.hid ((B9.out.alloc hs9 _).grown gr5 (by rw [World.size_alloc]; omega) (fun g e => (O9.out.lt g e).1))
          have O10 : Hid (w5.ownsRow w7.heap.size 29 12 (.slice A5 (out.length + 1) c5) (out ++ [x]).length (itv (out ++ [x]))) := Lib.hid (own_eq own5 (by simp) (by rw [itv_app]; rfl))
          go_roundw
          case rel => exact ⟨A5, c5, out ++ [x], i + 1, by rw [List.length_append]; rfl, by go_num, by omega, HQ9, Lib.hid (by have h := O10.out; rw [List.length_append] at h ⊢; exact h), B10⟩
          case measure => simp [intOf]; omega
        · have g3 : ¬ cmpS x.at_ s ≤ 0 := cmp_gt0 k1
          obtain ⟨b0, b1, b2⟩ : w4.cell? ⟨w.heap.size + 1, 0, none⟩ = _ ∧ w4.cell? ⟨w.heap.size + 1, 1, none⟩ = _ ∧ w4.cell? ⟨w.heap.size + 1, 2, none⟩ = _ := ⟨X4.b.c 0 _ rfl, X4.b.c 1 _ rfl, X4.b.c 2 _ rfl⟩
          have y7 := Y4.c7
          have y8 := Y4.c8
          have y9 := Y4.c9
          clear X4 Y4
          go_wp2_with fail
          refine (hcompare_any x.at_ t _).mono ?_
          rintro e w6' ⟨rfl, hb6⟩
          have hb64 := hb4.trans (hb6.mono hb4.size)
          have Y6 := ItI.below IY.out IYL.out hb64
          clear y7 y8 y9 b0 b1 b2 hz4
          cases k2 : less t x.at_
          · have g4 : cmpS x.at_ t ≤ 0 := (cmp_le _ _).2 k2
            have y1 := Y6.c1
            have y2 := Y6.c2
            have R6k := Lib.hid ((R73.out.below (hB1.out.trans (((Below.refl w2.heap.size w2).alloc (Nat.le_refl _) (.cells #[.string x.key, .int .i32 x.nd, .int .i32 x.nu, .int .i64 x.bg.wall, .int .i32 x.bg.logic, .int .i32 x.bg.tag, .string x.anc, .int .i64 x.at_.wall, .int .i32 x.at_.logic, .int .i32 x.at_.tag, .string x.val, .bool x.del] 29)).trans (hb64.mono (by simp)) |>.mono hB1.out.size))))
            have hz6' : w7.heap.size ≤ w6'.heap.size := by have h1 := hB1.out.size; have h2 := hb64.size; rw [World.size_alloc] at h2; omega
            clear Y6
            go_wp2_with fail
            refine (known_any A3 q c3 kn HL3.out hq (x.nd, x.nu) w7.heap.size _ R6k.out hz6').mono ?_
            rintro e w8' ⟨rfl, hb8⟩
            have hb84 := hb64.trans (hb8.mono hb64.size)
            clear y1 y2 R6k hz6'
            by_cases k3 : (x.nd, x.nu) ∈ kn
            · have hy := heed_no (s := s) (t := t) (b := by_) (kn := kn) (.inr ⟨k1, .inr k3⟩)
              rw [decide_eq_true k3]
              clear k1 k2 k3
              have B9 := Lib.hid (hB1.out.trans (((Below.refl w2.heap.size w2).alloc (Nat.le_refl _) (.cells #[.string x.key, .int .i32 x.nd, .int .i32 x.nu, .int .i64 x.bg.wall, .int .i32 x.bg.logic, .int .i32 x.bg.tag, .string x.anc, .int .i64 x.at_.wall, .int .i32 x.at_.logic, .int .i32 x.at_.tag, .string x.val, .bool x.del] 29)).trans (hb84.mono (by simp)) |>.mono hB1.out.size))
              have O9 := Lib.hid (own_keep (HOw.out.alloc (.cells #[.string x.key, .int .i32 x.nd, .int .i32 x.nu, .int .i64 x.bg.wall, .int .i32 x.bg.logic, .int .i32 x.bg.tag, .string x.anc, .int .i64 x.at_.wall, .int .i32 x.at_.logic, .int .i32 x.at_.tag, .string x.val, .bool x.del] 29)) hb84 (Nat.le_refl _))
              have HQ9 : Hid (out = (is.take (i + 1)).filter (heedF s t by_ kn)) := Lib.hid (by rw [heed_snoc HX.out, hy, HQ.out]; simp)
              clear HQ HOw hB1
              go_wp2_with fail
              go_roundw
              case rel => exact ⟨Av, cv, out, i + 1, rfl, by go_num, by omega, HQ9, O9, B9⟩
              case measure => simp [intOf]; omega
            · have hy := heed_yes (s := s) (t := t) (kn := kn) hne.out (.inr ⟨k2, k3⟩)
              rw [decide_eq_false k3]
              clear k1 k2 k3
              have B9 := Lib.hid (hB1.out.trans (((Below.refl w2.heap.size w2).alloc (Nat.le_refl _) (.cells #[.string x.key, .int .i32 x.nd, .int .i32 x.nu, .int .i64 x.bg.wall, .int .i32 x.bg.logic, .int .i32 x.bg.tag, .string x.anc, .int .i64 x.at_.wall, .int .i32 x.at_.logic, .int .i32 x.at_.tag, .string x.val, .bool x.del] 29)).trans (hb84.mono (by simp)) |>.mono hB1.out.size))
              have O9 := Lib.hid (own_keep (HOw.out.alloc (.cells #[.string x.key, .int .i32 x.nd, .int .i32 x.nu, .int .i64 x.bg.wall, .int .i32 x.bg.logic, .int .i32 x.bg.tag, .string x.anc, .int .i64 x.at_.wall, .int .i32 x.at_.logic, .int .i32 x.at_.tag, .string x.val, .bool x.del] 29)) hb84 (Nat.le_refl _))
              have HQ9 : Hid (out ++ [x] = (is.take (i + 1)).filter (heedF s t by_ kn)) := Lib.hid (by rw [heed_snoc HX.out, hy, HQ.out]; simp)
              have hs9 := B9.out.size
              obtain ⟨y0, y1, y2, y3, y4, y5, y6, y7, y8, y9, y10, y11⟩ := ItI.below IY.out IYL.out hb84
              clear HQ HOw hB1
              go_wp2_with (at_builtin; refine wpList_app styIt (.tmp 66) (.tmp 68) rfl rfl w7.heap.size (O9.out.alloc _) rfl 1 1 (rd_frC _ _ _ _) rfl rfl (by simp [Value.oneCell']) (by unfold maxLen; omega) (by omega) (by rw [World.size_alloc]; omega) ?_; intro v5 w5 own5 gr5 nil5 at5; obtain ⟨A5, c5, rfl, -, -⟩ := own_sl own5)
              have B10 := Lib.hid ((B9.out.alloc hs9 _).grown gr5 (by rw [World.size_alloc]; omega) (fun g e => (O9.out.lt g e).1))
              have O10 : Hid (w5.ownsRow w7.heap.size 29 12 (.slice A5 (out.length + 1) c5) (out ++ [x]).length (itv (out ++ [x]))) := Lib.hid (own_eq own5 (by simp) (by rw [itv_app]; rfl))
              go_roundw
              case rel => exact ⟨A5, c5, out ++ [x], i + 1, by rw [List.length_append]; rfl, by go_num, by omega, HQ9, Lib.hid (by have h := O10.out; rw [List.length_append] at h ⊢; exact h), B10⟩
              case measure => simp [intOf]; omega
          · have g4 : ¬ cmpS x.at_ t ≤ 0 := cmp_gt0 k2
            have hy := heed_no (s := s) (t := t) (b := by_) (kn := kn) (x := x) (.inr ⟨k1, .inl k2⟩)
            clear k1 k2 Y6
            have B9 := Lib.hid (hB1.out.trans (((Below.refl w2.heap.size w2).alloc (Nat.le_refl _) (.cells #[.string x.key, .int .i32 x.nd, .int .i32 x.nu, .int .i64 x.bg.wall, .int .i32 x.bg.logic, .int .i32 x.bg.tag, .string x.anc, .int .i64 x.at_.wall, .int .i32 x.at_.logic, .int .i32 x.at_.tag, .string x.val, .bool x.del] 29)).trans (hb64.mono (by simp)) |>.mono hB1.out.size))
            have O9 := Lib.hid (own_keep (HOw.out.alloc (.cells #[.string x.key, .int .i32 x.nd, .int .i32 x.nu, .int .i64 x.bg.wall, .int .i32 x.bg.logic, .int .i32 x.bg.tag, .string x.anc, .int .i64 x.at_.wall, .int .i32 x.at_.logic, .int .i32 x.at_.tag, .string x.val, .bool x.del] 29)) hb64 (Nat.le_refl _))
            have HQ9 : Hid (out = (is.take (i + 1)).filter (heedF s t by_ kn)) := Lib.hid (by rw [heed_snoc HX.out, hy, HQ.out]; simp)
            clear HQ HOw hB1
            go_wp2_with fail
            go_roundw
            case rel => exact ⟨Av, cv, out, i + 1, rfl, by go_num, by omega, HQ9, O9, B9⟩
            case measure => simp [intOf]; omega
    · have i1 : ¬ (i : Int) < (m : Int) := by omega
      have HH : Hid (out = heed is s t by_ kn) := Lib.hid (by
        rw [HQ.out, List.take_of_length_le (by rw [HL2.out]; omega)]
        rfl)
      have X2 := Lib.hid (X7.out.next hB1.out)
      have B2 := Lib.hid (B7.out.trans (hB1.out.mono B7.out.size))
      have R2 := Lib.hid ((R7.out.below hB1.out))
      have hz72 := hB1.out.size
      clear HQ hlt X7 B7 R7 R72 R73 hB1
      by_cases h0 : out.length = 0
      · have HNO : Hid ((heed is s t by_ kn).length = 0) := Lib.hid (by rw [← HH.out]; exact h0)
        have h1 : ¬ (0 : Int) < (out.length : Int) := by omega
        have X8 := Lib.hid (X2.out.next ((Below.refl w2.heap.size w2).alloc (Nat.le_refl _) (.cells #[.int .i64 0, .int .i32 0, .int .i32 0] 25)))
        have P8 : Hid (BxV (w2.alloc (.cells #[.int .i64 0, .int .i32 0, .int .i32 0] 25)) w2.heap.size (spc zeroS)) := Lib.hid (BxV.new w2 #[.int .i64 0, .int .i32 0, .int .i32 0] 25)
        have B8 := Lib.hid (B2.out.alloc B2.out.size (.cells #[.int .i64 0, .int .i32 0, .int .i32 0] 25))
        have R8 := Lib.hid (R2.out.alloc hz72 (.cells #[.int .i64 0, .int .i32 0, .int .i32 0] 25))
        have hp8 : (w2.alloc (.cells #[.int .i64 0, .int .i32 0, .int .i32 0] 25)).heap.size = w2.heap.size + 1 := World.size_alloc _ _
        clear HOw HH X2 B2 R2
        go_wp2_with fail
        generalize w2.alloc (.cells #[.int .i64 0, .int .i32 0, .int .i32 0] 25) = w8 at *
        generalize w2.heap.size = p at *
        clear h0
        go_loopw [19, 78] (fun s19 s78 wr => ∃ (cur : Stp) (i : Nat), s19 = .bool (someL cs s t i) ∧ s78 = .int .i64 (i : Int) ∧ i ≤ n ∧ Hid (cur = lateF ((cs.take i).filter (btw s t))) ∧ Hid (BxV wr p (spc cur)) ∧ Hid (Below p w8 wr)) (fun s19 s78 _ => n - (intOf s78).toNat)
        case atStart => exact ⟨zeroS, 0, rfl, rfl, Nat.zero_le _, Lib.hid rfl, P8, Lib.hid (Below.refl _ _)⟩
        case round =>
          obtain ⟨cur, i', rfl, rfl, hi', HC, HP, hB3⟩ := hrel
          obtain ⟨w3, rfl⟩ : ∃ x, x = wr := ⟨_, rfl⟩
          clear P8
          have hz3 : p < w3.heap.size := HP.out.lt
          have X3 : Hid (ScB w3 w.heap.size s t by_) := Lib.hid ⟨X8.out.a.below hB3.out (by omega), X8.out.b.below hB3.out (by omega), X8.out.c.below hB3.out (by omega), X8.out.d.below hB3.out (by omega)⟩
          by_cases hlt2 : i' < n
          · obtain ⟨x, hx⟩ : ∃ x, cs[i']? = some x := ⟨_, List.getElem?_eq_getElem (by rw [HL.out]; exact hlt2)⟩
            obtain ⟨b, off, rfl, hb, hce⟩ := ce_at R8.out hx
            obtain ⟨d0, d1, d2, d3, d4, d5⟩ := hce.below (Nat.lt_of_lt_of_le hb hz72) hB3.out
            have CY : Hid (CeI (w3.alloc (.cells #[.string x.key, .int .i64 x.at_.wall, .int .i32 x.at_.logic, .int .i32 x.at_.tag, .string x.val, .bool x.del] 45)) w3.heap.size 0 x) := Lib.hid (by
              have h := (BxV.new w3 #[.string x.key, .int .i64 x.at_.wall, .int .i32 x.at_.logic, .int .i32 x.at_.tag, .string x.val, .bool x.del] 45).c
              exact ⟨h 0 _ rfl, h 1 _ rfl, h 2 _ rfl, h 3 _ rfl, h 4 _ rfl, h 5 _ rfl⟩)
            have CYL : Hid (w3.heap.size < (w3.alloc (.cells #[.string x.key, .int .i64 x.at_.wall, .int .i32 x.at_.logic, .int .i32 x.at_.tag, .string x.val, .bool x.del] 45)).heap.size) := Lib.hid (by simp)
            have HX := Lib.hid hx
            have k1 : (i' : Int) < (n : Int) := by omega
            obtain ⟨a0, a1, a2⟩ : w3.cell? ⟨w.heap.size, 0, none⟩ = _ ∧ w3.cell? ⟨w.heap.size, 1, none⟩ = _ ∧ w3.cell? ⟨w.heap.size, 2, none⟩ = _ := ⟨X3.out.a.c 0 _ rfl, X3.out.a.c 1 _ rfl, X3.out.a.c 2 _ rfl⟩
            have zz0 : w.heap.size < w3.heap.size := by omega
            have zz1 : w.heap.size + 1 < w3.heap.size := by omega
            have zzb : b < w3.heap.size := by omega
            clear hce hx
            go_wp2_with fail
            refine (hcompare_any x.at_ s _).mono ?_
            rintro e w4 ⟨rfl, hb4⟩
            have X4 := (X3.out.next ((Below.refl w3.heap.size w3).alloc (Nat.le_refl _) (.cells #[.string x.key, .int .i64 x.at_.wall, .int .i32 x.at_.logic, .int .i32 x.at_.tag, .string x.val, .bool x.del] 45))).next hb4
            have Y4 := CeI.below CY.out CYL.out hb4
            have P4 := (HP.out.alloc (.cells #[.string x.key, .int .i64 x.at_.wall, .int .i32 x.at_.logic, .int .i32 x.at_.tag, .string x.val, .bool x.del] 45)).next hb4
            have B34 := Lib.hid (((Below.refl w3.heap.size w3).alloc (Nat.le_refl _) (.cells #[.string x.key, .int .i64 x.at_.wall, .int .i32 x.at_.logic, .int .i32 x.at_.tag, .string x.val, .bool x.del] 45)).trans (hb4.mono (by simp)))
            clear zz0 zz1 zzb a0 a1 a2 d0 d1 d2 d3 d4 d5
            cases k2 : less s x.at_
            · have g3 : ¬ (0 < cmpS x.at_ s) := by have := (cmp_le x.at_ s).2 k2; omega
              have hy : (cs.take (i' + 1)).filter (btw s t) = (cs.take i').filter (btw s t) := by
                rw [late_snoc HX.out, show btw s t x = false by unfold btw; rw [k2]; rfl]
                simp
              have HC9 : Hid (cur = lateF ((cs.take (i' + 1)).filter (btw s t))) := Lib.hid (by rw [hy]; exact HC.out)
              have HY : Hid (someL cs s t (i' + 1) = someL cs s t i') := Lib.hid (by unfold someL; rw [hy])
              have P9 := Lib.hid P4
              have B9 := Lib.hid (hB3.out.trans (B34.out.mono (by omega)))
              clear hy k2 X4 Y4 P4 HC HP hB3 B34 hb4
              go_wp2_with fail
              go_roundw
              case rel => exact ⟨cur, i' + 1, by rw [HY.out], by go_num, by omega, HC9, P9, B9⟩
              case measure => simp [intOf]; omega
            · have g3 : 0 < cmpS x.at_ s := by rw [cmp_gt k2]; omega
              obtain ⟨b0, b1, b2⟩ : w4.cell? ⟨w.heap.size + 1, 0, none⟩ = _ ∧ w4.cell? ⟨w.heap.size + 1, 1, none⟩ = _ ∧ w4.cell? ⟨w.heap.size + 1, 2, none⟩ = _ := ⟨X4.b.c 0 _ rfl, X4.b.c 1 _ rfl, X4.b.c 2 _ rfl⟩
              have y1 := Y4.c1
              have y2 := Y4.c2
              have y3 := Y4.c3
              go_wp2_with fail
              refine (hcompare_any x.at_ t _).mono ?_
              rintro e w5' ⟨rfl, hb5⟩
              have hb54 := hb4.trans (hb5.mono hb4.size)
              have Y5 := CeI.below CY.out CYL.out hb54
              have P5 := (HP.out.alloc (.cells #[.string x.key, .int .i64 x.at_.wall, .int .i32 x.at_.logic, .int .i32 x.at_.tag, .string x.val, .bool x.del] 45)).next hb54
              have B35 := Lib.hid (((Below.refl w3.heap.size w3).alloc (Nat.le_refl _) (.cells #[.string x.key, .int .i64 x.at_.wall, .int .i32 x.at_.logic, .int .i32 x.at_.tag, .string x.val, .bool x.del] 45)).trans (hb54.mono (by simp)))
              clear b0 b1 b2 y1 y2 y3 X4 Y4 P4 B34 hb4 hb5 hb54
              cases k4 : less t x.at_
              · have g4 : cmpS x.at_ t ≤ 0 := (cmp_le _ _).2 k4
                have hy : (cs.take (i' + 1)).filter (btw s t) = (cs.take i').filter (btw s t) ++ [x] := by
                  rw [late_snoc HX.out, show btw s t x = true by unfold btw le; rw [k2, k4]; rfl]
                  rfl
                have HC9 : Hid (maxS cur x.at_ = lateF ((cs.take (i' + 1)).filter (btw s t))) := Lib.hid (by rw [hy, lateF_snoc, ← HC.out])
                have HY : Hid (someL cs s t (i' + 1) = true) := Lib.hid (by unfold someL; rw [hy]; exact decide_eq_true (by simp))
                have u0 := P5.c 0 _ rfl
                have u1 := P5.c 1 _ rfl
                have u2 := P5.c 2 _ rfl
                have y1 := Y5.c1
                have y2 := Y5.c2
                have y3 := Y5.c3
                clear hy k2 k4 Y5 HC HP
                go_wp2_with fail
                refine (hmax_any cur x.at_ _).mono ?_
                rintro e w6 ⟨rfl, hb6⟩
                have P6 := P5.next hb6
                have B36 := B35.out.trans (hb6.mono B35.out.size)
                have B9 : Hid (Below p w8 (World.setCells w6 p 0 (spc (maxS cur x.at_)))) := Lib.hid (bel_setCells (Nat.le_refl p) _ 0 _ (hB3.out.trans (B36.mono (by omega))))
                have P9 : Hid (BxV (World.setCells w6 p 0 (spc (maxS cur x.at_))) p (spc (maxS cur x.at_))) := Lib.hid (P6.set _ rfl)
                have v0 := P6.c 0 _ rfl
                have v1 := P6.c 1 _ rfl
                have v2 := P6.c 2 _ rfl
                have vf := P6.fz
                clear u0 u1 u2 y1 y2 y3 P5 P6 B35 B36 hb6 hB3
                generalize maxS cur x.at_ = cur2 at *
                go_wp2_with fail
                go_roundw
                case rel => exact ⟨cur2, i' + 1, by rw [HY.out], by go_num, by omega, HC9, P9, B9⟩
                case measure => simp [intOf]; omega
              · have g4 : ¬ cmpS x.at_ t ≤ 0 := cmp_gt0 k4
                have hy : (cs.take (i' + 1)).filter (btw s t) = (cs.take i').filter (btw s t) := by
                  rw [late_snoc HX.out, show btw s t x = false by unfold btw le; rw [k4]; simp]
                  simp
                have HC9 : Hid (cur = lateF ((cs.take (i' + 1)).filter (btw s t))) := Lib.hid (by rw [hy]; exact HC.out)
                have HY : Hid (someL cs s t (i' + 1) = someL cs s t i') := Lib.hid (by unfold someL; rw [hy])
                have P9 := Lib.hid P5
                have B9 := Lib.hid (hB3.out.trans (B35.out.mono (by omega)))
                clear hy k2 k4 Y5 P5 HC HP hB3 B35
                go_wp2_with fail
                go_roundw
                case rel => exact ⟨cur, i' + 1, by rw [HY.out], by go_num, by omega, HC9, P9, B9⟩
                case measure => simp [intOf]; omega
          · have k1 : ¬ (i' : Int) < (n : Int) := by omega
            have hall : cs.take i' = cs := List.take_of_length_le (by rw [HL.out]; omega)
            rw [hall] at HC
            have B3 := Lib.hid (B8.out.trans (hB3.out.mono (by omega)))
            have R3 := Lib.hid (R8.out.below (hB3.out.mono hz72))
            have XR := Lib.hid X3.out.d
            clear hlt2 X8 B8 R8 hB3
            by_cases hn0 : (cs.filter (btw s t)).length = 0
            · have hd : someL cs s t i' = false := by unfold someL; rw [hall]; exact decide_eq_false (by omega)
              rw [hd]
              have SEQ := Lib.hid (HS.out.trans (scan_rows (b := by_) (kn := kn) E0.out HNO.out hn0))
              obtain ⟨a0, a1, a2⟩ : w3.cell? ⟨w.heap.size, 0, none⟩ = _ ∧ w3.cell? ⟨w.heap.size, 1, none⟩ = _ ∧ w3.cell? ⟨w.heap.size, 2, none⟩ = _ := ⟨X3.out.a.c 0 _ rfl, X3.out.a.c 1 _ rfl, X3.out.a.c 2 _ rfl⟩
              have hwz : w.heap.size + 4 < w3.heap.size := by omega
              clear hall hd hn0 HS HC HP X3
              go_wp2_with fail
              refine (rows24_any A n c cs HL.out hn HO.out.1.2.2.1 (fun c hc e => by
                have h1 := HO.out.1.1 c hc
                unfold okC at h1
                rw [e, show usr zE = false by decide] at h1
                cases h1) s w7.heap.size w3 R3.out (by omega)).mono ?_
              rintro e w9 ⟨v9, rfl, own9, hb9⟩
              obtain ⟨A9, c9, rfl, -, -⟩ := own_sl own9
              have B9 := Lib.hid (B3.out.trans (hb9.mono B3.out.size))
              have XR9 := XR.out.next hb9
              have OR9 := Lib.hid own9
              have OI9 := Lib.hid (World.ownsRow_nil w9 (w.heap.size + 4) 29 12)
              clear XR R3 B3 own9 hb9 a0 a1 a2
              have XR := Lib.hid XR9
              have q0 := XR.out.c 0 _ rfl
              have q1 := XR.out.c 1 _ rfl
              have q2 := XR.out.c 2 _ rfl
              have q3 := XR.out.c 3 _ rfl
              have q4 := XR.out.c 4 _ rfl
              have q5 := XR.out.c 5 _ rfl
              have qf := XR.out.fz
              clear XR9
              generalize rowsL cs s = rs at *
              go_wp2_with fail
              change bodyPost _ _ _ _ _ (World.setCells w9 (w.heap.size + 1 + 1 + 1) 0 [.int .i64 1, .slice A9 rs.length c9, .slice none 0 0, .int .i64 0, .int .i32 0, .int .i32 0])
              have RB := (XR.out.set [.int .i64 1, .slice A9 rs.length c9, .slice none 0 0, .int .i64 0, .int .i32 0, .int .i32 0] rfl)
              have BZ := bel_setCells (b := w.heap.size + 1 + 1 + 1) (by omega) [.int .i64 1, .slice A9 rs.length c9, .slice none 0 0, .int .i64 0, .int .i32 0, .int .i32 0] 0 _ B9.out
              have OR := own_base (own_setCells OR9.out (p := w.heap.size + 1 + 1 + 1) (by omega) 0 [.int .i64 1, .slice A9 rs.length c9, .slice none 0 0, .int .i64 0, .int .i32 0, .int .i32 0]) (show w.heap.size ≤ _ by omega)
              have OI := own_base (own_setCells OI9.out (p := w.heap.size + 1 + 1 + 1) (by omega) 0 [.int .i64 1, .slice A9 rs.length c9, .slice none 0 0, .int .i64 0, .int .i32 0, .int .i32 0]) (show w.heap.size ≤ _ by omega)
              have r0 := RB.c 0 _ rfl
              have r1 := RB.c 1 _ rfl
              have r2 := RB.c 2 _ rfl
              have r3 := RB.c 3 _ rfl
              have r4 := RB.c 4 _ rfl
              have r5 := RB.c 5 _ rfl
              generalize World.setCells w9 (w.heap.size + 1 + 1 + 1) 0 [.int .i64 1, .slice A9 rs.length c9, .slice none 0 0, .int .i64 0, .int .i32 0, .int .i32 0] = wz at *
              refine bodyPost_ret (v := .tuple #[.agg #[.int .i64 1, .slice A9 rs.length c9, .slice none 0 0, .int .i64 0, .int .i32 0, .int .i32 0], .int .i64 0]) (by simp [results, Try.results16, go_sem, r0, r1, r2, r3, r4, r5]) rfl ⟨?_, BZ⟩
              rw [SEQ.out, EEQ.out]
              exact ⟨_, _, rfl, OR, OI⟩
            · have hd : someL cs s t i' = true := by unfold someL; rw [hall]; exact decide_eq_true (by omega)
              rw [hd]
              have SEQ : Hid (S = ⟨3, [], [], cur⟩) := Lib.hid (by rw [HS.out, scan_uns (b := by_) (kn := kn) E0.out HNO.out hn0, HC.out]; rfl)
              have u0 := HP.out.c 0 _ rfl
              have u1 := HP.out.c 1 _ rfl
              have u2 := HP.out.c 2 _ rfl
              have q0 := XR.out.c 0 _ rfl
              have q1 := XR.out.c 1 _ rfl
              have q2 := XR.out.c 2 _ rfl
              have q3 := XR.out.c 3 _ rfl
              have q4 := XR.out.c 4 _ rfl
              have q5 := XR.out.c 5 _ rfl
              have qf := XR.out.fz
              clear hall hd hn0 HS HC HP X3
              go_wp2_with fail
              obtain ⟨w9, rfl⟩ : ∃ x, x = w3 := ⟨_, rfl⟩
              have B9 := B3
              have OR9 := Lib.hid (World.ownsRow_nil w9 (w.heap.size + 4) 67 2)
              have OI9 := Lib.hid (World.ownsRow_nil w9 (w.heap.size + 4) 29 12)
              change bodyPost _ _ _ _ _ (World.setCells w9 (w.heap.size + 1 + 1 + 1) 0 [.int .i64 3, .slice none 0 0, .slice none 0 0, .int .i64 cur.wall, .int .i32 cur.logic, .int .i32 cur.tag])
              have RB := (XR.out.set [.int .i64 3, .slice none 0 0, .slice none 0 0, .int .i64 cur.wall, .int .i32 cur.logic, .int .i32 cur.tag] rfl)
              have BZ := bel_setCells (b := w.heap.size + 1 + 1 + 1) (by omega) [.int .i64 3, .slice none 0 0, .slice none 0 0, .int .i64 cur.wall, .int .i32 cur.logic, .int .i32 cur.tag] 0 _ B9.out
              have OR := own_base (own_setCells OR9.out (p := w.heap.size + 1 + 1 + 1) (by omega) 0 [.int .i64 3, .slice none 0 0, .slice none 0 0, .int .i64 cur.wall, .int .i32 cur.logic, .int .i32 cur.tag]) (show w.heap.size ≤ _ by omega)
              have OI := own_base (own_setCells OI9.out (p := w.heap.size + 1 + 1 + 1) (by omega) 0 [.int .i64 3, .slice none 0 0, .slice none 0 0, .int .i64 cur.wall, .int .i32 cur.logic, .int .i32 cur.tag]) (show w.heap.size ≤ _ by omega)
              have r0 := RB.c 0 _ rfl
              have r1 := RB.c 1 _ rfl
              have r2 := RB.c 2 _ rfl
              have r3 := RB.c 3 _ rfl
              have r4 := RB.c 4 _ rfl
              have r5 := RB.c 5 _ rfl
              generalize World.setCells w9 (w.heap.size + 1 + 1 + 1) 0 [.int .i64 3, .slice none 0 0, .slice none 0 0, .int .i64 cur.wall, .int .i32 cur.logic, .int .i32 cur.tag] = wz at *
              refine bodyPost_ret (v := .tuple #[.agg #[.int .i64 3, .slice none 0 0, .slice none 0 0, .int .i64 cur.wall, .int .i32 cur.logic, .int .i32 cur.tag], .int .i64 0]) (by simp [results, Try.results16, go_sem, r0, r1, r2, r3, r4, r5]) rfl ⟨?_, BZ⟩
              rw [SEQ.out, EEQ.out]
              exact ⟨_, _, rfl, OR, OI⟩
      · have h1 : (0 : Int) < (out.length : Int) := by omega
        have SEQ := Lib.hid (HS.out.trans (scan_met (b := by_) (kn := kn) E0.out (by rw [← HH.out]; exact h0)))
        rw [← HH.out] at SEQ
        have XR := Lib.hid X2.out.d
        have q0 := XR.out.c 0 _ rfl
        have q1 := XR.out.c 1 _ rfl
        have q2 := XR.out.c 2 _ rfl
        have q3 := XR.out.c 3 _ rfl
        have q4 := XR.out.c 4 _ rfl
        have q5 := XR.out.c 5 _ rfl
        have qf := XR.out.fz
        clear HS
        go_wp2_with fail
        obtain ⟨w9, rfl⟩ : ∃ x, x = w2 := ⟨_, rfl⟩
        have B9 := B2
        have OR9 := Lib.hid (World.ownsRow_nil w9 (w.heap.size + 4) 67 2)
        have OI9 := HOw
        change bodyPost _ _ _ _ _ (World.setCells w9 (w.heap.size + 1 + 1 + 1) 0 [.int .i64 2, .slice none 0 0, .slice Av out.length cv, .int .i64 0, .int .i32 0, .int .i32 0])
        have RB := (XR.out.set [.int .i64 2, .slice none 0 0, .slice Av out.length cv, .int .i64 0, .int .i32 0, .int .i32 0] rfl)
        have BZ := bel_setCells (b := w.heap.size + 1 + 1 + 1) (by omega) [.int .i64 2, .slice none 0 0, .slice Av out.length cv, .int .i64 0, .int .i32 0, .int .i32 0] 0 _ B9.out
        have OR := own_base (own_setCells OR9.out (p := w.heap.size + 1 + 1 + 1) (by omega) 0 [.int .i64 2, .slice none 0 0, .slice Av out.length cv, .int .i64 0, .int .i32 0, .int .i32 0]) (show w.heap.size ≤ _ by omega)
        have OI := own_base (own_setCells OI9.out (p := w.heap.size + 1 + 1 + 1) (by omega) 0 [.int .i64 2, .slice none 0 0, .slice Av out.length cv, .int .i64 0, .int .i32 0, .int .i32 0]) (show w.heap.size ≤ _ by omega)
        have r0 := RB.c 0 _ rfl
        have r1 := RB.c 1 _ rfl
        have r2 := RB.c 2 _ rfl
        have r3 := RB.c 3 _ rfl
        have r4 := RB.c 4 _ rfl
        have r5 := RB.c 5 _ rfl
        generalize World.setCells w9 (w.heap.size + 1 + 1 + 1) 0 [.int .i64 2, .slice none 0 0, .slice Av out.length cv, .int .i64 0, .int .i32 0, .int .i32 0] = wz at *
        refine bodyPost_ret (v := .tuple #[.agg #[.int .i64 2, .slice none 0 0, .slice Av out.length cv, .int .i64 0, .int .i32 0, .int .i32 0], .int .i64 0]) (by simp [results, Try.results16, go_sem, r0, r1, r2, r3, r4, r5]) rfl ⟨?_, BZ⟩
        rw [SEQ.out, EEQ.out]
        exact ⟨_, _, rfl, OR, OI⟩
end Go.Proofs.Ytgikaglmeeeplaa
