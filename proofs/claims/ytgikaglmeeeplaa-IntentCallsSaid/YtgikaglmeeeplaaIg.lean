/- Walks: at which stamp an intent may be laid; an intent above a stamp. -/
import Derived.Test.YtgikaglmeeeplaaIf
import Derived.Test.YtgikaglmeeeplaaHb
import Derived.Deep.Cut
namespace Go.Proofs.Ytgikaglmeeeplaa
open Go.RowKit Go.St
set_option linter.unusedVariables false
set_option linter.unusedSimpArgs false
set_option maxRecDepth 100000

def itz : List Value := [.string ⟨#[]⟩, .int .i32 0, .int .i32 0, .int .i64 0, .int .i32 0, .int .i32 0, .string ⟨#[]⟩, .int .i64 0, .int .i32 0, .int .i32 0, .string ⟨#[]⟩, .bool false]
def ittZ : Itt := ⟨zE, 0, 0, zeroS, zE, zeroS, zE, false⟩
def movE (x : Itt) (t : Stp) : Int := if chkI x = 0 then (if chk t = 0 then (if less t x.at_ then 0 else nextE t x.at_.tag) else chk t) else chkI x
def movM (x : Itt) (t : Stp) : Itt := if movE x t = 0 then (if less t x.at_ then x else ⟨x.key, x.nd, x.nu, x.bg, x.anc, nextS t x.at_.tag, x.val, x.del⟩) else ittZ

/-- The boxes of Moved. -/
structure MvB (W : World) (Z : Nat) (x : Itt) (t : Stp) : Prop where
  a : BxV W Z x.c
  b : BxV W (Z + 1) (spc t)
  c : BxV W (Z + 1 + 1) itz
theorem MvB.next {W W' : World} {Z : Nat} {x : Itt} {t : Stp} (h : MvB W Z x t) (hb : Below W.heap.size W W') : MvB W' Z x t := ⟨h.a.next hb, h.b.next hb, h.c.next hb⟩

set_option maxHeartbeats 3200000 in
theorem moved_any (x : Itt) (t : Stp) (w : World) :
    Calls Try.prog 12 #[x.v, .agg #[.int .i64 t.wall, .int .i32 t.logic, .int .i32 t.tag]] w fun e w' => e = .returned (.tuple #[(movM x t).v, .int .i64 (movE x t)]) ∧ Below w.heap.size w w' := by
  obtain ⟨E, hE⟩ : ∃ E, E = movE x t := ⟨_, rfl⟩
  obtain ⟨S, hS⟩ : ∃ S, S = movM x t := ⟨_, rfl⟩
  rw [← hE, ← hS]
  have HE := Lib.hid hE
  have HS := Lib.hid hS
  clear hE hS
  unfold Itt.v
  have HCI := Lib.hid (pitt_any x)
  unfold Itt.v at HCI
  go_enter Try.func12, Try.ntmps12
  go_wp2_with fail
  have X5 : Hid (MvB (((w.alloc (.cells #[.string x.key, .int .i32 x.nd, .int .i32 x.nu, .int .i64 x.bg.wall, .int .i32 x.bg.logic, .int .i32 x.bg.tag, .string x.anc, .int .i64 x.at_.wall, .int .i32 x.at_.logic, .int .i32 x.at_.tag, .string x.val, .bool x.del] 29)).alloc (.cells #[.int .i64 t.wall, .int .i32 t.logic, .int .i32 t.tag] 25)).alloc (.cells #[.string ⟨#[]⟩, .int .i32 0, .int .i32 0, .int .i64 0, .int .i32 0, .int .i32 0, .string ⟨#[]⟩, .int .i64 0, .int .i32 0, .int .i32 0, .string ⟨#[]⟩, .bool false] 29)) w.heap.size x t) := Lib.hid ⟨(((BxV.new w _ _).alloc _).alloc _), by
    have h := (BxV.new (w.alloc (.cells #[.string x.key, .int .i32 x.nd, .int .i32 x.nu, .int .i64 x.bg.wall, .int .i32 x.bg.logic, .int .i32 x.bg.tag, .string x.anc, .int .i64 x.at_.wall, .int .i32 x.at_.logic, .int .i32 x.at_.tag, .string x.val, .bool x.del] 29)) #[.int .i64 t.wall, .int .i32 t.logic, .int .i32 t.tag] 25).alloc (.cells #[.string ⟨#[]⟩, .int .i32 0, .int .i32 0, .int .i64 0, .int .i32 0, .int .i32 0, .string ⟨#[]⟩, .int .i64 0, .int .i32 0, .int .i32 0, .string ⟨#[]⟩, .bool false] 29)
    simp only [World.size_alloc] at h; exact h, by
    have h := (BxV.new ((w.alloc (.cells #[.string x.key, .int .i32 x.nd, .int .i32 x.nu, .int .i64 x.bg.wall, .int .i32 x.bg.logic, .int .i32 x.bg.tag, .string x.anc, .int .i64 x.at_.wall, .int .i32 x.at_.logic, .int .i32 x.at_.tag, .string x.val, .bool x.del] 29)).alloc (.cells #[.int .i64 t.wall, .int .i32 t.logic, .int .i32 t.tag] 25)) #[.string ⟨#[]⟩, .int .i32 0, .int .i32 0, .int .i64 0, .int .i32 0, .int .i32 0, .string ⟨#[]⟩, .int .i64 0, .int .i32 0, .int .i32 0, .string ⟨#[]⟩, .bool false] 29)
    simp only [World.size_alloc] at h; exact h⟩
  have B5 : Hid (Below w.heap.size w (((w.alloc (.cells #[.string x.key, .int .i32 x.nd, .int .i32 x.nu, .int .i64 x.bg.wall, .int .i32 x.bg.logic, .int .i32 x.bg.tag, .string x.anc, .int .i64 x.at_.wall, .int .i32 x.at_.logic, .int .i32 x.at_.tag, .string x.val, .bool x.del] 29)).alloc (.cells #[.int .i64 t.wall, .int .i32 t.logic, .int .i32 t.tag] 25)).alloc (.cells #[.string ⟨#[]⟩, .int .i32 0, .int .i32 0, .int .i64 0, .int .i32 0, .int .i32 0, .string ⟨#[]⟩, .int .i64 0, .int .i32 0, .int .i32 0, .string ⟨#[]⟩, .bool false] 29))) := Lib.hid ((((((Below.refl _ _).alloc (Nat.le_refl _) _).alloc (by simp) _).alloc (by simp; omega) _)))
  have hz5 : w.heap.size + 1 + 1 < (((w.alloc (.cells #[.string x.key, .int .i32 x.nd, .int .i32 x.nu, .int .i64 x.bg.wall, .int .i32 x.bg.logic, .int .i32 x.bg.tag, .string x.anc, .int .i64 x.at_.wall, .int .i32 x.at_.logic, .int .i32 x.at_.tag, .string x.val, .bool x.del] 29)).alloc (.cells #[.int .i64 t.wall, .int .i32 t.logic, .int .i32 t.tag] 25)).alloc (.cells #[.string ⟨#[]⟩, .int .i32 0, .int .i32 0, .int .i64 0, .int .i32 0, .int .i32 0, .string ⟨#[]⟩, .int .i64 0, .int .i32 0, .int .i32 0, .string ⟨#[]⟩, .bool false] 29)).heap.size := by simp
  generalize (((w.alloc (.cells #[.string x.key, .int .i32 x.nd, .int .i32 x.nu, .int .i64 x.bg.wall, .int .i32 x.bg.logic, .int .i32 x.bg.tag, .string x.anc, .int .i64 x.at_.wall, .int .i32 x.at_.logic, .int .i32 x.at_.tag, .string x.val, .bool x.del] 29)).alloc (.cells #[.int .i64 t.wall, .int .i32 t.logic, .int .i32 t.tag] 25)).alloc (.cells #[.string ⟨#[]⟩, .int .i32 0, .int .i32 0, .int .i64 0, .int .i32 0, .int .i32 0, .string ⟨#[]⟩, .int .i64 0, .int .i32 0, .int .i32 0, .string ⟨#[]⟩, .bool false] 29)) = w5 at *
  refine (HCI.out w5).mono ?_
  rintro e w6 ⟨rfl, hb6⟩
  have X6 := Lib.hid (X5.out.next hb6)
  have B6 := Lib.hid (B5.out.trans (hb6.mono B5.out.size))
  have hz6 : w.heap.size + 1 + 1 < w6.heap.size := by have := hb6.size; omega
  clear hb6 X5 B5 hz5 HCI
  have XR := Lib.hid X6.out.c
  by_cases h0 : chkI x = 0
  case neg =>
    have hE1 : E = chkI x := by rw [HE.out]; unfold movE; rw [if_neg h0]
    have SEQ : Hid (S = ittZ) := Lib.hid (by rw [HS.out]; unfold movM; rw [if_neg (by rw [← HE.out, hE1]; exact h0)])
    rw [← hE1] at h0
    have e1 : (E != 0) = true := by simpa using h0
    rw [← hE1]
    have q0 := XR.out.c 0 _ rfl
    have q1 := XR.out.c 1 _ rfl
    have q2 := XR.out.c 2 _ rfl
    have q3 := XR.out.c 3 _ rfl
    have q4 := XR.out.c 4 _ rfl
    have q5 := XR.out.c 5 _ rfl
    have q6 := XR.out.c 6 _ rfl
    have q7 := XR.out.c 7 _ rfl
    have q8 := XR.out.c 8 _ rfl
    have q9 := XR.out.c 9 _ rfl
    have q10 := XR.out.c 10 _ rfl
    have q11 := XR.out.c 11 _ rfl
    have qf := XR.out.fz
    clear hE1 h0 HE HS
    go_wp2_with fail
    obtain ⟨w9, rfl⟩ : ∃ x, x = w6 := ⟨_, rfl⟩
    have B9 := B6
    have EEQ : Hid (E = E) := Lib.hid rfl
    change bodyPost _ _ _ _ _ (World.setCells w9 (w.heap.size + 1 + 1) 0 [.string ⟨#[]⟩, .int .i32 0, .int .i32 0, .int .i64 0, .int .i32 0, .int .i32 0, .string ⟨#[]⟩, .int .i64 0, .int .i32 0, .int .i32 0, .string ⟨#[]⟩, .bool false])
    have RB := (XR.out.set [.string ⟨#[]⟩, .int .i32 0, .int .i32 0, .int .i64 0, .int .i32 0, .int .i32 0, .string ⟨#[]⟩, .int .i64 0, .int .i32 0, .int .i32 0, .string ⟨#[]⟩, .bool false] rfl)
    have BZ := bel_setCells (b := w.heap.size + 1 + 1) (by omega) [.string ⟨#[]⟩, .int .i32 0, .int .i32 0, .int .i64 0, .int .i32 0, .int .i32 0, .string ⟨#[]⟩, .int .i64 0, .int .i32 0, .int .i32 0, .string ⟨#[]⟩, .bool false] 0 _ B9.out
    have r0 := RB.c 0 _ rfl
    have r1 := RB.c 1 _ rfl
    have r2 := RB.c 2 _ rfl
    have r3 := RB.c 3 _ rfl
    have r4 := RB.c 4 _ rfl
    have r5 := RB.c 5 _ rfl
    have r6 := RB.c 6 _ rfl
    have r7 := RB.c 7 _ rfl
    have r8 := RB.c 8 _ rfl
    have r9 := RB.c 9 _ rfl
    have r10 := RB.c 10 _ rfl
    have r11 := RB.c 11 _ rfl
    generalize World.setCells w9 (w.heap.size + 1 + 1) 0 [.string ⟨#[]⟩, .int .i32 0, .int .i32 0, .int .i64 0, .int .i32 0, .int .i32 0, .string ⟨#[]⟩, .int .i64 0, .int .i32 0, .int .i32 0, .string ⟨#[]⟩, .bool false] = wz at *
    refine bodyPost_ret (v := .tuple #[.agg #[.string ⟨#[]⟩, .int .i32 0, .int .i32 0, .int .i64 0, .int .i32 0, .int .i32 0, .string ⟨#[]⟩, .int .i64 0, .int .i32 0, .int .i32 0, .string ⟨#[]⟩, .bool false], .int .i64 E]) (by simp [results, Try.results12, go_sem, r0, r1, r2, r3, r4, r5, r6, r7, r8, r9, r10, r11]) rfl ⟨?_, BZ⟩
    rw [SEQ.out, EEQ.out]
    all_goals rfl
  have hE1 : E = if chk t = 0 then (if less t x.at_ then 0 else nextE t x.at_.tag) else chk t := by rw [HE.out]; unfold movE; rw [if_pos h0]
  have HE1 := Lib.hid hE1
  rw [h0]
  clear h0 hE1
  obtain ⟨b0, b1, b2⟩ : w6.cell? ⟨w.heap.size + 1, 0, none⟩ = _ ∧ w6.cell? ⟨w.heap.size + 1, 1, none⟩ = _ ∧ w6.cell? ⟨w.heap.size + 1, 2, none⟩ = _ := ⟨X6.out.b.c 0 _ rfl, X6.out.b.c 1 _ rfl, X6.out.b.c 2 _ rfl⟩
  go_wp2_with fail
  refine (hcheck_any t _).mono ?_
  rintro e w7 ⟨rfl, hb7⟩
  have X7 := Lib.hid (X6.out.next hb7)
  have B7 := Lib.hid (B6.out.trans (hb7.mono B6.out.size))
  have hz7 : w.heap.size + 1 + 1 < w7.heap.size := by have := hb7.size; omega
  clear hb7 X6 B6 hz6 b0 b1 b2 XR
  have XR := Lib.hid X7.out.c
  by_cases h0 : chk t = 0
  case neg =>
    have hE1 : E = chk t := by rw [HE1.out, if_neg h0]
    have SEQ : Hid (S = ittZ) := Lib.hid (by rw [HS.out]; unfold movM; rw [if_neg (by rw [← HE.out, hE1]; exact h0)])
    rw [← hE1] at h0
    have e1 : (E != 0) = true := by simpa using h0
    rw [← hE1]
    have q0 := XR.out.c 0 _ rfl
    have q1 := XR.out.c 1 _ rfl
    have q2 := XR.out.c 2 _ rfl
    have q3 := XR.out.c 3 _ rfl
    have q4 := XR.out.c 4 _ rfl
    have q5 := XR.out.c 5 _ rfl
    have q6 := XR.out.c 6 _ rfl
    have q7 := XR.out.c 7 _ rfl
    have q8 := XR.out.c 8 _ rfl
    have q9 := XR.out.c 9 _ rfl
    have q10 := XR.out.c 10 _ rfl
    have q11 := XR.out.c 11 _ rfl
    have qf := XR.out.fz
    clear hE1 h0 HE HS HE1
    go_wp2_with fail
    obtain ⟨w9, rfl⟩ : ∃ x, x = w7 := ⟨_, rfl⟩
    have B9 := B7
    have EEQ : Hid (E = E) := Lib.hid rfl
    change bodyPost _ _ _ _ _ (World.setCells w9 (w.heap.size + 1 + 1) 0 [.string ⟨#[]⟩, .int .i32 0, .int .i32 0, .int .i64 0, .int .i32 0, .int .i32 0, .string ⟨#[]⟩, .int .i64 0, .int .i32 0, .int .i32 0, .string ⟨#[]⟩, .bool false])
    have RB := (XR.out.set [.string ⟨#[]⟩, .int .i32 0, .int .i32 0, .int .i64 0, .int .i32 0, .int .i32 0, .string ⟨#[]⟩, .int .i64 0, .int .i32 0, .int .i32 0, .string ⟨#[]⟩, .bool false] rfl)
    have BZ := bel_setCells (b := w.heap.size + 1 + 1) (by omega) [.string ⟨#[]⟩, .int .i32 0, .int .i32 0, .int .i64 0, .int .i32 0, .int .i32 0, .string ⟨#[]⟩, .int .i64 0, .int .i32 0, .int .i32 0, .string ⟨#[]⟩, .bool false] 0 _ B9.out
    have r0 := RB.c 0 _ rfl
    have r1 := RB.c 1 _ rfl
    have r2 := RB.c 2 _ rfl
    have r3 := RB.c 3 _ rfl
    have r4 := RB.c 4 _ rfl
    have r5 := RB.c 5 _ rfl
    have r6 := RB.c 6 _ rfl
    have r7 := RB.c 7 _ rfl
    have r8 := RB.c 8 _ rfl
    have r9 := RB.c 9 _ rfl
    have r10 := RB.c 10 _ rfl
    have r11 := RB.c 11 _ rfl
    generalize World.setCells w9 (w.heap.size + 1 + 1) 0 [.string ⟨#[]⟩, .int .i32 0, .int .i32 0, .int .i64 0, .int .i32 0, .int .i32 0, .string ⟨#[]⟩, .int .i64 0, .int .i32 0, .int .i32 0, .string ⟨#[]⟩, .bool false] = wz at *
    refine bodyPost_ret (v := .tuple #[.agg #[.string ⟨#[]⟩, .int .i32 0, .int .i32 0, .int .i64 0, .int .i32 0, .int .i32 0, .string ⟨#[]⟩, .int .i64 0, .int .i32 0, .int .i32 0, .string ⟨#[]⟩, .bool false], .int .i64 E]) (by simp [results, Try.results12, go_sem, r0, r1, r2, r3, r4, r5, r6, r7, r8, r9, r10, r11]) rfl ⟨?_, BZ⟩
    rw [SEQ.out, EEQ.out]
    all_goals rfl
  have hE1 : E = (if less t x.at_ then 0 else nextE t x.at_.tag) := by rw [HE1.out, if_pos h0]
  have HE2 := Lib.hid hE1
  rw [h0]
  clear h0 hE1 HE1
  obtain ⟨b0, b1, b2⟩ : w7.cell? ⟨w.heap.size + 1, 0, none⟩ = _ ∧ w7.cell? ⟨w.heap.size + 1, 1, none⟩ = _ ∧ w7.cell? ⟨w.heap.size + 1, 2, none⟩ = _ := ⟨X7.out.b.c 0 _ rfl, X7.out.b.c 1 _ rfl, X7.out.b.c 2 _ rfl⟩
  have y7 := X7.out.a.c 7 _ rfl
  have y8 := X7.out.a.c 8 _ rfl
  have y9 := X7.out.a.c 9 _ rfl
  go_wp2_with fail
  refine (hcompare_any x.at_ t _).mono ?_
  rintro e w8 ⟨rfl, hb8⟩
  have X8 := Lib.hid (X7.out.next hb8)
  have B8 := Lib.hid (B7.out.trans (hb8.mono B7.out.size))
  have hz8 : w.heap.size + 1 + 1 < w8.heap.size := by have := hb8.size; omega
  clear hb8 X7 B7 hz7 b0 b1 b2 y7 y8 y9 XR
  cases k1 : less t x.at_
  case true =>
    have g1 : 0 < cmpS x.at_ t := by rw [cmp_gt k1]; omega
    have EEQ : Hid (E = 0) := Lib.hid (by rw [HE2.out, k1]; rfl)
    have SEQ : Hid (S = x) := Lib.hid (by rw [HS.out]; unfold movM; rw [if_pos (by rw [← HE.out]; exact EEQ.out), k1]; rfl)
    have XR := Lib.hid X8.out.c
    have q0 := XR.out.c 0 _ rfl
    have q1 := XR.out.c 1 _ rfl
    have q2 := XR.out.c 2 _ rfl
    have q3 := XR.out.c 3 _ rfl
    have q4 := XR.out.c 4 _ rfl
    have q5 := XR.out.c 5 _ rfl
    have q6 := XR.out.c 6 _ rfl
    have q7 := XR.out.c 7 _ rfl
    have q8 := XR.out.c 8 _ rfl
    have q9 := XR.out.c 9 _ rfl
    have q10 := XR.out.c 10 _ rfl
    have q11 := XR.out.c 11 _ rfl
    have qf := XR.out.fz
    have y0 := X8.out.a.c 0 _ rfl
    have y1 := X8.out.a.c 1 _ rfl
    have y2 := X8.out.a.c 2 _ rfl
    have y3 := X8.out.a.c 3 _ rfl
    have y4 := X8.out.a.c 4 _ rfl
    have y5 := X8.out.a.c 5 _ rfl
    have y6 := X8.out.a.c 6 _ rfl
    have y7 := X8.out.a.c 7 _ rfl
    have y8 := X8.out.a.c 8 _ rfl
    have y9 := X8.out.a.c 9 _ rfl
    have y10 := X8.out.a.c 10 _ rfl
    have y11 := X8.out.a.c 11 _ rfl
    clear k1 HE HS HE2
    go_wp2_with fail
    obtain ⟨w9, rfl⟩ : ∃ x, x = w8 := ⟨_, rfl⟩
    have B9 := B8
    change bodyPost _ _ _ _ _ (World.setCells w9 (w.heap.size + 1 + 1) 0 [.string x.key, .int .i32 x.nd, .int .i32 x.nu, .int .i64 x.bg.wall, .int .i32 x.bg.logic, .int .i32 x.bg.tag, .string x.anc, .int .i64 x.at_.wall, .int .i32 x.at_.logic, .int .i32 x.at_.tag, .string x.val, .bool x.del])
    have RB := (XR.out.set [.string x.key, .int .i32 x.nd, .int .i32 x.nu, .int .i64 x.bg.wall, .int .i32 x.bg.logic, .int .i32 x.bg.tag, .string x.anc, .int .i64 x.at_.wall, .int .i32 x.at_.logic, .int .i32 x.at_.tag, .string x.val, .bool x.del] rfl)
    have BZ := bel_setCells (b := w.heap.size + 1 + 1) (by omega) [.string x.key, .int .i32 x.nd, .int .i32 x.nu, .int .i64 x.bg.wall, .int .i32 x.bg.logic, .int .i32 x.bg.tag, .string x.anc, .int .i64 x.at_.wall, .int .i32 x.at_.logic, .int .i32 x.at_.tag, .string x.val, .bool x.del] 0 _ B9.out
    have r0 := RB.c 0 _ rfl
    have r1 := RB.c 1 _ rfl
    have r2 := RB.c 2 _ rfl
    have r3 := RB.c 3 _ rfl
    have r4 := RB.c 4 _ rfl
    have r5 := RB.c 5 _ rfl
    have r6 := RB.c 6 _ rfl
    have r7 := RB.c 7 _ rfl
    have r8 := RB.c 8 _ rfl
    have r9 := RB.c 9 _ rfl
    have r10 := RB.c 10 _ rfl
    have r11 := RB.c 11 _ rfl
    generalize World.setCells w9 (w.heap.size + 1 + 1) 0 [.string x.key, .int .i32 x.nd, .int .i32 x.nu, .int .i64 x.bg.wall, .int .i32 x.bg.logic, .int .i32 x.bg.tag, .string x.anc, .int .i64 x.at_.wall, .int .i32 x.at_.logic, .int .i32 x.at_.tag, .string x.val, .bool x.del] = wz at *
    refine bodyPost_ret (v := .tuple #[.agg #[.string x.key, .int .i32 x.nd, .int .i32 x.nu, .int .i64 x.bg.wall, .int .i32 x.bg.logic, .int .i32 x.bg.tag, .string x.anc, .int .i64 x.at_.wall, .int .i32 x.at_.logic, .int .i32 x.at_.tag, .string x.val, .bool x.del], .int .i64 0]) (by simp [results, Try.results12, go_sem, r0, r1, r2, r3, r4, r5, r6, r7, r8, r9, r10, r11]) rfl ⟨?_, BZ⟩
    rw [SEQ.out, EEQ.out]
    all_goals rfl
  have g1 : ¬ 0 < cmpS x.at_ t := by have := (cmp_le x.at_ t).2 k1; omega
  have HE3 : Hid (E = nextE t x.at_.tag) := Lib.hid (by rw [HE2.out, k1]; rfl)
  have HK := Lib.hid k1
  obtain ⟨b0, b1, b2⟩ : w8.cell? ⟨w.heap.size + 1, 0, none⟩ = _ ∧ w8.cell? ⟨w.heap.size + 1, 1, none⟩ = _ ∧ w8.cell? ⟨w.heap.size + 1, 2, none⟩ = _ := ⟨X8.out.b.c 0 _ rfl, X8.out.b.c 1 _ rfl, X8.out.b.c 2 _ rfl⟩
  have y9 := X8.out.a.c 9 _ rfl
  clear k1 HE2
  go_wp2_with fail
  refine (hnext_any t x.at_.tag _).mono ?_
  rintro e w9 ⟨rfl, hb9⟩
  have B9 := Lib.hid (B8.out.trans (hb9.mono B8.out.size))
  have X9 := Lib.hid (X8.out.next hb9)
  have hz9 : w.heap.size + 1 + 1 < w9.heap.size := by have := hb9.size; omega
  rw [← HE3.out]
  clear hb9 b0 b1 b2 y9 X8 B8 hz8
  have HN : Hid (S = if E = 0 then ⟨x.key, x.nd, x.nu, x.bg, x.anc, nextS t x.at_.tag, x.val, x.del⟩ else ittZ) := Lib.hid (by
    rw [HS.out]; unfold movM; rw [← HE.out, HK.out]; rfl)
  generalize nextS t x.at_.tag = u at *
  have XP : Hid (MvB (w9.alloc (.cells #[.int .i64 u.wall, .int .i32 u.logic, .int .i32 u.tag] 25)) w.heap.size x t) := Lib.hid (X9.out.next ((Below.refl _ _).alloc (Nat.le_refl _) _))
  have XU : Hid (BxV (w9.alloc (.cells #[.int .i64 u.wall, .int .i32 u.logic, .int .i32 u.tag] 25)) w9.heap.size (spc u)) := Lib.hid (BxV.new _ _ _)
  have BU := Lib.hid (B9.out.alloc B9.out.size (.cells #[.int .i64 u.wall, .int .i32 u.logic, .int .i32 u.tag] 25))
  clear HE HS X9 B9
  by_cases h0 : E = 0
  · have SEQ : Hid (S = ⟨x.key, x.nd, x.nu, x.bg, x.anc, u, x.val, x.del⟩) := Lib.hid (by rw [HN.out, if_pos h0])
    subst h0
    go_upto_region 12 with (fail)
    generalize w9.alloc (.cells #[.int .i64 u.wall, .int .i32 u.logic, .int .i32 u.tag] 25) = wu at *
    generalize w9.heap.size = p at *
    have y7 := XP.out.a.c 7 _ rfl
    have y8 := XP.out.a.c 8 _ rfl
    have y9 := XP.out.a.c 9 _ rfl
    have yf := XP.out.a.fz
    have u0 := XU.out.c 0 _ rfl
    have u1 := XU.out.c 1 _ rfl
    have u2 := XU.out.c 2 _ rfl
    go_upto_region 13 with (fail)
    change Code.wp _ _ _ _ (World.setCells wu w.heap.size 7 (spc u))
    have XV : Hid (BxV (World.setCells wu w.heap.size 7 (spc u)) w.heap.size (Itt.c ⟨x.key, x.nd, x.nu, x.bg, x.anc, u, x.val, x.del⟩)) := Lib.hid (XP.out.a.mid 7 (spc u) (by simp [spc, Itt.c]))
    have XR : Hid (BxV (World.setCells wu w.heap.size 7 (spc u)) (w.heap.size + 1 + 1) itz) := Lib.hid (XP.out.c.other (by omega) 7 (spc u))
    have B9 : Hid (Below w.heap.size w (World.setCells wu w.heap.size 7 (spc u))) := Lib.hid (bel_setCells (Nat.le_refl _) _ 7 _ BU.out)
    clear XP BU y7 y8 y9 yf u0 u1 u2 XU
    generalize World.setCells wu w.heap.size 7 (spc u) = w9 at *
    have y0 := XV.out.c 0 _ rfl
    have y1 := XV.out.c 1 _ rfl
    have y2 := XV.out.c 2 _ rfl
    have y3 := XV.out.c 3 _ rfl
    have y4 := XV.out.c 4 _ rfl
    have y5 := XV.out.c 5 _ rfl
    have y6 := XV.out.c 6 _ rfl
    have y7 := XV.out.c 7 _ rfl
    have y8 := XV.out.c 8 _ rfl
    have y9 := XV.out.c 9 _ rfl
    have y10 := XV.out.c 10 _ rfl
    have y11 := XV.out.c 11 _ rfl
    have q0 := XR.out.c 0 _ rfl
    have q1 := XR.out.c 1 _ rfl
    have q2 := XR.out.c 2 _ rfl
    have q3 := XR.out.c 3 _ rfl
    have q4 := XR.out.c 4 _ rfl
    have q5 := XR.out.c 5 _ rfl
    have q6 := XR.out.c 6 _ rfl
    have q7 := XR.out.c 7 _ rfl
    have q8 := XR.out.c 8 _ rfl
    have q9 := XR.out.c 9 _ rfl
    have q10 := XR.out.c 10 _ rfl
    have q11 := XR.out.c 11 _ rfl
    have qf := XR.out.fz
    dsimp only at y0 y1 y2 y3 y4 y5 y6 y7 y8 y9 y10 y11
    go_wp2_with fail
    have EEQ : Hid ((0 : Int) = 0) := Lib.hid rfl
    change bodyPost _ _ _ _ _ (World.setCells w9 (w.heap.size + 1 + 1) 0 [.string x.key, .int .i32 x.nd, .int .i32 x.nu, .int .i64 x.bg.wall, .int .i32 x.bg.logic, .int .i32 x.bg.tag, .string x.anc, .int .i64 u.wall, .int .i32 u.logic, .int .i32 u.tag, .string x.val, .bool x.del])
    have RB := (XR.out.set [.string x.key, .int .i32 x.nd, .int .i32 x.nu, .int .i64 x.bg.wall, .int .i32 x.bg.logic, .int .i32 x.bg.tag, .string x.anc, .int .i64 u.wall, .int .i32 u.logic, .int .i32 u.tag, .string x.val, .bool x.del] rfl)
    have BZ := bel_setCells (b := w.heap.size + 1 + 1) (by omega) [.string x.key, .int .i32 x.nd, .int .i32 x.nu, .int .i64 x.bg.wall, .int .i32 x.bg.logic, .int .i32 x.bg.tag, .string x.anc, .int .i64 u.wall, .int .i32 u.logic, .int .i32 u.tag, .string x.val, .bool x.del] 0 _ B9.out
    have r0 := RB.c 0 _ rfl
    have r1 := RB.c 1 _ rfl
    have r2 := RB.c 2 _ rfl
    have r3 := RB.c 3 _ rfl
    have r4 := RB.c 4 _ rfl
    have r5 := RB.c 5 _ rfl
    have r6 := RB.c 6 _ rfl
    have r7 := RB.c 7 _ rfl
    have r8 := RB.c 8 _ rfl
    have r9 := RB.c 9 _ rfl
    have r10 := RB.c 10 _ rfl
    have r11 := RB.c 11 _ rfl
    generalize World.setCells w9 (w.heap.size + 1 + 1) 0 [.string x.key, .int .i32 x.nd, .int .i32 x.nu, .int .i64 x.bg.wall, .int .i32 x.bg.logic, .int .i32 x.bg.tag, .string x.anc, .int .i64 u.wall, .int .i32 u.logic, .int .i32 u.tag, .string x.val, .bool x.del] = wz at *
    refine bodyPost_ret (v := .tuple #[.agg #[.string x.key, .int .i32 x.nd, .int .i32 x.nu, .int .i64 x.bg.wall, .int .i32 x.bg.logic, .int .i32 x.bg.tag, .string x.anc, .int .i64 u.wall, .int .i32 u.logic, .int .i32 u.tag, .string x.val, .bool x.del], .int .i64 0]) (by simp [results, Try.results12, go_sem, r0, r1, r2, r3, r4, r5, r6, r7, r8, r9, r10, r11]) rfl ⟨?_, BZ⟩
    rw [SEQ.out, EEQ.out]
    all_goals rfl
  · have e1 : (E != 0) = true := by simpa using h0
    have SEQ : Hid (S = ittZ) := Lib.hid (by rw [HN.out, if_neg h0])
    go_upto_region 11 with (fail)
    generalize w9.alloc (.cells #[.int .i64 u.wall, .int .i32 u.logic, .int .i32 u.tag] 25) = wu at *
    have XR := Lib.hid XP.out.c
    have q0 := XR.out.c 0 _ rfl
    have q1 := XR.out.c 1 _ rfl
    have q2 := XR.out.c 2 _ rfl
    have q3 := XR.out.c 3 _ rfl
    have q4 := XR.out.c 4 _ rfl
    have q5 := XR.out.c 5 _ rfl
    have q6 := XR.out.c 6 _ rfl
    have q7 := XR.out.c 7 _ rfl
    have q8 := XR.out.c 8 _ rfl
    have q9 := XR.out.c 9 _ rfl
    have q10 := XR.out.c 10 _ rfl
    have q11 := XR.out.c 11 _ rfl
    have qf := XR.out.fz
    clear h0
    go_wp2_with fail
    obtain ⟨w9, rfl⟩ : ∃ x, x = wu := ⟨_, rfl⟩
    have B9 := BU
    have EEQ : Hid (E = E) := Lib.hid rfl
    change bodyPost _ _ _ _ _ (World.setCells w9 (w.heap.size + 1 + 1) 0 [.string ⟨#[]⟩, .int .i32 0, .int .i32 0, .int .i64 0, .int .i32 0, .int .i32 0, .string ⟨#[]⟩, .int .i64 0, .int .i32 0, .int .i32 0, .string ⟨#[]⟩, .bool false])
    have RB := (XR.out.set [.string ⟨#[]⟩, .int .i32 0, .int .i32 0, .int .i64 0, .int .i32 0, .int .i32 0, .string ⟨#[]⟩, .int .i64 0, .int .i32 0, .int .i32 0, .string ⟨#[]⟩, .bool false] rfl)
    have BZ := bel_setCells (b := w.heap.size + 1 + 1) (by omega) [.string ⟨#[]⟩, .int .i32 0, .int .i32 0, .int .i64 0, .int .i32 0, .int .i32 0, .string ⟨#[]⟩, .int .i64 0, .int .i32 0, .int .i32 0, .string ⟨#[]⟩, .bool false] 0 _ B9.out
    have r0 := RB.c 0 _ rfl
    have r1 := RB.c 1 _ rfl
    have r2 := RB.c 2 _ rfl
    have r3 := RB.c 3 _ rfl
    have r4 := RB.c 4 _ rfl
    have r5 := RB.c 5 _ rfl
    have r6 := RB.c 6 _ rfl
    have r7 := RB.c 7 _ rfl
    have r8 := RB.c 8 _ rfl
    have r9 := RB.c 9 _ rfl
    have r10 := RB.c 10 _ rfl
    have r11 := RB.c 11 _ rfl
    generalize World.setCells w9 (w.heap.size + 1 + 1) 0 [.string ⟨#[]⟩, .int .i32 0, .int .i32 0, .int .i64 0, .int .i32 0, .int .i32 0, .string ⟨#[]⟩, .int .i64 0, .int .i32 0, .int .i32 0, .string ⟨#[]⟩, .bool false] = wz at *
    refine bodyPost_ret (v := .tuple #[.agg #[.string ⟨#[]⟩, .int .i32 0, .int .i32 0, .int .i64 0, .int .i32 0, .int .i32 0, .string ⟨#[]⟩, .int .i64 0, .int .i32 0, .int .i32 0, .string ⟨#[]⟩, .bool false], .int .i64 E]) (by simp [results, Try.results12, go_sem, r0, r1, r2, r3, r4, r5, r6, r7, r8, r9, r10, r11]) rfl ⟨?_, BZ⟩
    rw [SEQ.out, EEQ.out]
    all_goals rfl
end Go.Proofs.Ytgikaglmeeeplaa
