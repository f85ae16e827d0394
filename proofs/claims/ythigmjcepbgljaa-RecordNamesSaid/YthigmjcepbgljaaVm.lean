/- Walks: a fresh record; answers told alike; the law's own stamp. -/
import Derived.Test.YthigmjcepbgljaaWg
namespace Go.Proofs.Ythigmjcepbgljaa
open Go.RowKit Go.St
set_option linter.unusedVariables false
set_option linter.unusedSimpArgs false
set_option maxRecDepth 100000
theorem fresh_any (nd nu wall : Int) (w : World) :
    Calls Try.prog 37 #[.agg #[.int .i32 nd, .int .i32 nu], .int .i64 wall] w (OutR (freshO nd nu wall) (freshE nd nu wall) w) := by
  have h1 := fun W => reccheck_any (frR nd nu wall) rfl 0 W Rd.nil (Nat.zero_le _)
  have hO : freshO nd nu wall = if freshE nd nu wall = 0 then frR nd nu wall else zeR := rfl
  have hE : freshE nd nu wall = if chkR (frR nd nu wall) ≠ 0 then 2 else 0 := rfl
  generalize freshE nd nu wall = E at *
  generalize freshO nd nu wall = O at *
  generalize chkR (frR nd nu wall) = ve at *
  have H1 : Hid (∀ W, Calls Try.prog _ #[.agg #[.int .i32 nd, .int .i32 nu, .int .u8 1, .int .i64 0, .int .i32 0, .int .i32 0, .slice none 0 0, .int .i64 wall, .int .i64 0, .int .i32 0, .int .i32 0]] W (fun e w' => e = .returned (.int .i64 ve) ∧ Below W.heap.size W w')) := Lib.hid h1
  clear h1
  by_cases hv : ve = 0
  · subst hv
    rw [if_neg (fun h => h rfl)] at hE
    subst hE
    rw [if_pos rfl] at hO
    subst hO
    go_enter Try.func37, Try.ntmps37
    go_wp2_with fail
    refine (H1.out _).mono ?_
    rintro e w1 ⟨rfl, hb⟩
    have HB1 : Hid (Below w.heap.size w w1) := Below.go (by go_grown) hb (by go_size)
    have Y1 := ((BxQ.new (w.alloc (.cells #[.int .i32 nd, .int .i32 nu] 24)) ⟨0, 0, 0, ⟨0, 0, 0⟩, none, 0, 0, [], 0, ⟨0, 0, 0⟩⟩ 30).alloc _).next hb
    have X1 := (BxQ.new ((w.alloc (.cells #[.int .i32 nd, .int .i32 nu] 24)).alloc (.cells #[.int .i32 0, .int .i32 0, .int .u8 0, .int .i64 0, .int .i32 0, .int .i32 0, .slice none 0 0, .int .i64 0, .int .i64 0, .int .i32 0, .int .i32 0] 30)) ⟨nd, nu, 1, ⟨0, 0, 0⟩, none, 0, 0, [], wall, ⟨0, 0, 0⟩⟩ 30).next hb
    rw [World.size_alloc] at Y1
    rw [World.size_alloc, World.size_alloc] at X1
    clear hb H1
    obtain ⟨y0, y1, y2, y3, y4, y5, y6, y7, y8, y9, y10, y11, y12⟩ := Y1
    dsimp only at y2 y3 y4 y5 y6 y7 y8 y9 y10 y11 y12
    obtain ⟨x0, x1, x2, x3, x4, x5, x6, x7, x8, x9, x10, x11, x12⟩ := X1
    dsimp only at x2 x3 x4 x5 x6 x7 x8 x9 x10 x11 x12
    have far0 := far_store (p := w.heap.size + 1) (q := w.heap.size + 1 + 1) (by omega)
    go_wp2
    refine bodyPost_ret (v := .tuple #[.agg #[.int .i32 nd, .int .i32 nu, .int .u8 1, .int .i64 0, .int .i32 0, .int .i32 0, .slice none 0 0, .int .i64 wall, .int .i64 0, .int .i32 0, .int .i32 0], .int .i64 0]) (by simp [results, Try.results37, go_sem, *]) rfl ⟨none, 0, rfl, RdN.nil, ?_⟩
    have hb := HB1.out
    have hbs := hb.size
    go_grown
  · rw [if_pos hv] at hE
    subst hE
    rw [if_neg (by decide)] at hO
    subst hO
    have hne : (ve == 0) = false := by simpa using hv
    have hne2 : (ve != 0) = true := by rw [bne, hne]; rfl
    clear hv
    go_enter Try.func37, Try.ntmps37
    go_wp2_with fail
    refine (H1.out _).mono ?_
    rintro e w1 ⟨rfl, hb⟩
    have HB1 : Hid (Below w.heap.size w w1) := Below.go (by go_grown) hb (by go_size)
    have Y1 := ((BxQ.new (w.alloc (.cells #[.int .i32 nd, .int .i32 nu] 24)) ⟨0, 0, 0, ⟨0, 0, 0⟩, none, 0, 0, [], 0, ⟨0, 0, 0⟩⟩ 30).alloc (.cells #[.int .i32 nd, .int .i32 nu, .int .u8 1, .int .i64 0, .int .i32 0, .int .i32 0, .slice none 0 0, .int .i64 wall, .int .i64 0, .int .i32 0, .int .i32 0] 30)).next hb
    rw [World.size_alloc] at Y1
    clear hb H1
    obtain ⟨y0, y1, y2, y3, y4, y5, y6, y7, y8, y9, y10, y11, y12⟩ := Y1
    dsimp only at y2 y3 y4 y5 y6 y7 y8 y9 y10 y11 y12
    go_wp2
    refine bodyPost_ret (v := .tuple #[.agg #[.int .i32 0, .int .i32 0, .int .u8 0, .int .i64 0, .int .i32 0, .int .i32 0, .slice none 0 0, .int .i64 0, .int .i64 0, .int .i32 0, .int .i32 0], .int .i64 2]) (by simp [results, Try.results37, go_sem, *]) rfl ⟨none, 0, rfl, RdN.nil, ?_⟩
    have hb := HB1.out
    have hbs := hb.size
    go_grown
theorem rfresh_any (nd nu wall : Int) (w : World) :
    Calls Try.prog 49 #[.agg #[.int .i32 nd, .int .i32 nu], .int .i64 wall] w (OutR (freshO nd nu wall) (freshE nd nu wall) w) := by
  have h1 := fun W => rreccheck_any (frR nd nu wall) rfl 0 W Rd.nil (Nat.zero_le _)
  have hO : freshO nd nu wall = if freshE nd nu wall = 0 then frR nd nu wall else zeR := rfl
  have hE : freshE nd nu wall = if chkR (frR nd nu wall) ≠ 0 then 2 else 0 := rfl
  generalize freshE nd nu wall = E at *
  generalize freshO nd nu wall = O at *
  generalize chkR (frR nd nu wall) = ve at *
  have H1 : Hid (∀ W, Calls Try.prog _ #[.agg #[.int .i32 nd, .int .i32 nu, .int .u8 1, .int .i64 0, .int .i32 0, .int .i32 0, .slice none 0 0, .int .i64 wall, .int .i64 0, .int .i32 0, .int .i32 0]] W (fun e w' => e = .returned (.int .i64 ve) ∧ Below W.heap.size W w')) := Lib.hid h1
  clear h1
  by_cases hv : ve = 0
  · subst hv
    rw [if_neg (fun h => h rfl)] at hE
    subst hE
    rw [if_pos rfl] at hO
    subst hO
    go_enter Try.func49, Try.ntmps49
    go_wp2_with fail
    refine (H1.out _).mono ?_
    rintro e w1 ⟨rfl, hb⟩
    have HB1 : Hid (Below w.heap.size w w1) := Below.go (by go_grown) hb (by go_size)
    have Y1 := ((BxQ.new (w.alloc (.cells #[.int .i32 nd, .int .i32 nu] 24)) ⟨0, 0, 0, ⟨0, 0, 0⟩, none, 0, 0, [], 0, ⟨0, 0, 0⟩⟩ 30).alloc _).next hb
    have X1 := (BxQ.new ((w.alloc (.cells #[.int .i32 nd, .int .i32 nu] 24)).alloc (.cells #[.int .i32 0, .int .i32 0, .int .u8 0, .int .i64 0, .int .i32 0, .int .i32 0, .slice none 0 0, .int .i64 0, .int .i64 0, .int .i32 0, .int .i32 0] 30)) ⟨nd, nu, 1, ⟨0, 0, 0⟩, none, 0, 0, [], wall, ⟨0, 0, 0⟩⟩ 30).next hb
    rw [World.size_alloc] at Y1
    rw [World.size_alloc, World.size_alloc] at X1
    clear hb H1
    obtain ⟨y0, y1, y2, y3, y4, y5, y6, y7, y8, y9, y10, y11, y12⟩ := Y1
    dsimp only at y2 y3 y4 y5 y6 y7 y8 y9 y10 y11 y12
    obtain ⟨x0, x1, x2, x3, x4, x5, x6, x7, x8, x9, x10, x11, x12⟩ := X1
    dsimp only at x2 x3 x4 x5 x6 x7 x8 x9 x10 x11 x12
    have far0 := far_store (p := w.heap.size + 1) (q := w.heap.size + 1 + 1) (by omega)
    go_wp2
    refine bodyPost_ret (v := .tuple #[.agg #[.int .i32 nd, .int .i32 nu, .int .u8 1, .int .i64 0, .int .i32 0, .int .i32 0, .slice none 0 0, .int .i64 wall, .int .i64 0, .int .i32 0, .int .i32 0], .int .i64 0]) (by simp [results, Try.results49, go_sem, *]) rfl ⟨none, 0, rfl, RdN.nil, ?_⟩
    have hb := HB1.out
    have hbs := hb.size
    go_grown
  · rw [if_pos hv] at hE
    subst hE
    rw [if_neg (by decide)] at hO
    subst hO
    have hne : (ve == 0) = false := by simpa using hv
    have hne2 : (ve != 0) = true := by rw [bne, hne]; rfl
    clear hv
    go_enter Try.func49, Try.ntmps49
    go_wp2_with fail
    refine (H1.out _).mono ?_
    rintro e w1 ⟨rfl, hb⟩
    have HB1 : Hid (Below w.heap.size w w1) := Below.go (by go_grown) hb (by go_size)
    have Y1 := ((BxQ.new (w.alloc (.cells #[.int .i32 nd, .int .i32 nu] 24)) ⟨0, 0, 0, ⟨0, 0, 0⟩, none, 0, 0, [], 0, ⟨0, 0, 0⟩⟩ 30).alloc (.cells #[.int .i32 nd, .int .i32 nu, .int .u8 1, .int .i64 0, .int .i32 0, .int .i32 0, .slice none 0 0, .int .i64 wall, .int .i64 0, .int .i32 0, .int .i32 0] 30)).next hb
    rw [World.size_alloc] at Y1
    clear hb H1
    obtain ⟨y0, y1, y2, y3, y4, y5, y6, y7, y8, y9, y10, y11, y12⟩ := Y1
    dsimp only at y2 y3 y4 y5 y6 y7 y8 y9 y10 y11 y12
    go_wp2
    refine bodyPost_ret (v := .tuple #[.agg #[.int .i32 0, .int .i32 0, .int .u8 0, .int .i64 0, .int .i32 0, .int .i32 0, .slice none 0 0, .int .i64 0, .int .i64 0, .int .i32 0, .int .i32 0], .int .i64 2]) (by simp [results, Try.results49, go_sem, *]) rfl ⟨none, 0, rfl, RdN.nil, ?_⟩
    have hb := HB1.out
    have hbs := hb.size
    go_grown
/-- Two answers that are alike. -/
theorem told_yes (r : Rec) (err : Int) (A2 : Option Addr) (c2 : Nat) (hl : fit r) (hn : r.n ≤ 9223372036854775807) (B : Nat) (w : World) (hr : Rd w B r.A (sv r.l)) (hr2 : Rd w B A2 (sv r.l)) (hB : B ≤ w.heap.size) :
    Calls Try.prog 44 #[r.v, .int .i64 err, (r.to A2 c2).v, .int .i64 err] w fun e w' => e = .returned (.bool true) ∧ Below w.heap.size w w' := by
  have H := Lib.hid (fun W (h : Below w.heap.size w W) => rsame_yes r A2 c2 hl hn B W (hr.below (h.mono hB)) (hr2.below (h.mono hB)) (Nat.le_trans hB h.size))
  clear hr hr2 hl
  obtain ⟨nd, nu, st, ⟨aw, al, ag⟩, A, n, c, l, beat, ⟨pw, pl, pg⟩⟩ := r
  unfold Rec.to Rec.v at *
  simp only at H ⊢
  go_enter Try.func44, Try.ntmps44
  go_wp2_with fail
  refine (H.out _ (by go_grown)).mono ?_
  rintro e w1 ⟨rfl, hb⟩
  obtain ⟨hcw1, hfw1⟩ := bcell hb
  have HBw1 : Hid (Below w.heap.size w w1) := Below.go (by go_grown) hb (by go_size)
  have hzw10 : w.heap.size < w1.heap.size := by have := hb.size; (try simp at this); omega
  have hzw11 : w.heap.size + 1 < w1.heap.size := by have := hb.size; (try simp at this); omega
  have HEw1 := Lib.hid hb
  clear hb
  go_wp2
  go_ret
  exact ⟨rfl, HBw1.out⟩
theorem st22_any (x y z : Int) (w : World) : Calls Try.prog 38 #[.int .i64 x, .int .i32 y, .int .i32 z] w fun e w' => e = .returned (.agg #[.int .i64 x, .int .i32 y, .int .i32 z]) ∧ Below w.heap.size w w' := by
  go_enter Try.func38, Try.ntmps38
  go_wp2
  refine bodyPost_ret (v := .agg #[.int .i64 x, .int .i32 y, .int .i32 z]) (by simp [results, Try.results38, go_sem]) rfl ⟨rfl, by go_grown⟩
end Go.Proofs.Ythigmjcepbgljaa
