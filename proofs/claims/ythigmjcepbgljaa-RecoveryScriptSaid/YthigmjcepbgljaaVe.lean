/- Walks: the document's record with keys of its own. -/
import Derived.Test.YthigmjcepbgljaaVd
import Derived.Deep.RegionLaw
namespace Go.Proofs.Ythigmjcepbgljaa
open Go.RowKit Go.St
set_option linter.unusedVariables false
set_option linter.unusedSimpArgs false
set_option maxRecDepth 100000

set_option maxHeartbeats 3200000 in
theorem with_any (r : Rec) (s : Int) (a : Stp) (A2 : Option Addr) (n2 c2 : Nat) (l2 : List ByteArray) (hl : l2.length = n2) (hn : n2 * 16 ≤ 140737488355328) (B : Nat) (w : World) (hr : Rd w B A2 (sv l2)) (hB : B ≤ w.heap.size) :
    Calls Try.prog 73 #[r.v, .int .u8 s, stv a, .slice A2 n2 c2] w (OutQ (endR r s a n2 l2) w) := by
  have HR := Lib.hid (fun W (h : Below w.heap.size w W) => (hr.below (h.mono hB)))
  have HL := Lib.hid hl
  clear hr hl
  obtain ⟨nd, nu, st, ⟨aw, al, ag⟩, A, n, c, l, beat, ⟨pw, pl, pg⟩⟩ := r
  obtain ⟨mw, ml, mg⟩ := a
  unfold Rec.v stv endR
  simp only
  go_enter Try.func73, Try.ntmps73
  go_wp2
  go_region_law ((refine wp_app sty55 (.tmp 12) (.tmp 13) (by rfl) (w.heap.size + 1 + 1 + 1) (World.ownsRow_nil _ _ _ _) (by rfl) n2 c2 (HR.out _ (by first | assumption | (refine Below.drew ?_; go_grown; done) | (go_grown; done))) (by rfl) (by rw [sv_length, HL.out]; omega) (sv_one _) (by unfold maxLen; omega) (by omega) (by simp; try omega) ?_; intro v1 w4 own4 gr4 nil4 at4; obtain ⟨A', c', rfl, hrn4⟩ := own_rdn (own_eq own4 (Nat.zero_add n2) (List.nil_append _)); have hb4 := (Below.refl _ _).grown gr4 (Nat.le_refl _) (by simp [Value.ownBlock]); have hrn5 : RdN w4 (w.heap.size + 1 + 1 + 1) A' (sv l2) := hrn4; have k9 : Below w.heap.size w w4 := Below.go (by first | assumption | (refine Below.drew ?_; go_grown; done) | (go_grown; done)) hb4 (by go_size); have k9s := k9.size; have k0 := kept hb4 (p := ⟨w.heap.size + 1, 0, none⟩) (v := .int .i64 mw) (by go_simp); have k1 := kept hb4 (p := ⟨w.heap.size + 1, 1, none⟩) (v := .int .i32 ml) (by go_simp); have k2 := kept hb4 (p := ⟨w.heap.size + 1, 2, none⟩) (v := .int .i32 mg) (by go_simp); obtain ⟨hc4, hf4⟩ := bcell hb4; have z0 : w.heap.size < w4.heap.size := (by have hz4 := hb4.size; simp at hz4; omega); have z1 : w.heap.size + 1 < w4.heap.size := (by have hz4 := hb4.size; simp at hz4; omega); have z2 : w.heap.size + 1 + 1 < w4.heap.size := (by have hz4 := hb4.size; simp at hz4; omega)))
  all_goals
    have X4 : BxQ w4 w.heap.size ⟨nd, nu, st, ⟨aw, al, ag⟩, A, n, c, l, beat, ⟨pw, pl, pg⟩⟩ := by
      first
        | exact ((((BxQ.new w ⟨nd, nu, st, ⟨aw, al, ag⟩, A, n, c, l, beat, ⟨pw, pl, pg⟩⟩ 30).next ((Below.refl _ _).alloc (Nat.le_refl _) _)).next ((Below.refl _ _).alloc (Nat.le_refl _) _)).next (Below.drew (Below.refl _ _))).next hb4
        | exact (((BxQ.new w ⟨nd, nu, st, ⟨aw, al, ag⟩, A, n, c, l, beat, ⟨pw, pl, pg⟩⟩ 30).next ((Below.refl _ _).alloc (Nat.le_refl _) _)).next ((Below.refl _ _).alloc (Nat.le_refl _) _)).next hb4
    have Y0 := BxQ.new ((w.alloc (.cells #[.int .i32 nd, .int .i32 nu, .int .u8 st, .int .i64 aw, .int .i32 al, .int .i32 ag, .slice A n c, .int .i64 beat, .int .i64 pw, .int .i32 pl, .int .i32 pg] 30)).alloc (.cells #[.int .i64 mw, .int .i32 ml, .int .i32 mg] 27)) ⟨0, 0, 0, ⟨0, 0, 0⟩, none, 0, 0, [], 0, ⟨0, 0, 0⟩⟩ 30
    rw [World.size_alloc, World.size_alloc] at Y0
    have Y4 : BxQ w4 (w.heap.size + 1 + 1) ⟨0, 0, 0, ⟨0, 0, 0⟩, none, 0, 0, [], 0, ⟨0, 0, 0⟩⟩ := by
      first
        | exact (Y0.next (Below.drew (Below.refl _ _))).next hb4
        | exact Y0.next hb4
    clear Y0
    have K5 := Lib.hid (bel_set5 k9 (Nat.le_refl _) s ⟨mw, ml, mg⟩ A' n2 c')
    have HRN := Lib.hid (hrn5.set5 (b := w.heap.size) (by omega) s ⟨mw, ml, mg⟩ A' n2 c')
    have X5 := X4.set5 s ⟨mw, ml, mg⟩ A' n2 c'
    have Y5 := Y4.set5o (b' := w.heap.size) (by omega) s ⟨mw, ml, mg⟩ A' n2 c'
    change Exit.then _ _ _ _ (set5 w4 w.heap.size s ⟨mw, ml, mg⟩ A' n2 c')
    clear hc4 hf4 hb4 k9 k9s k0 k1 k2 z0 z1 z2 X4 Y4 hrn4 hrn5 own4 gr4 nil4 at4
    generalize set5 w4 w.heap.size s ⟨mw, ml, mg⟩ A' n2 c' = w5 at *
    obtain ⟨x0, x1, x2, x3, x4, x5, x6, x7, x8, x9, x10, x11, x12⟩ := X5
    obtain ⟨y0, y1, y2, y3, y4, y5, y6, y7, y8, y9, y10, y11, y12⟩ := Y5
    dsimp only at x2 x3 x4 x5 x6 x7 x8 x9 x10 x11 x12 y2 y3 y4 y5 y6 y7 y8 y9 y10 y11 y12
    go_wp2
    refine bodyPost_ret (v := .agg #[.int .i32 nd, .int .i32 nu, .int .u8 s, .int .i64 mw, .int .i32 ml, .int .i32 mg, .slice A' n2 c', .int .i64 beat, .int .i64 pw, .int .i32 pl, .int .i32 pg]) (by simp [results, Try.results73, go_sem, *]) rfl ⟨A', c', rfl, ?_, ?_⟩
    · refine RdN.mono (B := w.heap.size + 1 + 1 + 1) ?_ (by omega)
      repeat (with_reducible (first | exact HRN.out | refine RdN.set ?_ (by first | (simp; done) | (simp; omega) | omega) _ | refine RdN.alloc ?_ _))
    · have hb := K5.out
      have hbs := hb.size
      go_grown
end Go.Proofs.Ythigmjcepbgljaa
