/- Walks: a net that is not there, or that nobody made. -/
import Derived.Test.YtlpdihcgdgkkbaaChecked
import Derived.Test.YtlpdihcgdgkkbaaBase
import Derived.Test.YtlpdihcgdgkkbaaQTail
import Derived.WalkKit
import Derived.WalkLawsBesides
import Derived.WalkSpells
import Derived.Deep.LoopGhost
import Derived.Deep.DeepFit
import Derived.Lib.QuietBelow
import Derived.Outline
import Derived.Handy
import Derived.Lib.Hide
import Derived.BigQuiet
namespace Go.Proofs.Ytlpdihcgdgkkbaa
open Go.RowKit Go.St
set_option linter.unusedVariables false
set_option linter.unusedSimpArgs false
set_option maxRecDepth 100000

/-- No net: nil, or one whose number of nodes is 0. -/
def NoNet (w : World) (p : Option Addr) : Prop := p = none ∨ ∃ b, p = some ⟨b, 0, none⟩ ∧ b < w.heap.size ∧ w.cell? ⟨b, 0, none⟩ = some (.int .i64 0)
theorem NoNet.next {w w' : World} {p : Option Addr} (h : NoNet w p) (hb : Below w.heap.size w w') : NoNet w' p := by
  rcases h with h | ⟨b, h1, h2, h3⟩
  · exact .inl h
  · exact .inr ⟨b, h1, Nat.lt_of_lt_of_le h2 hb.size, (hb.cell (p := ⟨b, 0, none⟩) h2).trans h3⟩

theorem snone_no (p : Option Addr) (w : World) (h : NoNet w p) : Calls Try.prog 73 #[.pointer p] w fun e w' => e = .returned (.bool true) ∧ w = w' := by
  rcases h with rfl | ⟨b, rfl, h2, h3⟩
  · go_enter Try.func73, Try.ntmps73
    go_wp2
    go_ret
    exact ⟨rfl, rfl⟩
  · go_enter Try.func73, Try.ntmps73
    go_wp2
    go_ret
    exact ⟨rfl, rfl⟩
theorem ssend_no (p : Option Addr) (x y : Int) (v : Value) (w : World) (h : NoNet w p) : Calls Try.prog 35 #[.pointer p, .int .i64 x, .int .i64 y, v] w fun e w' => e = .returned (.tuple #[.int .i64 0, .int .i64 1]) ∧ w = w' := by
  have H := Lib.hid (snone_no p w h); clear h
  go_enter Try.func35, Try.ntmps35
  go_wp2_with fail
  refine H.out.mono ?_
  rintro e w' ⟨rfl, rfl⟩
  go_wp2
  go_ret2
  exact ⟨rfl, rfl⟩
theorem sfind_no (p : Option Addr) (x : Int) (w : World) (h : NoNet w p) : Calls Try.prog 75 #[.pointer p, .int .i64 x] w fun e w' => e = .returned (.tuple #[.int .i64 0, .int .i64 1]) ∧ Below w.heap.size w w' := by
  have H := Lib.hid (fun W (hb : Below w.heap.size w W) => snone_no p W (h.next hb)); clear h
  go_enter Try.func75, Try.ntmps75
  go_wp2_with fail
  refine (H.out _ (by go_grown)).mono ?_
  rintro e w' ⟨rfl, rfl⟩
  go_wp2
  go_ret2
  exact ⟨rfl, by go_grown⟩
theorem stwice_no (p : Option Addr) (x : Int) (w : World) (h : NoNet w p) : Calls Try.prog 36 #[.pointer p, .int .i64 x] w fun e w' => e = .returned (.tuple #[.int .i64 0, .int .i64 1]) ∧ Below w.heap.size w w' := by
  have H := Lib.hid (sfind_no p x w h); clear h
  go_enter Try.func36, Try.ntmps36
  go_wp2_with fail
  refine H.out.mono ?_
  rintro e w' ⟨rfl, hb⟩
  have HB := Lib.hid hb; clear hb
  go_wp2
  go_ret2
  exact ⟨rfl, HB.out⟩
theorem sdeliver_no (p : Option Addr) (x : Int) (w : World) (h : NoNet w p) : Calls Try.prog 37 #[.pointer p, .int .i64 x] w fun e w' => e = .returned (.tuple #[.agg #[.int .i64 0, .int .i64 0, .int .i64 0, .slice none 0 0], .int .i64 1]) ∧ Below w.heap.size w w' := by
  have H := Lib.hid (fun W (hb : Below w.heap.size w W) => sfind_no p x W (h.next hb)); clear h
  go_enter Try.func37, Try.ntmps37
  go_wp2_with fail
  refine (H.out _ (by go_grown)).mono ?_
  rintro e w1 ⟨rfl, hb⟩
  obtain ⟨hcw1, hfw1⟩ := bcell hb
  have HBw1 : Hid (Below w.heap.size w w1) := Below.go (by go_grown) hb (by go_size)
  have z0 : w.heap.size < w1.heap.size := by have := hb.size; simp at this; omega
  clear hb
  go_wp2
  refine bodyPost_ret (v := .tuple #[.agg #[.int .i64 0, .int .i64 0, .int .i64 0, .slice none 0 0], .int .i64 1]) (by simp [results, Try.results37, go_sem, *]) rfl ⟨rfl, ?_⟩
  have hb := HBw1.out
  have hbs := hb.size
  go_grown
theorem sdrop_no (p : Option Addr) (x : Int) (w : World) (h : NoNet w p) : Calls Try.prog 38 #[.pointer p, .int .i64 x] w fun e w' => e = .returned (.int .i64 1) ∧ Below w.heap.size w w' := by
  have H := Lib.hid (sdeliver_no p x w h); clear h
  go_enter Try.func38, Try.ntmps38
  go_wp2_with fail
  refine H.out.mono ?_
  rintro e w' ⟨rfl, hb⟩
  have HB := Lib.hid hb; clear hb
  go_wp2
  go_ret
  first
    | exact ⟨rfl, HB.out⟩
    | (have hb := HB.out; have hbs := hb.size; exact ⟨rfl, by go_grown⟩)
theorem sflight_no (p : Option Addr) (w : World) (h : NoNet w p) : Calls Try.prog 52 #[.pointer p] w fun e w' => e = .returned (.slice none 0 0) ∧ w = w' := by
  have H := Lib.hid (snone_no p w h); clear h
  go_enter Try.func52, Try.ntmps52
  go_wp2_with fail
  refine H.out.mono ?_
  rintro e w' ⟨rfl, rfl⟩
  go_wp2
  go_ret
  exact ⟨rfl, rfl⟩
end Go.Proofs.Ytlpdihcgdgkkbaa
