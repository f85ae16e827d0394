/- Walks: spans of keys. -/
import Derived.Test.YtlpdihcgdgkkbaaChecked
import Derived.Test.YtlpdihcgdgkkbaaBase
import Derived.WalkKit
import Derived.WalkLawsBesides
import Derived.WalkSpells
import Derived.Deep.LoopGhost
import Derived.Deep.DeepFit
import Derived.Lib.QuietBelow
import Derived.Test.YtlpdihcgdgkkbaaQTail
import Derived.Outline
import Derived.Handy
import Derived.Lib.Hide
import Derived.BigQuiet
namespace Go.Proofs.Ytlpdihcgdgkkbaa
open Go.RowKit Go.St
set_option linter.unusedVariables false
set_option linter.unusedSimpArgs false
set_option maxRecDepth 100000

/-- One key before another; a span empty; a span with a key. -/
def klt (a b : ByteArray) : Bool := Op.bytesLess a.toList b.toList
def sEmp (f t : ByteArray) : Bool := !t.toList.isEmpty && (klt t f || t.toList == f.toList)
def sHas (f t k : ByteArray) : Bool := !klt k f && (t.toList.isEmpty || klt k t)

set_option maxHeartbeats 400000 in
theorem empty_any (f t : ByteArray) (w : World) : Calls Try.prog 48 #[.agg #[.string f, .string t]] w fun e w' => e = .returned (.bool (sEmp f t)) ∧ Below w.heap.size w w' := by
  go_enter Try.func48, Try.ntmps48
  go_wp2_with fail
  all_goals
    go_ret
    refine ⟨ret_bool ?_, (Below.refl _ _).alloc (Nat.le_refl _) _⟩
    simp [sEmp, klt, *]

set_option maxHeartbeats 400000 in
theorem has21_any (f t k : ByteArray) (w : World) : Calls Try.prog 49 #[.agg #[.string f, .string t], .string k] w fun e w' => e = .returned (.bool (sHas f t k)) ∧ Below w.heap.size w w' := by
  go_enter Try.func49, Try.ntmps49
  go_wp2_with fail
  all_goals
    go_ret
    refine ⟨ret_bool ?_, (Below.refl _ _).alloc (Nat.le_refl _) _⟩
    simp [sHas, klt, *]

def kmax (a b : ByteArray) : ByteArray := if klt a b then b else a
theorem run_kmax (a b : ByteArray) (w : World) : (Builtin.max_ #[9, 9] 9 #[.string a, .string b]).run Try.prog w = .ok (.string (kmax a b)) w := by
  cases h : Op.bytesLess a.toList b.toList <;> simp [Builtin.max_, Builtin.max2, kmax, klt, Op.stringOp, asBool, h]
/-- What two spans have in common. -/
def meetT (t1 t2 : ByteArray) : ByteArray := if t1.toList.isEmpty || !t2.toList.isEmpty && klt t2 t1 then t2 else t1
def meetE (f1 t1 f2 t2 : ByteArray) : Bool := sEmp (kmax f1 f2) (meetT t1 t2)
def meetV (f1 t1 f2 t2 : ByteArray) : Value := if meetE f1 t1 f2 t2 then .agg #[.string ⟨#[]⟩, .string ⟨#[]⟩] else .agg #[.string (kmax f1 f2), .string (meetT t1 t2)]

theorem mlt1 {a b : List UInt8} {X : Bool} (h : ¬a = []) (k : a.isEmpty = true ∨ (!b.isEmpty) = true ∧ X = true) : X = true := by
  rcases k with k | k
  · exact absurd (List.isEmpty_iff.1 k) h
  · exact k.2
theorem mlt2 {a b : List UInt8} {X : Bool} (h : ¬b = []) (k : a.isEmpty = false ∧ ((!b.isEmpty) = false ∨ X = false)) : X = false := by
  rcases k.2 with k | k
  · exact absurd (List.isEmpty_iff.1 (by simpa using k)) h
  · exact k
set_option maxHeartbeats 1600000 in
theorem meet_any (f1 t1 f2 t2 : ByteArray) (w : World) : Calls Try.prog 44 #[.agg #[.string f1, .string t1], .agg #[.string f2, .string t2]] w fun e w' => e = .returned (.tuple #[meetV f1 t1 f2 t2, .bool !meetE f1 t1 f2 t2]) ∧ Below w.heap.size w w' := by
  have hm := run_kmax f1 f2
  have he := fun t W => empty_any (kmax f1 f2) t W
  have HE := Lib.hid he
  clear he
  have e2 : meetV f1 t1 f2 t2 = if sEmp (kmax f1 f2) (meetT t1 t2) then .agg #[.string ⟨#[]⟩, .string ⟨#[]⟩] else .agg #[.string (kmax f1 f2), .string (meetT t1 t2)] := rfl
  have e3 : meetE f1 t1 f2 t2 = sEmp (kmax f1 f2) (meetT t1 t2) := rfl
  rw [e2, e3]
  clear e2 e3
  generalize kmax f1 f2 = f at *
  obtain ⟨t, ht⟩ : ∃ t, t = meetT t1 t2 := ⟨_, rfl⟩
  rw [← ht]
  obtain ⟨q, hq⟩ : ∃ q, q = sEmp f t := ⟨_, rfl⟩
  rw [← hq]
  have HQ := Lib.hid hq; clear hq
  unfold meetT klt at ht
  have HT := Lib.hid ht
  clear ht
  go_enter Try.func44, Try.ntmps44
  go_wp2_with fail
  all_goals first | exact absurd (List.isEmpty_iff.1 (by assumption : t1.toList.isEmpty = true)) (by assumption) | skip
  all_goals
    first | have hz := mlt1 (by assumption : ¬t1.toList = []) (by assumption : t1.toList.isEmpty = true ∨ (!t2.toList.isEmpty) = true ∧ Op.bytesLess t2.toList t1.toList = true) | have hz := mlt2 (by assumption : ¬t2.toList = []) (by assumption : t1.toList.isEmpty = false ∧ ((!t2.toList.isEmpty) = false ∨ Op.bytesLess t2.toList t1.toList = false)) | skip
    have ht := HT.out
    simp [*] at ht
    subst ht
    refine (HE.out _ _).mono ?_
    rintro e w1 ⟨rfl, hb1⟩
    have hs1 := hb1.size
    obtain ⟨hc1, hf1⟩ := bcell hb1
    simp at hs1
    have B1 : Hid (Below w.heap.size w w1) := Below.go (by go_grown) hb1 (by go_size)
    clear hb1
    have hq := HQ.out
    rw [← hq]
    clear hq
    have hz1 : w.heap.size + 1 + 1 < w1.heap.size := by omega
    cases q
    · go_wp2
      first
        | (refine bodyPost_ret (v := .tuple #[.agg #[.string f, .string t], .bool true]) (by simp [results, Try.results44, go_sem, hc1]) rfl ⟨rfl, ?_⟩)
        | (refine bodyPost_ret (v := .tuple #[.agg #[.string f, .string t1], .bool true]) (by simp [results, Try.results44, go_sem, hc1]) rfl ⟨rfl, ?_⟩)
        | (refine bodyPost_ret (v := .tuple #[.agg #[.string f, .string t2], .bool true]) (by simp [results, Try.results44, go_sem, hc1]) rfl ⟨rfl, ?_⟩)
      have hb := B1.out
      go_grown
    · go_wp2
      (refine bodyPost_ret (v := .tuple #[.agg #[.string ⟨#[]⟩, .string ⟨#[]⟩], .bool false]) (by simp [results, Try.results44, go_sem, hc1]) rfl ⟨rfl, ?_⟩)
      have hb := B1.out
      go_grown
end Go.Proofs.Ytlpdihcgdgkkbaa
