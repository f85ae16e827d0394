/- append(own row without room, make([]byte, m)...): a new row: the old, m zeros. -/
import Derived.Test.YtlpdihcgdgkkbaaBase
import Derived.Test.YtlpdihcgdgkkbaaBb
import Derived.Lib.AppendZeros
namespace Go.St
open Go.RowKit

theorem zero_cells1 (z : Value) (m : Nat) : Builtin.zeroCells #[z] m = Array.replicate m z := by
  unfold Builtin.zeroCells
  apply Array.ext
  · simp
  · intro i h1 h2
    simp [Nat.mod_one]

theorem run_append_zeros {P : Program} {t e tn : TypeId} {kn : IntKind} {bytes : Nat} (E : STy P t e 1 bytes (.int .u8 0)) (htn : P.underlying tn = some (.int kn)) (w : World) (ty base : Nat) {g n m : Nat} {xs : List Value}
    (hown : w.ownsRow base e 1 (.slice (some ⟨g, 0, none⟩) n n) n xs) (h0 : 0 < m) (h63 : n + m ≤ 1099511627776) (hb1 : bytes = 1) (hbase : base ≤ w.heap.size) (k : IntKind) :
    ∃ cap w', (Builtin.append_ #[t, tn] ty #[.slice (some ⟨g, 0, none⟩) n n, .int k (m : Int)]).run P w = .ok (.slice (some ⟨w.heap.size, 0, none⟩) (n + m) cap) w' ∧ w'.ownsRow base e 1 (.slice (some ⟨w.heap.size, 0, none⟩) (n + m) cap) (n + m) (xs ++ List.replicate m (.int .u8 0)) ∧ w.grownBy w' none ∧ n + m ≤ cap := by
  obtain ⟨i, hi, hz, hs, hy⟩ := E.hi
  have hby : i.bytes = 1 := by omega
  have holds := hown.cells (g := g) rfl
  have hfo := run_firstCells_some (P := P) w.drew i.size n ⟨g, 0, none⟩ n n xs (by rw [hs]; exact hown.1) (by simpa using holds)
  have hn : ¬ (n + m ≤ n) := by omega
  have hw : IntKind.i64.wrap (m : Int) = m := by rw [IntKind.wrap_i64]; omega
  have hneg : ¬ ((m : Int) < 0) := by omega
  have h63' : ¬ (9223372036854775807 < ((n : Int) + (m : Int))) := by omega
  have hfit := growslice_fits (need := n + m) (old := n) (bytes := 1) (by omega) (by omega)
  have h48' : ¬ (281474976710656 < Builtin.nextslicecap (n + m) n * i.bytes) := by rw [hby]; omega
  have h48i : ¬ (281474976710656 < (m : Int) * (i.bytes : Int)) := by rw [hby]; omega
  have hm0 : m ≠ 0 := by omega
  have hi1 : i.size ≠ 0 := by omega
  have hzc : Value.cells (.int .u8 0) = #[.int .u8 0] := rfl
  have hge := grownCap_ge w (n + m) n e
  have hcm : grownCap w (n + m) n e ≤ maxLen := grownCap_le_maxLen w (n + m) n e (by unfold maxLen; omega)
  refine ⟨grownCap w (n + m) n e, w.drew.alloc (.cells (xs.toArray ++ Array.replicate m (.int .u8 0) ++ Array.replicate (grownCap w (n + m) n e - (n + m)) (.int .u8 0)) e), ?_, ?_, ?_, hge⟩
  · simp [Builtin.append_, run_underlying E.ht, run_underlying htn, sizeOf, typeInfo, zeroValue, hi, hz, asInt, asIntOf, hw, hn, hm0, hi1, hneg, h63', h48', h48i, Question.forced, hfo, newRow, grownCap, hzc, zero_cells1]
    intro h
    rcases Nat.mul_eq_zero.1 h with h | h <;> omega
  · refine ⟨by simp [hown.1], .inr ⟨w.heap.size, _, _, rfl, hbase, heap_alloc_new w.drew _, hge, hcm, ?_, ?_⟩⟩
    · have h1 := hown.1
      simp only [Array.size_append, List.size_toArray, Array.size_replicate]
      omega
    · have h1 := hown.1
      simp only [Array.toList_append, Array.toList_replicate, Nat.mul_one]
      rw [List.take_left' (by simp; omega)]
  · exact ⟨rfl, rfl, rfl, by simp, fun k hk _ => heap_alloc_old w.drew _ hk⟩
end Go.St
