/- Walks: whether entries are in order; whether they are a block. -/
import Derived.Test.YtjhgbdeadkoegaaEc
namespace Go.Proofs.Ytjhgbdeadkoegaa
open Go.RowKit Go.St Go.Maps
set_option linter.unusedVariables false
set_option linter.unusedSimpArgs false
set_option maxRecDepth 100000

/-- An entry where it lies, in a list that reads. -/
structure EnI (w : World) (b o : Nat) (c : Ent) : Prop where
  c0 : w.cell? ⟨b, o, none⟩ = some (.string c.key)
  c1 : w.cell? ⟨b, o + 1, none⟩ = some (.string c.val)
  c2 : w.cell? ⟨b, o + 2, none⟩ = some (.int .i64 c.seq)
  c3 : w.cell? ⟨b, o + 3, none⟩ = some (.bool c.del)
theorem EnI.keep {w w' : World} {b o : Nat} {c : Ent} (h : EnI w b o c) (hk : ∀ p : Addr, p.block = b → w'.cell? p = w.cell? p) : EnI w' b o c :=
  ⟨(hk _ rfl).trans h.c0, (hk _ rfl).trans h.c1, (hk _ rfl).trans h.c2, (hk _ rfl).trans h.c3⟩
theorem EnI.below {B : Nat} {w w' : World} {b o : Nat} {c : Ent} (h : EnI w b o c) (hb : b < B) (h2 : Below B w w') : EnI w' b o c := h.keep fun p hp => h2.cell (by omega)
theorem en_at {w : World} {B : Nat} {A : Option Addr} {l : List Ent} (h : Rd w B A (env l)) {i : Nat} {c : Ent} (hi : l[i]? = some c) : ∃ b off, A = some ⟨b, off, none⟩ ∧ b < B ∧ EnI w b (off + i * 4) c := by
  have hf := env_get hi
  obtain ⟨b, off, e, hb, hc⟩ := h (by
    intro e
    have := hf 0 _ rfl
    rw [e] at this
    cases this)
  have hg : ∀ j v, c.c[j]? = some v → w.cell? ⟨b, off + i * 4 + j, none⟩ = some v := fun j v hv => by
    rw [Nat.add_assoc]; exact hc _ _ (hf j v hv)
  exact ⟨b, off, e, hb, hg 0 _ rfl, hg 1 _ rfl, hg 2 _ rfl, hg 3 _ rfl⟩

set_option maxHeartbeats 1600000 in
theorem rahead_any (x y : Ent) (w : World) : Calls Try.prog 30 #[.agg #[.string x.key, .string x.val, .int .i64 x.seq, .bool x.del], .agg #[.string y.key, .string y.val, .int .i64 y.seq, .bool y.del]] w fun e w' => e = .returned (.bool (ltE x y)) ∧ Below w.heap.size w w' := by
  have B2 : Hid (Below w.heap.size w ((w.alloc (.cells #[.string x.key, .string x.val, .int .i64 x.seq, .bool x.del] 32)).alloc (.cells #[.string y.key, .string y.val, .int .i64 y.seq, .bool y.del] 32))) := Lib.hid (((Below.refl _ _).alloc (Nat.le_refl _) _).alloc (by simp) _)
  cases h1 : Op.bytesLess x.key.toList y.key.toList
  · by_cases h2 : x.key = y.key
    · have e2 : (x.key.toList == y.key.toList) = true := by rw [str_eqB]; exact decide_eq_true h2
      by_cases h3 : y.seq < x.seq
      · have hz : ltE x y = true := by simp [ltE, klt, h2, h3]
        rw [hz]
        clear hz h2
        go_enter Try.func30, Try.ntmps30
        go_wp2_with fail
        go_ret
        exact ⟨rfl, B2.out⟩
      · have hz : ltE x y = false := by unfold ltE klt; rw [h1, decide_eq_false h3, Bool.and_false]; rfl
        rw [hz]
        clear hz h2
        go_enter Try.func30, Try.ntmps30
        go_wp2_with fail
        go_ret
        exact ⟨rfl, B2.out⟩
    · have e2 : (x.key.toList == y.key.toList) = false := by rw [str_eqB]; exact decide_eq_false h2
      have hz : ltE x y = false := by unfold ltE klt; rw [h1, decide_eq_false h2, Bool.false_and]; rfl
      rw [hz]
      clear hz h2
      go_enter Try.func30, Try.ntmps30
      go_wp2_with fail
      go_ret
      exact ⟨rfl, B2.out⟩
  · have hz : ltE x y = true := by unfold ltE klt; rw [h1]; rfl
    rw [hz]
    clear hz
    go_enter Try.func30, Try.ntmps30
    go_wp2_with fail
    go_ret
    exact ⟨rfl, B2.out⟩

/-- The first so many are in order. -/
def risTo (l : List Ent) (i : Nat) : Prop := ∀ j a b, j + 1 < i → l[j]? = some a → l[j + 1]? = some b → ltE a b = true
theorem risTo_end {l : List Ent} {i : Nat} (h : risTo l i) (hi : l.length ≤ i) : risE l = true :=
  (ris_iff l ltE).2 fun j a b ha hb => h j a b (by have := (List.getElem?_eq_some_iff.1 hb).1; omega) ha hb
theorem risTo_no {l : List Ent} {j : Nat} {a b : Ent} (ha : l[j]? = some a) (hb : l[j + 1]? = some b) (h : ltE a b = false) : risE l = false := by
  cases hr : risE l
  · rfl
  · rw [(ris_iff l ltE).1 hr j a b ha hb] at h
    cases h
end Go.Proofs.Ytjhgbdeadkoegaa
