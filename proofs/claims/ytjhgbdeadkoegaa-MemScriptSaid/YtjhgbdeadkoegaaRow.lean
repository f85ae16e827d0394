/- Rows of a call's own, of elements of any size: cut shorter, cleared behind, appended to within their room. -/
import Derived.Test.YtjhgbdeadkoegaaBase
namespace Go.St
open Go.RowKit
set_option linter.unusedVariables false
set_option linter.unusedSimpArgs false

theorem own_cut {w : World} {base g n k cap size : Nat} {e : TypeId} {xs : List Value} (h : w.ownsRow base e size (.slice (some ⟨g, 0, none⟩) n cap) n xs) (hk : k ≤ n) : w.ownsRow base e size (.slice (some ⟨g, 0, none⟩) k cap) k (xs.take (k * size)) := by
  have hl := h.1
  have hm : k * size ≤ n * size := Nat.mul_le_mul_right _ hk
  rcases h.2 with ⟨h', _⟩ | ⟨g', cap', cur, h', hb, hg, hnc, hcm, hcs, htake⟩
  · simp at h'
  · simp only [Value.slice.injEq, Option.some.injEq, Addr.mk.injEq, and_true, true_and] at h'
    obtain ⟨rfl, rfl⟩ := h'
    refine ⟨by simp; omega, .inr ⟨g, cap, cur, rfl, hb, hg, by omega, hcm, hcs, ?_⟩⟩
    rw [← htake, List.take_take]
    congr 1
    omega
theorem own_capLe {w : World} {base g n cap size : Nat} {e : TypeId} {xs : List Value} (h : w.ownsRow base e size (.slice (some ⟨g, 0, none⟩) n cap) n xs) : n ≤ cap ∧ cap ≤ maxLen := by
  rcases h.2 with ⟨h', _⟩ | ⟨g', cap', cur, h', hb, hg, hnc, hcm, hcs, htake⟩
  · simp at h'
  · simp only [Value.slice.injEq, Option.some.injEq, Addr.mk.injEq, and_true, true_and] at h'
    obtain ⟨rfl, rfl⟩ := h'
    exact ⟨hnc, hcm⟩
/-- Each cell of a row's room is there. -/
theorem own_isSome {w : World} {base g n cap size : Nat} {e : TypeId} {xs : List Value} (h : w.ownsRow base e size (.slice (some ⟨g, 0, none⟩) n cap) n xs) (j : Nat) (hj : j < cap * size) : (w.cell? ⟨g, j, none⟩).isSome = true := by
  rcases h.2 with ⟨h', _⟩ | ⟨g', cap', cur, h', hb, hg, hnc, hcm, hcs, htake⟩
  · simp at h'
  · simp only [Value.slice.injEq, Option.some.injEq, Addr.mk.injEq, and_true, true_and] at h'
    obtain ⟨rfl, rfl⟩ := h'
    have hlt : j < cur.size := by omega
    simp [World.cell?, hg, hlt]
theorem setCells_far {base g k cap size : Nat} {e : TypeId} {xs : List Value} : ∀ (vs : List Value) (o : Nat) (w : World), k * size ≤ o → w.ownsRow base e size (.slice (some ⟨g, 0, none⟩) k cap) k xs →
    (w.setCells g o vs).ownsRow base e size (.slice (some ⟨g, 0, none⟩) k cap) k xs ∧ w.grownBy (w.setCells g o vs) (some g)
  | [], _, w, _, h => ⟨h, World.grownBy.refl _ _⟩
  | v :: r, o, w, ho, h => by
    have h1 := h.stored o v
    have e1 : xs.set o v = xs := List.set_eq_of_length_le (by rw [h.1]; exact ho)
    rw [e1] at h1
    have h2 := setCells_far r (o + 1) (w.setCell ⟨g, o, none⟩ v) (by omega) h1.1
    exact ⟨h2.1, h1.2.trans h2.2⟩
/-- 'clear(s[k:n])': what stands ahead of k stays. -/
theorem run_clear_own {P : Program} {t e : TypeId} {size bytes : Nat} {z : Value} (E : STy P t e size bytes z) (w : World) (ty base : Nat) {g n k cap m c : Nat} {xs : List Value} (hown : w.ownsRow base e size (.slice (some ⟨g, 0, none⟩) n cap) n xs)
    (hzv : ∀ w, (zeroValue e).run P w = .ok z w) (hzs : z.cells.size = size) (hz1 : ∀ u ∈ z.cells.toList, u.oneCell' = true) (hk : k ≤ n) (hm : k + m ≤ cap) :
    ∃ w', (Builtin.clear_ #[t] ty #[.slice (some ⟨g, k * size, none⟩) m c]).run P w = .ok (.tuple #[]) w' ∧ w'.ownsRow base e size (.slice (some ⟨g, 0, none⟩) k cap) k (xs.take (k * size)) ∧ w.grownBy w' (some g) := by
  have hc := own_cut hown hk
  cases m with
  | zero => exact ⟨w, by simp [Builtin.clear_, run_underlying E.ht], hc, World.grownBy.refl _ _⟩
  | succ m =>
    have hsz : (Builtin.zeroCells z.cells (m + 1)).toList.length = (m + 1) * size := by simp [Builtin.zeroCells, hzs]
    have hb : k * size + (m + 1) * size ≤ cap * size := by rw [← Nat.add_mul]; exact Nat.mul_le_mul_right _ hm
    have hst := run_storeCells_cells (P := P) g (k * size) (Builtin.zeroCells z.cells (m + 1)).toList 0 w (fun j hj => own_isSome hown _ (by omega)) (fun j hj => hown.frozenAt _) (by
      intro v hv
      have hp := E.hp
      simp only [Builtin.zeroCells, Array.toList_map, List.mem_map] at hv
      obtain ⟨i, _, rfl⟩ := hv
      have hi : i % z.cells.size < z.cells.size := Nat.mod_lt _ (by omega)
      refine hz1 _ ?_
      rw [getElem!_pos z.cells (i % z.cells.size) hi]
      exact Array.getElem_mem_toList hi)
    have h2 := setCells_far (Builtin.zeroCells z.cells (m + 1)).toList (k * size) w (Nat.le_refl _) hc
    refine ⟨_, ?_, h2.1, h2.2⟩
    simp only [Nat.add_zero] at hst
    simp [Builtin.clear_, run_underlying E.ht, hzv, hst]
theorem wp_fit {P : Program} {t e : TypeId} {size bytes : Nat} {z : Value} (E : STy P t e size bytes z) {w : World} {o : Oper} {a : Act} {K : Act → World → Prop} {Q : Exit → Act → World → Prop} (s x : Operand)
    (ho : o.op = .call { callee := .builtin .append, args := #[s, x], argTypes := #[t, t] })
    (base : Nat) {g n cap : Nat} {xs : List Value} (hown : w.ownsRow base e size (.slice (some ⟨g, 0, none⟩) n cap) n xs) (hs : a.eval s = .slice (some ⟨g, 0, none⟩) n cap)
    (ad : Addr) (m c : Nat) {news : List Value} (hr : ∀ j u, news[j]? = some u → w.cell? (ad.add j) = some u) (hx : a.eval x = .slice (some ad) m c) (hl : news.length = m * size) (h1 : ∀ u ∈ news, u.oneCell' = true) (hroom : n + m ≤ cap)
    (h : ∀ w', w'.ownsRow base e size (.slice (some ⟨g, 0, none⟩) (n + m) cap) (n + m) (xs ++ news) → w.grownBy w' (some g) → K (a.put o.dst (.slice (some ⟨g, 0, none⟩) (n + m) cap)) w') :
    o.wp P a w K Q := by
  obtain ⟨i, hi, hz, hsz, hb⟩ := E.hi
  obtain ⟨w', hrun, h2, h3⟩ := run_append_fits (P := P) w base t o.type e i size E.ht hi hsz g n cap xs hown ad m c news hl hr h1 hroom
  unfold Oper.wp execOp
  simp only [ho, resolve, invoke, builtin, Sem.run_bind, Sem.run_pure, Result.andThen_ok, List.map_toArray, List.map_cons, List.map_nil, hs, hx, hrun]
  exact h w' h2 h3
/-- append within the room, in a list of operations. -/
theorem wpList_fitS {P : Program} {t e : TypeId} {size bytes : Nat} {z : Value} (E : STy P t e size bytes z) {w : World} {ops : Array Oper} {rest : List Oper} {o : Oper} {a : Act} {Q : Exit → Act → World → Prop} (s x : Operand) (hgd : o.guard = none)
    (ho : o.op = .call { callee := .builtin .append, args := #[s, x], argTypes := #[t, t] })
    (base : Nat) {g n cap : Nat} {xs : List Value} (hown : w.ownsRow base e size (.slice (some ⟨g, 0, none⟩) n cap) n xs) (hs : a.eval s = .slice (some ⟨g, 0, none⟩) n cap)
    (ad : Addr) (m c : Nat) {news : List Value} (hr : ∀ j u, news[j]? = some u → w.cell? (ad.add j) = some u) (hx : a.eval x = .slice (some ad) m c) (hl : news.length = m * size) (h1 : ∀ u ∈ news, u.oneCell' = true) (hroom : n + m ≤ cap)
    (h : ∀ w', w'.ownsRow base e size (.slice (some ⟨g, 0, none⟩) (n + m) cap) (n + m) (xs ++ news) → w.grownBy w' (some g) → wpList P ops Q rest (a.put o.dst (.slice (some ⟨g, 0, none⟩) (n + m) cap)) w') :
    wpList P ops Q (o :: rest) a w :=
  wpList_plain hgd fun _ hK => wp_fit E s x ho base hown hs ad m c hr hx hl h1 hroom fun w' h2 h3 => hK _ _ (h w' h2 h3)
end Go.St
