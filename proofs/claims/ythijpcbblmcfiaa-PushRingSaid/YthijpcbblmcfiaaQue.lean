/- A row that a slice with an offset of its own reads and may append to: a queue that is cut off at its head. Elements of one cell. -/
import Derived.Test.YthijpcbblmcfiaaRow
namespace Go.St
open Go.RowKit
set_option linter.unusedVariables false
set_option linter.unusedSimpArgs false

/-- A slice that looks into a block of one's own, from an offset on. -/
def ownsQ (w : World) (base : Nat) (e : TypeId) (g o n cap : Nat) (xs : List Value) : Prop :=
  xs.length = n ∧ base ≤ g ∧ n ≤ cap ∧ cap ≤ maxLen ∧ ∃ cur, w.heap[g]? = some (.cells cur e (0, 0)) ∧ o + cap ≤ cur.size ∧ (cur.toList.drop o).take n = xs

theorem ownsQ.cells {w : World} {base g o n cap : Nat} {e : TypeId} {xs : List Value} (h : ownsQ w base e g o n cap xs) : ∀ j u, xs[j]? = some u → w.cell? ⟨g, o + j, none⟩ = some u := fun j u hu => by
  obtain ⟨hl, _, _, _, cur, hg, hs, ht⟩ := h
  have hj : j < n := by rw [← hl]; exact (List.getElem?_eq_some_iff.1 hu).1
  rw [← ht, List.getElem?_take, if_pos hj, List.getElem?_drop] at hu
  simp only [World.cell?, hg]
  simpa using hu
theorem ownsQ.lt {w : World} {base g o n cap : Nat} {e : TypeId} {xs : List Value} (h : ownsQ w base e g o n cap xs) : g < w.heap.size := by
  obtain ⟨_, _, _, _, cur, hg, _, _⟩ := h
  rcases Nat.lt_or_ge g w.heap.size with h1 | h1
  · exact h1
  · rw [Array.getElem?_eq_none h1] at hg; cases hg
/-- Cut off at the head. -/
theorem ownsQ.tail {w : World} {base g o n cap : Nat} {e : TypeId} {x : Value} {xs : List Value} (h : ownsQ w base e g o (n + 1) cap (x :: xs)) : ownsQ w base e g (if cap = 1 then o else o + 1) n (cap - 1) xs := by
  obtain ⟨hl, hb, hc, hm, cur, hg, hs, ht⟩ := h
  have hx : (cur.toList.drop (o + 1)).take n = xs := by
    have h2 := congrArg (List.drop 1) ht
    rw [List.drop_take, List.drop_drop] at h2
    simpa using h2
  refine ⟨by simpa using hl, hb, by omega, by omega, cur, hg, by split <;> omega, ?_⟩
  split
  · have : n = 0 := by omega
    subst this
    simpa using hx
  · exact hx
theorem ownsQ.keep {w w' : World} {base g o n cap : Nat} {e : TypeId} {xs : List Value} (h : ownsQ w base e g o n cap xs) (hk : w'.heap[g]? = w.heap[g]?) : ownsQ w' base e g o n cap xs := by
  obtain ⟨hl, hb, hc, hm, cur, hg, hs, ht⟩ := h
  exact ⟨hl, hb, hc, hm, cur, hk.trans hg, hs, ht⟩
theorem ownsQ.of {w : World} {base g n cap : Nat} {e : TypeId} {xs : List Value} (h : w.ownsRow base e 1 (.slice (some ⟨g, 0, none⟩) n cap) n xs) : ownsQ w base e g 0 n cap xs := by
  obtain ⟨hl, h⟩ := h
  rcases h with ⟨h', _⟩ | ⟨g', cap', cur, h', hb, hg, hnc, hcm, hcs, htake⟩
  · simp at h'
  · simp only [Value.slice.injEq, Option.some.injEq, Addr.mk.injEq, and_true, true_and] at h'
    obtain ⟨rfl, rfl⟩ := h'
    exact ⟨by simpa using hl, hb, hnc, hcm, cur, hg, by omega, by simpa using htake⟩

/-- One element is appended. -/
theorem run_append_q {P : Program} {t e : TypeId} {bytes : Nat} {z : Value} (E : STy P t e 1 bytes z) (w : World) (base ty : Nat) {g o n cap : Nat} {xs : List Value} (hown : ownsQ w base e g o n cap xs) (ad : Addr) (c : Nat) (u : Value) (hu : w.cell? ad = some u) (ha : ad.add 0 = ad) (h1 : u.oneCell' = true) (hn : n ≤ 1000000) (hbase : base ≤ w.heap.size) (hby : bytes ≤ 64) (hzs : z.cells.size = 1) :
    ∃ g' o' cap' w', (Builtin.append_ #[t, t] ty #[.slice (some ⟨g, o, none⟩) n cap, .slice (some ad) 1 c]).run P w = .ok (.slice (some ⟨g', o', none⟩) (n + 1) cap') w' ∧ ownsQ w' base e g' o' (n + 1) cap' (xs ++ [u]) ∧ w.grownBy w' (some g) ∧ (g' = g ∨ g' = w.heap.size) := by
  have hcell := hown.cells
  obtain ⟨hl, hb, hc, hm, cur, hg, hs, ht⟩ := hown
  obtain ⟨i, hi, hz, hsz, hbb⟩ := E.hi
  have hnews : ∀ j v, [u][j]? = some v → w.cell? (ad.add j) = some v := fun j v hv => by
    match j, hv with
    | 0, hv => rw [ha, hu]; simpa using hv
    | j + 1, hv => simp at hv
  have hln : [u].length = 1 * i.size := by rw [hsz]; rfl
  by_cases hroom : n + 1 ≤ cap
  · have hf := run_firstCells_some (P := P) w i.size 1 ad 1 c [u] hln hnews
    have hst := run_storeCells_at P g (o + n) e [u] 0 cur w hg (by simp; omega) (by simpa using h1)
    have hadd : (⟨g, o, none⟩ : Addr).add n = ⟨g, o + n, none⟩ := by unfold Addr.add; split <;> simp_all
    simp only [Nat.add_zero] at hst
    rw [hsz] at hf
    refine ⟨g, o, cap, w.setRow g (cur.toList.take (o + n) ++ [u] ++ cur.toList.drop (o + n + [u].length)).toArray, ?_, ⟨by simp [hl], hb, hroom, hm, _, setRow_heap w g cur _ e _ hg, ?_, ?_⟩, ⟨rfl, rfl, rfl, by simp, fun k _ hk => setRow_other w g k _ (fun e => hk (by simp [e]))⟩, .inl rfl⟩
    · simp [Builtin.append_, run_underlying E.ht, sizeOf, typeInfo, hi, Builtin.lenOf, hroom, hf, hsz, hadd, hst]
    · simp only [List.size_toArray, List.length_append, List.length_take, List.length_drop, Array.length_toList, List.length_cons, List.length_nil]
      omega
    · simp only [List.append_assoc]
      rw [List.drop_append, List.drop_take, List.length_take, Array.length_toList, Nat.min_eq_left (by omega), Nat.add_sub_cancel_left, show o - (o + n) = 0 by omega, List.drop_zero, ht]
      rw [List.take_append, hl]
      rw [List.take_of_length_le (by omega), Nat.add_sub_cancel_left]
      rfl
  · have hr := run_append_grow (P := P) w t ty e i z E.ht hi hz ⟨g, o, none⟩ n cap xs (by rw [hsz, hl, Nat.mul_one]) (fun j v hv => by
      have : (⟨g, o, none⟩ : Addr).add j = ⟨g, o + j, none⟩ := by unfold Addr.add; split <;> simp_all
      rw [this]; exact hcell j v hv) ad 1 c [u] hln hnews (by omega) (by omega) (growslice_fits (by omega) (by rw [hbb]; have : (n + 1) * bytes ≤ 1000001 * 64 := Nat.mul_le_mul (by omega) hby; omega))
    have hge := grownCap_ge w (n + 1) cap e
    have hcm : grownCap w (n + 1) cap e ≤ maxLen := grownCap_le_maxLen w (n + 1) cap e (by simp only [maxLen]; omega)
    refine ⟨_, _, _, _, hr, ⟨by simp [hl], hbase, hge, hcm, _, heap_alloc_new w.drew _, ?_, ?_⟩, ⟨rfl, rfl, rfl, by simp, fun k hk _ => _root_.Go.heap_alloc_old w.drew _ (r := k) hk⟩, .inr rfl⟩
    · simp only [Array.size_append, List.size_toArray, size_zeroCells, hzs, hl, List.length_cons, List.length_nil]
      omega
    · simp only [Array.toList_append, List.drop_zero]
      rw [show n + 1 = (xs ++ [u]).length by simp [hl]]
      exact List.take_left
theorem wp_append_q {P : Program} {t e : TypeId} {bytes : Nat} {z : Value} (E : STy P t e 1 bytes z) {w : World} {o : Oper} {a : Act} {K : Act → World → Prop} {Q : Exit → Act → World → Prop} (s x : Operand)
    (ho : o.op = .call { callee := .builtin .append, args := #[s, x], argTypes := #[t, t] })
    (base : Nat) {g q n cap : Nat} {xs : List Value} (hown : ownsQ w base e g q n cap xs) (hs : a.eval s = .slice (some ⟨g, q, none⟩) n cap)
    (ad : Addr) (c : Nat) (u : Value) (hu : w.cell? ad = some u) (ha : ad.add 0 = ad) (hx : a.eval x = .slice (some ad) 1 c) (h1 : u.oneCell' = true) (hn : n ≤ 1000000) (hbase : base ≤ w.heap.size) (hby : bytes ≤ 64) (hzs : z.cells.size = 1)
    (h : ∀ g' o' cap' w', ownsQ w' base e g' o' (n + 1) cap' (xs ++ [u]) → w.grownBy w' (some g) → (g' = g ∨ g' = w.heap.size) → K (a.put o.dst (.slice (some ⟨g', o', none⟩) (n + 1) cap')) w') :
    o.wp P a w K Q := by
  obtain ⟨g', o', cap', w', hrun, h2, h3, h4⟩ := run_append_q E w base o.type hown ad c u hu ha h1 hn hbase hby hzs
  unfold Oper.wp execOp
  simp only [ho, resolve, invoke, builtin, Sem.run_bind, Sem.run_pure, Result.andThen_ok, List.map_toArray, List.map_cons, List.map_nil, hs, hx, hrun]
  exact h g' o' cap' w' h2 h3 h4
theorem wpList_append_q {P : Program} {t e : TypeId} {bytes : Nat} {z : Value} (E : STy P t e 1 bytes z) {w : World} {ops : Array Oper} {rest : List Oper} {o : Oper} {a : Act} {Q : Exit → Act → World → Prop} (s x : Operand) (hgd : o.guard = none)
    (ho : o.op = .call { callee := .builtin .append, args := #[s, x], argTypes := #[t, t] })
    (base : Nat) {g q n cap : Nat} {xs : List Value} (hown : ownsQ w base e g q n cap xs) (hs : a.eval s = .slice (some ⟨g, q, none⟩) n cap)
    (ad : Addr) (c : Nat) (u : Value) (hu : w.cell? ad = some u) (ha : ad.add 0 = ad) (hx : a.eval x = .slice (some ad) 1 c) (h1 : u.oneCell' = true) (hn : n ≤ 1000000) (hbase : base ≤ w.heap.size) (hby : bytes ≤ 64) (hzs : z.cells.size = 1)
    (h : ∀ g' o' cap' w', ownsQ w' base e g' o' (n + 1) cap' (xs ++ [u]) → w.grownBy w' (some g) → (g' = g ∨ g' = w.heap.size) → wpList P ops Q rest (a.put o.dst (.slice (some ⟨g', o', none⟩) (n + 1) cap')) w') :
    wpList P ops Q (o :: rest) a w :=
  wpList_plain hgd fun _ hK => wp_append_q E s x ho base hown hs ad c u hu ha hx h1 hn hbase hby hzs fun g' o' cap' w' h2 h3 h4 => hK _ _ (h g' o' cap' w' h2 h3 h4)
end Go.St
