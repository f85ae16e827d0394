/- Words on memory that the walks share: a slice that reads as a list of cells; bytes as cells. -/
import Derived.WalkKit
import Derived.WalkLawsBesides
import Derived.Laws.OwnMore
import Derived.Laws.BytesArg
import Derived.Deep.Draws
import Derived.Deep.AppendLies
import Derived.Deep.Onto
import Derived.Maps.AppendAt

namespace Go.St
open Go.RowKit

/-- A byte as a cell. -/
def bt (c : UInt8) : Value := .int .u8 ((c.toNat : Nat) : Int)
/-- Bytes as cells. -/
def bv (l : List UInt8) : List Value := l.map bt

theorem bv_length (l : List UInt8) : (bv l).length = l.length := by simp [bv]
theorem bv_get (l : List UInt8) (i : Nat) (h : i < l.length) : (bv l)[i]? = some (bt l[i]) := by simp [bv, h]
theorem bv_append (a b : List UInt8) : bv (a ++ b) = bv a ++ bv b := by simp [bv]
theorem bv_one (l : List UInt8) : ∀ u ∈ bv l, u.oneCell' = true := by
  intro u hu
  obtain ⟨c, _, rfl⟩ := List.mem_map.1 hu
  rfl

/-- The slice at A reads as the cells xs, all of them below block B. -/
def Rd (w : World) (B : Nat) (A : Option Addr) (xs : List Value) : Prop :=
  xs ≠ [] → ∃ b off, A = some ⟨b, off, none⟩ ∧ b < B ∧ ∀ i v, xs[i]? = some v → w.cell? ⟨b, off + i, none⟩ = some v

section
variable {w w' : World} {B B' : Nat} {A : Option Addr} {xs : List Value}
theorem Rd.nil : Rd w B A [] := fun h => absurd rfl h
theorem Rd.keep (h : Rd w B A xs) (hk : ∀ p : Addr, p.block < B → w'.cell? p = w.cell? p) : Rd w' B A xs := fun hn => by
  obtain ⟨b, off, e, hb, hc⟩ := h hn
  exact ⟨b, off, e, hb, fun i v hv => (hk ⟨b, off + i, none⟩ hb).trans (hc i v hv)⟩
theorem Rd.more (h : Rd w B A xs) (hB : B ≤ B') : Rd w B' A xs := fun hn => by
  obtain ⟨b, off, e, hb, hc⟩ := h hn
  exact ⟨b, off, e, by omega, hc⟩
theorem Rd.below (h : Rd w B A xs) (hb : Below B w w') : Rd w' B A xs := h.keep fun _ hp => hb.cell hp
theorem Rd.heap (h : Rd w B A xs) : Rd w w.heap.size A xs := fun hn => by
  obtain ⟨b, off, e, hb, hc⟩ := h hn
  refine ⟨b, off, e, ?_, hc⟩
  obtain ⟨v, r, rfl⟩ : ∃ v r, xs = v :: r := by
    cases xs with
    | nil => exact absurd rfl hn
    | cons v r => exact ⟨v, r, rfl⟩
  exact World.block_lt_of_cell? w _ (hc 0 v rfl)
theorem Rd.at_ (h : Rd w B A xs) {i : Nat} {v : Value} (hv : xs[i]? = some v) : ∃ b off, A = some ⟨b, off, none⟩ ∧ b < B ∧ w.cell? ⟨b, off + i, none⟩ = some v := by
  obtain ⟨b, off, e, hb, hc⟩ := h (by rintro rfl; simp at hv)
  exact ⟨b, off, e, hb, hc i v hv⟩
theorem Rd.take (h : Rd w B A xs) (n : Nat) : Rd w B A (xs.take n) := fun hn => by
  obtain ⟨b, off, e, hb, hc⟩ := h (by rintro rfl; simp at hn)
  refine ⟨b, off, e, hb, fun i v hv => hc i v ?_⟩
  rw [List.getElem?_take] at hv
  split at hv
  · exact hv
  · cases hv
theorem Rd.drop (h : Rd w B A xs) (k : Nat) {cap : Nat} (hc : xs.length ≤ cap) : Rd w B (if cap = k then A else A.map (·.add k)) (xs.drop k) := fun hn => by
  obtain ⟨b, off, e, hb, hcell⟩ := h (by rintro rfl; simp at hn)
  have hk : k < xs.length := by
    rcases Nat.lt_or_ge k xs.length with h1 | h1
    · exact h1
    · exact absurd (List.drop_eq_nil_of_le h1) hn
  rw [if_neg (by omega), e]
  refine ⟨b, off + k, ?_, hb, fun i v hv => ?_⟩
  · simp [Addr.add]
  · rw [List.getElem?_drop] at hv
    have := hcell _ v hv
    rwa [Nat.add_assoc]
theorem Rd.alloc (h : Rd w B A xs) (hB : B ≤ w.heap.size) (o : Obj) : Rd (w.alloc o) B A xs := h.keep fun p hp => World.cell?_alloc_lt w o p (by omega)
theorem Rd.setCell (h : Rd w B A xs) {p : Addr} (hB : B ≤ p.block) (u : Value) : Rd (w.setCell p u) B A xs :=
  h.keep fun q hq => World.cell?_setCell_other w p q u (fun e => by subst e; omega)
theorem Rd.grown (h : Rd w B A xs) {row : Option Nat} (hg : w.grownBy w' row) (hB : B ≤ w.heap.size) (hr : ∀ g, row = some g → B ≤ g) : Rd w' B A xs :=
  h.keep fun p hp => World.cell?_of_block (hg.block p.block (by omega) (fun e => by have := hr _ e.symm; omega))
theorem Rd.own {base : Nat} {e : TypeId} {n c : Nat} (h : w.ownsRow base e 1 (.slice A n c) n xs) : Rd w w.heap.size A xs := fun hn => by
  have hlen := h.1
  obtain ⟨g, cap, hv, _, hlt⟩ := h.form (by
    rcases Nat.eq_zero_or_pos n with h0 | h0
    · subst h0
      exact absurd (List.eq_nil_of_length_eq_zero (by simpa using hlen)) hn
    · exact h0)
  injection hv with hA
  subst hA
  refine ⟨g, 0, rfl, hlt, fun i v hv => ?_⟩
  have := h.cells (g := g) rfl i v hv
  unfold Addr.add at this
  split at this
  · rename_i h0
    subst h0
    exact this
  · simpa using this
end
/-- A slice type and its element type, as the program's tables have them. -/
structure STy (P : Program) (t e : TypeId) (size bytes : Nat) (z : Value) : Prop where
  ht : P.underlying t = some (.slice e)
  hi : ∃ i, P.info? e = some i ∧ i.zero = some z ∧ i.size = size ∧ i.bytes = bytes
  hz : z.cells.size = size
  hp : 0 < size

theorem run_app {P : Program} {t e : TypeId} {size bytes : Nat} {z : Value} (E : STy P t e size bytes z) (w : World) (ty base : Nat) {v : Value} {n : Nat} {xs : List Value} (hown : w.ownsRow base e size v n xs)
    {B : Nat} {A : Option Addr} (m c : Nat) {news : List Value} (hr : Rd w B A news) (hl : news.length = m * size) (h1 : ∀ u ∈ news, u.oneCell' = true)
    (h63 : n + m ≤ maxLen) (hbytes : (n + m) * bytes ≤ 140737488355328) (hbase : base ≤ w.heap.size) :
    ∃ v' w', (Builtin.append_ #[t, t] ty #[v, .slice A m c]).run P w = .ok v' w' ∧ w'.ownsRow base e size v' (n + m) (xs ++ news) ∧ w.grownBy w' v.ownBlock ∧
      (v' = .slice none 0 0 ↔ v = .slice none 0 0 ∧ m = 0) ∧ (v'.ownBlock = v.ownBlock ∨ v'.ownBlock = some w.heap.size) := by
  obtain ⟨i, hi, hz, hs, hb⟩ := E.hi
  cases A with
  | none =>
    have hn : news = [] := by
      cases news with
      | nil => rfl
      | cons x r =>
        obtain ⟨b, off, e0, _⟩ := hr (by simp)
        cases e0
    subst hn
    have hm : m = 0 := by
      rcases Nat.mul_eq_zero.1 hl.symm with h | h
      · exact h
      · have := E.hp
        omega
    subst hm
    refine ⟨v, w, ?_, by simpa using hown, World.grownBy.refl w _, by simp, .inl rfl⟩
    rcases hown.2 with ⟨rfl, rfl⟩ | ⟨g, cap, cur, rfl, _, _, hnc, _⟩
    · simp [Builtin.append_, run_underlying E.ht, sizeOf, typeInfo, hi, Builtin.lenOf, Builtin.firstCells]
    · simp [Builtin.append_, run_underlying E.ht, sizeOf, typeInfo, hi, Builtin.lenOf, Builtin.firstCells, hnc, storeCells]
  | some ad =>
    refine run_append_own_at w base t ty e i z size bytes E.ht hi hz hs hb E.hz E.hp v n xs hown ad m c news hl ?_ h1 h63 hbytes hbase
    intro j u hu
    obtain ⟨b, off, e0, _, hc⟩ := hr.at_ hu
    injection e0 with e0
    subst e0
    unfold Addr.add
    split
    · rename_i h0
      subst h0
      exact hc
    · exact hc

theorem wp_app {P : Program} {t e : TypeId} {size bytes : Nat} {z : Value} (E : STy P t e size bytes z) {w : World} {o : Oper} {a : Act} {K : Act → World → Prop} {Q : Exit → Act → World → Prop} (s x : Operand)
    (ho : o.op = .call { callee := .builtin .append, args := #[s, x], argTypes := #[t, t] })
    (base : Nat) {v : Value} {n : Nat} {xs : List Value} (hown : w.ownsRow base e size v n xs) (hs : a.eval s = v)
    {B : Nat} {A : Option Addr} (m c : Nat) {news : List Value} (hr : Rd w B A news) (hx : a.eval x = .slice A m c) (hl : news.length = m * size) (h1 : ∀ u ∈ news, u.oneCell' = true)
    (h63 : n + m ≤ maxLen) (hbytes : (n + m) * bytes ≤ 140737488355328) (hbase : base ≤ w.heap.size)
    (h : ∀ v' w', w'.ownsRow base e size v' (n + m) (xs ++ news) → w.grownBy w' v.ownBlock → (v' = .slice none 0 0 ↔ v = .slice none 0 0 ∧ m = 0) → (v'.ownBlock = v.ownBlock ∨ v'.ownBlock = some w.heap.size) → K (a.put o.dst v') w') :
    o.wp P a w K Q := by
  obtain ⟨v', w', hrun, h2, h3, h4, h5⟩ := run_app E w o.type base hown m c hr hl h1 h63 hbytes hbase
  unfold Oper.wp execOp
  simp only [ho, resolve, invoke, builtin, Sem.run_bind, Sem.run_pure, Result.andThen_ok, List.map_toArray, List.map_cons, List.map_nil, hs, hx, hrun]
  exact h v' w' h2 h3 h4 h5

theorem wpList_app {P : Program} {t e : TypeId} {size bytes : Nat} {z : Value} (E : STy P t e size bytes z) {w : World} {ops : Array Oper} {rest : List Oper} {o : Oper} {a : Act} {Q : Exit → Act → World → Prop} (s x : Operand) (hgd : o.guard = none)
    (ho : o.op = .call { callee := .builtin .append, args := #[s, x], argTypes := #[t, t] })
    (base : Nat) {v : Value} {n : Nat} {xs : List Value} (hown : w.ownsRow base e size v n xs) (hs : a.eval s = v)
    {B : Nat} {A : Option Addr} (m c : Nat) {news : List Value} (hr : Rd w B A news) (hx : a.eval x = .slice A m c) (hl : news.length = m * size) (h1 : ∀ u ∈ news, u.oneCell' = true)
    (h63 : n + m ≤ maxLen) (hbytes : (n + m) * bytes ≤ 140737488355328) (hbase : base ≤ w.heap.size)
    (h : ∀ v' w', w'.ownsRow base e size v' (n + m) (xs ++ news) → w.grownBy w' v.ownBlock → (v' = .slice none 0 0 ↔ v = .slice none 0 0 ∧ m = 0) → (v'.ownBlock = v.ownBlock ∨ v'.ownBlock = some w.heap.size) → wpList P ops Q rest (a.put o.dst v') w') :
    wpList P ops Q (o :: rest) a w :=
  wpList_plain hgd fun _ hK => wp_app E s x ho base hown hs m c hr hx hl h1 h63 hbytes hbase fun v' w' h2 h3 h4 h5 => hK _ _ (h v' w' h2 h3 h4 h5)

/-- string(b) of bytes that read. -/
theorem conv_str {P : Program} {w : World} {B : Nat} {A : Option Addr} {bs : List UInt8} (src dst e : TypeId) (n c : Nat) (hs : P.underlying src = some (.slice e)) (he : P.underlying e = some (.int .u8)) (hd : P.underlying dst = some .string)
    (hr : Rd w B A (bv bs)) (hl : bs.length = n) : (convert src dst (.slice A n c)).run P w = .ok (.string ⟨bs.toArray⟩) w := by
  by_cases h0 : bs = []
  · subst h0
    subst hl
    cases A with
    | none => exact run_convert_bytes_nil w src e hs he _ c dst hd
    | some a =>
      rw [run_convert_bytes_string w src dst e _ _ c hs he hd]
      exact run_bytesToString (P := P) w a 0 c [] (by simp [loadCells, loadCellsFrom])
  · obtain ⟨b, off, rfl, hb, hc⟩ := hr (by simpa [bv] using h0)
    have h := run_convert_bytes_arg (P := P) w src e hs he b off n c (bs.map fun c => ((c.toNat : Nat) : Int)) (by simpa using hl) (fun i hi => by
      have h1 := hc i _ (bv_get bs i (by omega))
      rw [h1]
      have : i < bs.length := by omega
      simp [bt, List.getD, this]) dst hd
    rw [h]
    congr 3
    simp [strOfNums, List.map_map]
    apply List.map_id''
    intro c
    simp

/-- A cell that was just laid reads as a list of one. -/
theorem rd_one (w : World) (x : Value) (t : TypeId) : Rd (w.alloc (.cells #[x] t)) (w.heap.size + 1) (some ⟨w.heap.size, 0, none⟩) [x] := fun _ => by
  refine ⟨w.heap.size, 0, rfl, by omega, fun i v hv => ?_⟩
  cases i with
  | zero =>
    simp at hv
    subst hv
    rw [World.cell?_alloc_at _ _ _ _ rfl]
    rfl
  | succ i => simp at hv
theorem bt_ofNat (x : Nat) : bt (UInt8.ofNat x) = .int .u8 ((x : Int) % 256) := by
  unfold bt
  rw [UInt8.toNat_ofNat']
  congr 1
theorem ret_bool {a b : Bool} (h : a = b) : Ending.returned (.bool a) = .returned (.bool b) := by rw [h]
theorem own_eq {w : World} {base n m : Nat} {e : TypeId} {size : Nat} {v : Value} {xs ys : List Value} (h : w.ownsRow base e size v n xs) (hn : n = m) (hx : xs = ys) : w.ownsRow base e size v m ys := by
  subst hn; subst hx; exact h
/-- What a slice of the call's own reads as. -/
theorem own_rd {w : World} {base : Nat} {e : TypeId} {v : Value} {n : Nat} {xs : List Value} (h : w.ownsRow base e 1 v n xs) : ∃ A c, v = .slice A n c ∧ Rd w w.heap.size A xs := by
  rcases h.2 with ⟨rfl, rfl⟩ | ⟨g, cap, cur, rfl, _⟩
  · have : xs = [] := List.eq_nil_of_length_eq_zero (by simpa using h.1)
    subst this
    exact ⟨none, 0, rfl, Rd.nil⟩
  · exact ⟨_, cap, rfl, Rd.own h⟩

/-- What a slice of the call's own reads as; its room. -/
theorem own_rd4 {w : World} {base : Nat} {e : TypeId} {v : Value} {n : Nat} {xs : List Value} (h : w.ownsRow base e 1 v n xs) : ∃ A c, v = .slice A n c ∧ n ≤ c ∧ c ≤ maxLen ∧ Rd w w.heap.size A xs := by
  rcases h.2 with ⟨rfl, rfl⟩ | ⟨g, cap, cur, rfl, _, _, h1, h2, _⟩
  · have : xs = [] := List.eq_nil_of_length_eq_zero (by simpa using h.1)
    subst this
    exact ⟨none, 0, rfl, Nat.le_refl _, Nat.zero_le _, Rd.nil⟩
  · exact ⟨_, cap, rfl, h1, h2, Rd.own h⟩
/-- A list that is not empty lies in a block of the call's own. -/
theorem own_blk {w : World} {base : Nat} {e : TypeId} {v : Value} {n : Nat} {xs : List Value} (h : w.ownsRow base e 1 v n xs) (h0 : 0 < n) : ∃ g c, v = .slice (some ⟨g, 0, none⟩) n c ∧ n ≤ c ∧ c ≤ maxLen ∧ base ≤ g ∧ g < w.heap.size := by
  rcases h.2 with ⟨_, rfl⟩ | ⟨g, cap, cur, rfl, h3, h4, h1, h2, _⟩
  · omega
  · exact ⟨g, cap, rfl, h1, h2, h3, (Array.getElem?_eq_some_iff.1 h4).1⟩
theorem own_keep {w w' : World} {B base : Nat} {e : TypeId} {size : Nat} {v : Value} {n : Nat} {xs : List Value} (h : w.ownsRow base e size v n xs) (hb : Below B w w') (hB : w.heap.size ≤ B) : w'.ownsRow base e size v n xs :=
  h.kept (w' := w') (row := none) ⟨hb.os, hb.tape, hb.output, hb.size, fun k hk _ => hb.block k (by omega)⟩ (by
    cases hv : v.ownBlock with
    | none => exact .inl rfl
    | some g => exact .inr (by simp))
/-- A byte as an integer. -/
theorem byte_of (z : Int) (h : (Lit.int .u8 z).wf = true) : ∃ t : UInt8, z = ((t.toNat : Nat) : Int) := by
  have hb : 0 ≤ z ∧ z ≤ 255 := by simpa [Lit.wf, IntKind.min, IntKind.max, IntKind.signed, IntKind.bits] using h
  refine ⟨UInt8.ofNat z.toNat, ?_⟩
  simp [UInt8.toNat_ofNat']
  omega
theorem bt_xor (x t : UInt8) : bits .xor .u8 ((x.toNat : Nat) : Int) ((t.toNat : Nat) : Int) = (((x ^^^ t).toNat : Nat) : Int) := by
  rw [u8_xor_nat _ _ x.toNat_lt t.toNat_lt, UInt8.toNat_xor]
theorem bv_set (l : List UInt8) (i : Nat) (c : UInt8) : (bv l).set i (bt c) = bv (l.set i c) := by simp [bv, List.map_set]
theorem modify_set (l : List UInt8) (i : Nat) (t : UInt8) (h : i < l.length) : l.set i (l[i] ^^^ t) = l.modify i (· ^^^ t) := by
  apply List.ext_getElem?
  intro j
  rw [List.getElem?_set, List.getElem?_modify]
  by_cases e : i = j
  · subst e
    simp [h]
  · simp [e]

theorem take_snoc {α : Type} (l : List α) (k : Nat) (h : k < l.length) : l.take (k + 1) = l.take k ++ [l[k]] := by
  rw [List.take_add_one, List.getElem?_eq_getElem h]; rfl
theorem ret_int {k : IntKind} {a b : Int} (h : a = b) : Ending.returned (.int k a) = .returned (.int k b) := by rw [h]
theorem int_eq {k : IntKind} {a b : Int} (h : a = b) : Value.int k a = .int k b := by rw [h]
end Go.St
