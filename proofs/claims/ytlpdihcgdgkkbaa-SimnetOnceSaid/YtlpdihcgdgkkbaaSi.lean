/- Letters as cells; a net in its block, its letters in a row, their bytes in blocks beside. -/
import Derived.Test.YtlpdihcgdgkkbaaSg
import Derived.Test.YtlpdihcgdgkkbaaFr
import Derived.Test.YtlpdihcgdgkkbaaRow
import Derived.Test.YtlpdihcgdgkkbaaCut
import Derived.Test.YtlpdihcgdgkkbaaOpen
import Derived.Deep.Cut
namespace Go.Proofs.Ytlpdihcgdgkkbaa
open Go.RowKit Go.St
set_option linter.unusedVariables false
set_option linter.unusedSimpArgs false
set_option maxRecDepth 100000

/-- What a letter says. -/
structure Key where
  num : Int
  fr : Int
  to : Int
  bs : List UInt8
/-- A letter in memory. -/
structure Ltr where
  k : Key
  A : Option Addr
  n : Nat
  c : Nat
def ltc (x : Ltr) : List Value := [.int .i64 x.k.num, .int .i64 x.k.fr, .int .i64 x.k.to, .slice x.A x.n x.c]
def ltV (x : Ltr) : Value := .agg #[.int .i64 x.k.num, .int .i64 x.k.fr, .int .i64 x.k.to, .slice x.A x.n x.c]
def lv (l : List Ltr) : List Value := (l.map ltc).flatten
theorem lv_nil : lv [] = [] := rfl
theorem lv_cons (x : Ltr) (l : List Ltr) : lv (x :: l) = ltc x ++ lv l := by simp [lv]
theorem lv_length (l : List Ltr) : (lv l).length = l.length * 4 := by
  induction l with
  | nil => rfl
  | cons x l ih => rw [lv_cons, List.length_append, ih, List.length_cons]; simp [ltc]; omega
theorem lv_append (a b : List Ltr) : lv (a ++ b) = lv a ++ lv b := by simp [lv]
theorem lv_one (l : List Ltr) : ∀ u ∈ lv l, u.oneCell' = true := by
  intro u hu
  simp only [lv, List.mem_flatten, List.mem_map] at hu
  obtain ⟨c, ⟨m, _, rfl⟩, hu⟩ := hu
  simp [ltc] at hu
  rcases hu with rfl | rfl | rfl | rfl <;> rfl
theorem lv_get (l : List Ltr) (j i : Nat) (x : Ltr) (v : Value) (hj : l[j]? = some x) (hv : (ltc x)[i]? = some v) : (lv l)[j * 4 + i]? = some v :=
  flatten_get (n := 4) (l.map ltc) (fun c hc => by obtain ⟨x, _, rfl⟩ := List.mem_map.1 hc; rfl) j i (ltc x) v (by rw [List.getElem?_map, hj]; rfl) hv
theorem lv_take (l : List Ltr) (k : Nat) : (lv l).take (k * 4) = lv (l.take k) := by
  induction l generalizing k with
  | nil => simp [lv]
  | cons x l ih =>
    cases k with
    | zero => simp [lv]
    | succ k =>
      have e : (k + 1) * 4 = 4 + k * 4 := by omega
      rw [lv_cons, List.take_succ_cons, lv_cons, e, List.take_append]
      have e1 : (ltc x).take (4 + k * 4) = ltc x := List.take_of_length_le (by simp [ltc])
      have e2 : 4 + k * 4 - (ltc x).length = k * 4 := by simp [ltc]
      rw [e1, e2, ih]
theorem lv_drop (l : List Ltr) (k : Nat) : (lv l).drop (k * 4) = lv (l.drop k) := by
  induction l generalizing k with
  | nil => simp [lv]
  | cons x l ih =>
    cases k with
    | zero => simp [lv]
    | succ k =>
      have e : (k + 1) * 4 = 4 + k * 4 := by omega
      rw [lv_cons, List.drop_succ_cons, e, List.drop_append]
      have e1 : (ltc x).drop (4 + k * 4) = [] := List.drop_of_length_le (by simp [ltc])
      have e2 : 4 + k * 4 - (ltc x).length = k * 4 := by simp [ltc]
      rw [e1, e2, ih, List.nil_append]
/-- A letter's bytes, in a block of those of F. -/
structure LtB (W : World) (F : Nat → Prop) (x : Ltr) : Prop where
  len : x.k.bs.length = x.n
  bnd : x.n ≤ 1000000
  rd : x.k.bs ≠ [] → ∃ k o, x.A = some ⟨k, o, none⟩ ∧ F k ∧ k < W.heap.size ∧ ∀ i u, (bv x.k.bs)[i]? = some u → W.cell? ⟨k, o + i, none⟩ = some u
theorem LtB.keep {W W' : World} {F : Nat → Prop} {x : Ltr} (h : LtB W F x) (hs : W.heap.size ≤ W'.heap.size) (hk : ∀ k, F k → k < W.heap.size → W'.heap[k]? = W.heap[k]?) : LtB W' F x :=
  ⟨h.len, h.bnd, fun hn => by
    obtain ⟨k, o, e, hF, hlt, hc⟩ := h.rd hn
    exact ⟨k, o, e, hF, Nat.lt_of_lt_of_le hlt hs, fun i u hu => (World.cell?_of_block (w := W) (a := ⟨k, o + i, none⟩) (hk k hF hlt)).trans (hc i u hu)⟩⟩
theorem LtB.mono {W : World} {F G : Nat → Prop} {x : Ltr} (h : LtB W F x) (hF : ∀ k, F k → G k) : LtB W G x :=
  ⟨h.len, h.bnd, fun hn => by
    obtain ⟨k, o, e, hf, r⟩ := h.rd hn
    exact ⟨k, o, e, hF k hf, r⟩⟩
theorem LtB.read {W : World} {F : Nat → Prop} {x : Ltr} (h : LtB W F x) : Rd W W.heap.size x.A (bv x.k.bs) := fun hn => by
  obtain ⟨k, o, e, _, hlt, hc⟩ := h.rd (by rintro e; rw [e] at hn; exact hn rfl)
  exact ⟨k, o, e, hlt, hc⟩
theorem LtB.of_rd {W : World} {F : Nat → Prop} {x : Ltr} (hl : x.k.bs.length = x.n) (hb : x.n ≤ 1000000) (hr : Rd W W.heap.size x.A (bv x.k.bs)) (hF : ∀ k o, x.A = some ⟨k, o, none⟩ → F k) : LtB W F x :=
  ⟨hl, hb, fun hn => by
    obtain ⟨k, o, e, hlt, hc⟩ := hr (by simpa [bv] using hn)
    exact ⟨k, o, e, hF k o e, hlt, hc⟩⟩
/-- A net in block b, of cells cs; its letters' slice v; the bytes in blocks of F. -/
structure NetS (W : World) (base b : Nat) (cs : List Value) (v : Value) (F : Nat → Prop) (l : List Ltr) : Prop where
  lt : b < W.heap.size
  lo : base ≤ b
  fz : ∀ o, W.frozen? ⟨b, o, none⟩ = false
  cell : ∀ i u, cs[i]? = some u → W.cell? ⟨b, i, none⟩ = some u
  own : W.ownsRow base 51 4 v l.length (lv l)
  ne : v.ownBlock ≠ some b
  Fp : ∀ k, F k → k < W.heap.size ∧ base ≤ k ∧ k ≠ b ∧ v.ownBlock ≠ some k
  byt : ∀ x ∈ l, LtB W F x
  len : l.length ≤ 2048
theorem ownsRow_of {W W' : World} {base n size : Nat} {e : TypeId} {v : Value} {xs : List Value} (h : W.ownsRow base e size v n xs) (hk : ∀ g, v.ownBlock = some g → W'.heap[g]? = W.heap[g]?) : W'.ownsRow base e size v n xs := by
  refine ⟨h.1, ?_⟩
  rcases h.2 with hn | ⟨g, cap, cur, e0, hg, hh, rest⟩
  · exact .inl hn
  · refine .inr ⟨g, cap, cur, e0, hg, ?_, rest⟩
    subst e0
    rw [hk g rfl]
    exact hh
theorem NetS.keep {W W' : World} {base b : Nat} {cs : List Value} {v : Value} {F : Nat → Prop} {l : List Ltr} (h : NetS W base b cs v F l) (hs : W.heap.size ≤ W'.heap.size)
    (hk : ∀ k, k < W.heap.size → (k = b ∨ v.ownBlock = some k ∨ F k) → W'.heap[k]? = W.heap[k]?) : NetS W' base b cs v F l := by
  have hb := hk b h.lt (.inl rfl)
  refine ⟨Nat.lt_of_lt_of_le h.lt hs, h.lo, fun o => (World.frozen?_of_block (w := W) (a := ⟨b, o, none⟩) hb).trans (h.fz o), fun i u hu => (World.cell?_of_block (w := W) (a := ⟨b, i, none⟩) hb).trans (h.cell i u hu), ?_, h.ne, fun k hF => ?_, fun x hx => ?_, h.len⟩
  · exact ownsRow_of h.own (fun g e => hk g (h.own.lt g e).2 (.inr (.inl e)))
  · obtain ⟨h1, h2⟩ := h.Fp k hF
    exact ⟨Nat.lt_of_lt_of_le h1 hs, h2⟩
  · exact (h.byt x hx).keep hs (fun k hF hlt => hk k hlt (.inr (.inr hF)))
theorem NetS.next {W W' : World} {base b : Nat} {cs : List Value} {v : Value} {F : Nat → Prop} {l : List Ltr} (h : NetS W base b cs v F l) (hb : Below W.heap.size W W') : NetS W' base b cs v F l :=
  h.keep hb.size (fun k hk _ => hb.block k hk)
/-- What the letters' slice is. -/
theorem NetS.row {W : World} {base b : Nat} {cs : List Value} {v : Value} {F : Nat → Prop} {l : List Ltr} (h : NetS W base b cs v F l) :
    ∃ A c, v = .slice A l.length c ∧ l.length ≤ c ∧ c ≤ maxLen ∧ (l ≠ [] → ∃ g, A = some ⟨g, 0, none⟩ ∧ g < W.heap.size ∧ ∀ j x i u, l[j]? = some x → (ltc x)[i]? = some u → W.cell? ⟨g, j * 4 + i, none⟩ = some u) := by
  rcases h.own.2 with ⟨hv, h0⟩ | ⟨g, cap, cur, e0, _, _, h1, h2, _⟩
  · have : l = [] := List.eq_nil_of_length_eq_zero h0
    subst this hv
    exact ⟨none, 0, rfl, Nat.le_refl _, Nat.zero_le _, fun h => absurd rfl h⟩
  · subst e0
    refine ⟨_, cap, rfl, h1, h2, fun hn => ⟨g, rfl, (h.own.lt g rfl).2, fun j x i u hj hu => ?_⟩⟩
    have e1 := lv_get l j i x u hj hu
    rw [h.own.cellAt (j * 4 + i) (by rw [← lv_length]; exact (List.getElem?_eq_some_iff.1 e1).1)]
    exact e1
theorem NetS.rd {W : World} {base b : Nat} {cs : List Value} {A : Option Addr} {n c : Nat} {F : Nat → Prop} {l : List Ltr} (h : NetS W base b cs (.slice A n c) F l) : Rd W W.heap.size A (lv l) := by
  obtain ⟨A', c', e, _, _, hr⟩ := h.row
  injection e with e1 e2 e3
  subst e1 e2 e3
  intro hn
  obtain ⟨g, rfl, hg, hc⟩ := hr (by rintro rfl; exact hn rfl)
  refine ⟨g, 0, rfl, hg, fun i u hu => ?_⟩
  rw [Nat.zero_add, h.own.cellAt i (by rw [← lv_length]; exact (List.getElem?_eq_some_iff.1 hu).1)]
  exact hu
/-- A net of these letters, in memory of its own since W (but for b, the row and F). -/
def NetG (base b : Nat) (row : Option Nat) (F : Nat → Prop) (cs : Value → List Value) (ks : List Key) (W w' : World) : Prop :=
  Fr b row W w' ∧ ∃ v' F' l', NetS w' base b (cs v') v' F' l' ∧ l'.map Ltr.k = ks ∧ (v'.ownBlock = row ∨ ∀ g, v'.ownBlock = some g → W.heap.size ≤ g) ∧ ∀ k, F' k → F k ∨ W.heap.size ≤ k
theorem NetG.same {W w' : World} {base b : Nat} {cs : Value → List Value} {v : Value} {F : Nat → Prop} {l : List Ltr} (h : NetS W base b (cs v) v F l) (hb : Below W.heap.size W w') : NetG base b v.ownBlock F cs (l.map Ltr.k) W w' :=
  ⟨Fr.of_below hb, v, F, l, h.next hb, rfl, .inl rfl, fun k hk => .inl hk⟩
theorem NetG.post {W w' w'' : World} {base b : Nat} {row : Option Nat} {F : Nat → Prop} {cs : Value → List Value} {ks : List Key} (h : NetG base b row F cs ks W w') (hb : Below w'.heap.size w' w'') : NetG base b row F cs ks W w'' := by
  obtain ⟨h1, v', F', l', h2, h3, h4, h5⟩ := h
  exact ⟨h1.below hb, v', F', l', h2.next hb, h3, h4, h5⟩
theorem NetG.pre {W w w' : World} {base b : Nat} {row : Option Nat} {F : Nat → Prop} {cs : Value → List Value} {ks : List Key} (hb : Below W.heap.size W w) (h : NetG base b row F cs ks w w') : NetG base b row F cs ks W w' := by
  obtain ⟨h1, v', F', l', h2, h3, h4, h5⟩ := h
  refine ⟨Fr.pre hb h1, v', F', l', h2, h3, ?_, fun k hk => ?_⟩
  · rcases h4 with h4 | h4
    · exact .inl h4
    · exact .inr (fun g e => Nat.le_trans hb.size (h4 g e))
  · rcases h5 k hk with h | h
    · exact .inl h
    · exact .inr (Nat.le_trans hb.size h)
/-- The cells of the two nets. -/
def csP (nodes last : Int) (v : Value) : List Value := [.int .i64 nodes, .int .i64 last, v]
def csR (nodes last : Int) (v : Value) : List Value := [.bool true, .int .i64 nodes, v, .int .i64 last]
end Go.Proofs.Ytlpdihcgdgkkbaa
