/- A question to a table that comes in. -/
import Derived.Test.YtdmpimgbnhgiaaaZBase
import Derived.Test.YtdmpimgbnhgiaaaZEm
import Derived.Test.YtdmpimgbnhgiaaaZUt
import Derived.ProofKit
import Derived.Deep.Slices
import Derived.OpenShut
import Derived.Test.YtdmpimgbnhgiaaaRows
import Derived.SizedLaws
import Derived.Deep.CondSized
import Derived.JoinedCond
import Derived.ShutString
import Derived.ChangeOld

namespace Go.St
open Go.RowKit Go.ChangeShapes Go.WideShapes

/-- The cells cs fit type t, to depth d: every list and text is at most N long. -/
def fits (P : Program) (w : World) (B N : Nat) : Nat → TypeId → List Value → Prop
  | 0, _, _ => True
  | d + 1, t, cs =>
    match P.underlying t with
    | some .bool => ∃ b, cs = [.bool b]
    | some (.int k) => ∃ z, cs = [.int k z] ∧ (Lit.int k z).wf = true
    | some .string => ∃ s, cs = [.string s] ∧ s.size ≤ N
    | some (.slice e) => ∃ A len cap, cs = [.slice A len cap] ∧ len ≤ cap ∧ cap ≤ N ∧ ∃ css : List (List Value), css.length = len ∧
        (∀ c ∈ css, c.length = P.cellsOf e ∧ fits P w B N d e c) ∧ Rd w B A css.flatten
    | some (.struct fs) => cs.length = P.cellsOf t ∧ ∀ (i : Nat) (f : Field), fs[i]? = some f → fits P w B N d f.type ((cs.drop f.offset).take (P.cellsOf f.type))
    | some (.array n e) => cs.length = P.cellsOf t ∧ ∀ i, i < n → fits P w B N d e ((cs.drop (i * P.cellsOf e)).take (P.cellsOf e))
    | _ => True

/-- Every slice type that is reached has elements of a cell or more, of a byte or more. -/
def reachOK (P : Program) : Nat → TypeId → Bool
  | 0, _ => true
  | d + 1, t =>
    match P.underlying t with
    | some (.slice e) => decide (0 < P.cellsOf e) && decide (0 < P.bytesOf e) && reachOK P d e
    | some (.struct fs) => fs.all fun f => reachOK P d f.type
    | some (.array _ e) => reachOK P d e
    | _ => true

/-- A measure on data, handed on to the parts: lists and texts are at most N long. -/
structure Meas (P : Program) (H : Type) (N : Nat) (S : TypeId → DataW H → Prop) : Prop where
  str : ∀ t l, S t (.lit (.string l)) → l.length ≤ N
  sl : ∀ t e es sp, P.underlying t = some (.slice e) → 0 < P.bytesOf e → S t (.slice es sp) → es.length + sp.length ≤ N ∧ ∀ d ∈ es, S e d
  st : ∀ t fs parts, P.underlying t = some (.struct fs) → S t (.agg parts) → ∀ (i : Nat) (f : Field) d, fs[i]? = some f → parts[i]? = some d → S f.type d
  ar : ∀ t n e parts, P.underlying t = some (.array n e) → S t (.agg parts) → ∀ d ∈ parts, S e d

theorem flatten_get {n : Nat} : ∀ (css : List (List Value)), (∀ c ∈ css, c.length = n) → ∀ (i j : Nat) (c : List Value) (v : Value), css[i]? = some c → c[j]? = some v → css.flatten[i * n + j]? = some v := by
  intro css
  induction css with
  | nil => intro _ i j c v h; simp at h
  | cons x r ih =>
    intro hl i j c v hc hv
    have hx := hl x (by simp)
    cases i with
    | zero =>
      simp at hc
      subst hc
      rw [List.flatten_cons, Nat.zero_mul, Nat.zero_add, List.getElem?_append_left (by
        have := (List.getElem?_eq_some_iff.1 hv).1
        omega)]
      exact hv
    | succ i =>
      rw [List.flatten_cons, List.getElem?_append_right (by rw [Nat.succ_mul]; omega), hx, show (i + 1) * n + j - n = i * n + j by rw [Nat.succ_mul]; omega]
      exact ih (fun c h => hl c (by simp [h])) i j c v (by simpa using hc) hv

theorem flatten_length {n : Nat} : ∀ (css : List (List Value)), (∀ c ∈ css, c.length = n) → css.flatten.length = css.length * n := by
  intro css
  induction css with
  | nil => intro _; simp
  | cons x r ih =>
    intro hl
    rw [List.flatten_cons, List.length_append, ih (fun c h => hl c (by simp [h])), hl x (by simp), List.length_cons, Nat.succ_mul, Nat.add_comm]

/-- Cells that stand at an address, row by row, read as one list. -/
theorem Rd.of_rows {w : World} {base : Nat} {a : Addr} {n : Nat} (hn : 0 < n) : ∀ (css : List (List Value)), (∀ c ∈ css, c.length = n) →
    (∀ (i : Nat) (c : List Value), css[i]? = some c → w.cells? base (a.add (i * n)) n = some c) → Rd w w.heap.size (some a) css.flatten := by
  intro css hl hc hne
  obtain ⟨b, off, sp⟩ := a
  have h0 : ∃ c, css[0]? = some c := by
    cases css with
    | nil => simp at hne
    | cons c r => exact ⟨c, rfl⟩
  obtain ⟨c0, hc0⟩ := h0
  have h1 := hc 0 c0 hc0
  obtain ⟨_, hl1, hat⟩ := World.cells?_some h1
  have hv0 : ∃ v, c0[0]? = some v := ⟨_, List.getElem?_eq_getElem (by omega)⟩
  obtain ⟨v0, hv0⟩ := hv0
  have hcell0 : w.cell? ⟨b, off, sp⟩ = some v0 := by
    have := hat 0 hn
    rw [hv0] at this
    simpa [Addr.add] using this
  have hsp : sp = none := World.cell?_spot hcell0
  subst hsp
  refine ⟨b, off, rfl, World.block_lt_of_cell? w _ hcell0, fun k v hk => ?_⟩
  have hkl : k < css.length * n := by
    have := (List.getElem?_eq_some_iff.1 hk).1
    rwa [flatten_length css hl] at this
  have hi : k / n < css.length := by
    rw [Nat.div_lt_iff_lt_mul hn]
    exact hkl
  have hci : css[k / n]? = some (css[k / n]) := List.getElem?_eq_getElem hi
  obtain ⟨_, hlk, hatk⟩ := World.cells?_some (hc _ _ hci)
  have hj : k % n < n := Nat.mod_lt _ hn
  have hvj : (css[k / n])[k % n]? = some ((css[k / n])[k % n]'(by omega)) := List.getElem?_eq_getElem (by omega)
  have hflat := flatten_get css hl (k / n) (k % n) _ _ hci hvj
  have hkk : k / n * n + k % n = k := by
    rw [Nat.mul_comm]
    exact Nat.div_add_mod k n
  rw [hkk, hk] at hflat
  have hcell := hatk (k % n) hj
  rw [hvj, ← hflat] at hcell
  rw [← hcell]
  congr 1
  unfold Addr.add
  by_cases e1 : k / n * n = 0 <;> by_cases e2 : k % n = 0 <;> simp [e1, e2] <;> omega

section
variable {H : Type} {enc : TypeId × Value → H} {P : Program} {w : World} {base N : Nat} {spare : Nat → Bool} {held : Bool} {S : TypeId → DataW H → Prop}

theorem fits_of_trod (M : Meas P H N S) (hsp : ∀ b, spare b = true) :
    ∀ (d fuel : Nat) (t : TypeId) (cs : List Value) (x : DataW H × List MemPlace), reachOK P d t = true → DataW.trod enc P w base spare held fuel t cs = some x → S t x.1 → fits P w w.heap.size N d t cs := by
  intro d
  induction d with
  | zero => intro _ _ _ _ _ _ _; trivial
  | succ d ih =>
    intro fuel t cs x hok h hS
    unfold reachOK at hok
    unfold fits
    split
    · rename_i hu
      cases fuel with
      | zero => simp [DataW.trod] at h
      | succ n =>
        unfold DataW.trod at h
        rw [hu] at h
        split at h <;> simp_all
    · rename_i k hu
      obtain ⟨z, h1, _, h3⟩ := DataW.trod_int hu h
      exact ⟨z, h1, h3⟩
    · rename_i hu
      cases fuel with
      | zero => simp [DataW.trod] at h
      | succ n =>
        unfold DataW.trod at h
        rw [hu] at h
        split at h <;> simp_all
        obtain ⟨_, hx⟩ := h
        subst hx
        have := M.str _ _ hS
        simpa using this
    · rename_i e hu
      rcases DataW.trod_slice hu h with ⟨hcs, hx⟩ | ⟨a, len, cap, elems, rest, n, _, hcs, hx, _, hlc, _, hlen, hel, hsp', _⟩
      · exact ⟨none, 0, 0, hcs, Nat.le_refl _, Nat.zero_le _, [], rfl, by simp, by simpa using Rd.nil⟩
      · have hrl := (hsp' (hsp _)).1
        rw [hx] at hS
        have hok' : (0 < P.cellsOf e ∧ 0 < P.bytesOf e) ∧ reachOK P d e = true := by simpa [hu] using hok
        have hm := M.sl t e _ _ hu hok'.1.2 hS
        simp only [List.length_map] at hm
        have hcss : ∃ css : List (List Value), css.length = len ∧ ∀ (i : Nat) (c : List Value), css[i]? = some c → w.cells? base (a.add (i * P.cellsOf e)) (P.cellsOf e) = some c := by
          have : ∀ k, k ≤ len → ∃ css : List (List Value), css.length = k ∧ ∀ (i : Nat) (c : List Value), css[i]? = some c → w.cells? base (a.add (i * P.cellsOf e)) (P.cellsOf e) = some c := by
            intro k
            induction k with
            | zero => intro _; exact ⟨[], rfl, by simp⟩
            | succ k ihk =>
              intro hk
              obtain ⟨css, hl, hg⟩ := ihk (by omega)
              have := hel k (by omega)
              rw [List.getElem?_eq_getElem (by omega)] at this
              obtain ⟨c, hc, _⟩ := Option.bind_eq_some_iff.1 this
              refine ⟨css ++ [c], by simp [hl], fun i c' hi => ?_⟩
              rcases Nat.lt_or_ge i css.length with h1 | h1
              · rw [List.getElem?_append_left h1] at hi
                exact hg i c' hi
              · rw [List.getElem?_append_right h1] at hi
                have : i = k := by
                  have := (List.getElem?_eq_some_iff.1 hi).1
                  simp at this
                  omega
                subst this
                rw [hl, Nat.sub_self] at hi
                simp at hi
                subst hi
                exact hc
          exact this len (Nat.le_refl _)
        obtain ⟨css, hl, hg⟩ := hcss
        have hall : ∀ c ∈ css, c.length = P.cellsOf e ∧ fits P w w.heap.size N d e c := by
          intro c hc
          obtain ⟨i, hi, rfl⟩ := List.getElem_of_mem hc
          have h1 := hg i _ (List.getElem?_eq_getElem hi)
          have h2 := hel i (by omega)
          rw [h1, Option.bind_some, List.getElem?_eq_getElem (by omega)] at h2
          exact ⟨(World.cells?_some h1).2.1, ih _ _ _ _ hok'.2 h2 (hm.2 _ (List.mem_map_of_mem (List.getElem_mem _)))⟩
        exact ⟨some a, len, cap, hcs, hlc, by omega, css, hl, hall, Rd.of_rows hok'.1.1 css (fun c h => (hall c h).1) hg⟩
    · rename_i fs hu
      obtain ⟨xs, n, _, hx, hl, hxl, hf⟩ := DataW.trod_struct hu h
      refine ⟨hl, fun i f hi => ?_⟩
      have h1 := hf i f hi
      have hil : i < xs.length := by
        have := (Array.getElem?_eq_some_iff.1 hi).1
        omega
      rw [List.getElem?_eq_getElem hil] at h1
      rw [hx] at hS
      have hokf : reachOK P d f.type = true := by
        rw [hu] at hok
        exact (Array.all_eq_true_iff_forall_mem.1 hok) f (Array.mem_of_getElem? hi)
      exact ih _ _ _ _ hokf h1 (M.st t fs _ hu hS i f _ hi (by simp [hil]))
    · rename_i n e hu
      obtain ⟨xs, m, _, hx, hl, hxl, hf⟩ := DataW.trod_array hu h
      refine ⟨hl, fun i hi => ?_⟩
      have hg := hf i hi
      rw [List.getElem?_eq_getElem (by omega)] at hg
      rw [hx] at hS
      have hoke : reachOK P d e = true := by simpa [hu] using hok
      exact ih _ _ _ _ hoke hg (M.ar t n e _ hu hS _ (List.mem_map_of_mem (List.getElem_mem _)))
    · trivial
end

/-- What all of a list fit is a list of what each fits. -/
theorem lift_list {α : Type} {f : α → List Value} {p : α → Prop} : ∀ (css : List (List Value)), (∀ c ∈ css, ∃ x, c = f x ∧ p x) → ∃ l : List α, css = l.map f ∧ ∀ x ∈ l, p x := by
  intro css
  induction css with
  | nil => intro _; exact ⟨[], rfl, by simp⟩
  | cons c r ih =>
    intro h
    obtain ⟨x, hx, px⟩ := h c (by simp)
    obtain ⟨l, hl, pl⟩ := ih (fun c hc => h c (by simp [hc]))
    exact ⟨x :: l, by rw [hx, hl]; rfl, by
      intro y hy
      rcases List.mem_cons.1 hy with rfl | h
      · exact px
      · exact pl y h⟩

theorem flat_one (l : List UInt8) : (l.map fun c => [bt c]).flatten = bv l := by
  induction l with
  | nil => rfl
  | cons c r ih => rw [List.map_cons, List.flatten_cons, ih]; rfl

/-- Cells of bytes are bytes. -/
theorem lift_bytes (css : List (List Value)) (h : ∀ c ∈ css, ∃ z, c = [.int .u8 z] ∧ (Lit.int .u8 z).wf = true) : ∃ bs : List UInt8, css.flatten = bv bs ∧ bs.length = css.length := by
  obtain ⟨l, hl, _⟩ := lift_list (f := fun c : UInt8 => [bt c]) (p := fun _ => True) css (fun c hc => by
    obtain ⟨z, rfl, hz⟩ := h c hc
    have hb : 0 ≤ z ∧ z ≤ 255 := by simpa [Lit.wf, IntKind.min, IntKind.max, IntKind.signed, IntKind.bits] using hz
    refine ⟨UInt8.ofNat z.toNat, ?_, trivial⟩
    have : ((UInt8.ofNat z.toNat).toNat : Int) = z := by
      simp [UInt8.toNat_ofNat']
      omega
    show [Value.int .u8 z] = [Value.int .u8 _]
    rw [this])
  refine ⟨l, ?_, by rw [hl]; simp⟩
  rw [hl]
  exact flat_one l

/-- A byte list that comes in. -/
theorem fits_bytes {P : Program} {w : World} {B N d : Nat} {t e : TypeId} {cs : List Value} (ht : P.underlying t = some (.slice e)) (he : P.underlying e = some (.int .u8)) (h : fits P w B N (d + 2) t cs) :
    ∃ A n c, ∃ bs : List UInt8, cs = [.slice A n c] ∧ bs.length = n ∧ n ≤ c ∧ c ≤ N ∧ Rd w B A (bv bs) := by
  unfold fits at h
  rw [ht] at h
  obtain ⟨A, len, cap, rfl, hlc, hcN, css, hl, hf, hr⟩ := h
  obtain ⟨bs, hb, hbl⟩ := lift_bytes css (fun c hc => by
    have := (hf c hc).2
    unfold fits at this
    rw [he] at this
    exact this)
  exact ⟨A, len, cap, bs, rfl, by omega, hlc, hcN, by rw [← hb]; exact hr⟩
end Go.St

namespace Go.Proofs.Ytdmpimgbnhgiaaa
open Go.RowKit Go.ChangeShapes Go.WideShapes Go.ChangeAt Go.St

theorem own_ : ownKnob Try.prog.godebug = none := by kernel_rfl
theorem laidOut_ : laidOutB Try.prog = true := by kernel_rfl

theorem bulk_mem {H : Type} {d : DataW H} {l : List (DataW H)} (h : d ∈ l) : Rows.uptoBulk d ≤ Rows.uptoBulkAll l := by
  induction l with
  | nil => cases h
  | cons x r ih =>
    simp only [Rows.uptoBulkAll]
    rcases List.mem_cons.1 h with e | e
    · subst e; omega
    · have := ih e; omega
theorem bulk_one {H : Type} (d : DataW H) : 1 ≤ Rows.uptoBulk d := by
  cases d with
  | lit l => cases l <;> simp [Rows.uptoBulk]
  | _ => simp [Rows.uptoBulk]
theorem bulk_len {H : Type} (l : List (DataW H)) : l.length ≤ Rows.uptoBulkAll l := by
  induction l with
  | nil => simp [Rows.uptoBulkAll]
  | cons x r ih => have := bulk_one x; simp only [Rows.uptoBulkAll, List.length_cons]; omega

theorem meas_upto (H : Type) : Meas Try.prog H 1048576 (fun _ d => Rows.uptoBulk d ≤ 1048576) where
  str := fun _ l h => by simp [Rows.uptoBulk] at h; omega
  sl := fun _ _ es sp _ _ h => by
    simp only [Rows.uptoBulk] at h
    have h1 := bulk_len es
    have h2 := bulk_len sp
    exact ⟨by omega, fun d hd => by have := bulk_mem hd; omega⟩
  st := fun _ _ parts _ h i f d _ hd => by
    simp only [Rows.uptoBulk] at h
    have := bulk_mem (List.mem_of_getElem? hd)
    omega
  ar := fun _ _ _ parts _ h d hd => by
    simp only [Rows.uptoBulk] at h
    have := bulk_mem hd
    omega

theorem weights_all {H : Type} {P : Program} {e : TypeId} {l : List (DataW H)} {d : DataW H} (h : d ∈ l) : ∀ n ∈ d.weights P e, n ∈ DataW.weightsAll P e l := by
  induction l with
  | nil => cases h
  | cons x r ih =>
    intro n hn
    rw [DataW.weightsAll]
    rcases List.mem_cons.1 h with e | e
    · subst e; exact List.mem_append_left _ hn
    · exact List.mem_append_right _ (ih e n hn)

theorem meas_reach (H : Type) : Meas Try.prog H 140737488351232 (fun t d => ∀ n ∈ DataW.weights Try.prog t d, n ≤ 140737488351232) where
  str := fun _ l h => by
    have := h l.length (by simp [DataW.weights])
    exact this
  sl := fun t e es sp hu hpos h => by
    have hw : DataW.weights Try.prog t (.slice es sp) = (es.length + sp.length) * Try.prog.bytesOf e :: (DataW.weightsAll Try.prog e es ++ DataW.weightsAll Try.prog e sp) := by
      rw [DataW.weights, hu]
    rw [hw] at h
    have h1 := h _ (List.mem_cons_self ..)
    have h2 := Nat.le_mul_of_pos_right (es.length + sp.length) hpos
    exact ⟨by omega, fun d hd n hn => h n (List.mem_cons_of_mem _ (List.mem_append_left _ (weights_all hd n hn)))⟩
  st := fun t fs parts hu h i f d hf hd n hn => by
    have hw : DataW.weights Try.prog t (.agg parts) = DataW.weightsEach Try.prog (fs.toList.map (·.type)) parts := by
      rw [DataW.weights, hu]
    rw [hw] at h
    refine h n (DataW.weights_mem_each (j := i) (t := f.type) (d := d) ?_ hd n hn)
    rw [List.getElem?_map, Array.getElem?_toList, hf]
    rfl
  ar := fun t k e parts hu h d hd n hn => by
    have hw : DataW.weights Try.prog t (.agg parts) = DataW.weightsAll Try.prog e parts := by
      rw [DataW.weights, hu]
    rw [hw] at h
    exact h n (weights_all hd n hn)

end Go.Proofs.Ytdmpimgbnhgiaaa

namespace Go.Proofs.Ytdmpimgbnhgiaaa
open Go.RowKit Go.ChangeShapes Go.WideShapes Go.ChangeAt Go.St
set_option linter.unusedVariables false
set_option linter.unusedSimpArgs false
set_option maxRecDepth 100000

theorem wf64e {z : Int} (h : (Lit.int .i64 z).wf = true) : -9223372036854775808 ≤ z ∧ z ≤ 9223372036854775807 := by simpa [Lit.wf, IntKind.min, IntKind.max, IntKind.signed, IntKind.bits] using h
/-- An entry's fields lie in their types. -/
def InE (N : Nat) (x : Ent) : Prop := x.key.size ≤ N ∧ x.val.size ≤ N ∧ (-9223372036854775808 ≤ x.seq ∧ x.seq ≤ 9223372036854775807)

theorem fits_ent {w : World} {B N d : Nat} {cs : List Value} (ft : fits Try.prog w B N (d + 2) 40 cs) : ∃ x : Ent, cs = x.c ∧ InE N x := by
  unfold fits at ft
  rw [Try.underlying40] at ft
  obtain ⟨hl, hf⟩ := ft
  have hc : Try.prog.cellsOf 40 = 4 := by kernel_rfl
  have k9 : Try.prog.cellsOf 9 = 1 := by kernel_rfl
  have k3 : Try.prog.cellsOf 3 = 1 := by kernel_rfl
  have k4 : Try.prog.cellsOf 4 = 1 := by kernel_rfl
  rw [hc] at hl
  match cs, hl with
  | [c0, c1, c2, c3], _ =>
    have h0 : fits Try.prog w B N (d + 1) 9 (([c0, c1, c2, c3].drop 0).take (Try.prog.cellsOf 9)) := hf 0 _ rfl
    have h1 : fits Try.prog w B N (d + 1) 9 (([c0, c1, c2, c3].drop 1).take (Try.prog.cellsOf 9)) := hf 1 _ rfl
    have h2 : fits Try.prog w B N (d + 1) 3 (([c0, c1, c2, c3].drop 2).take (Try.prog.cellsOf 3)) := hf 2 _ rfl
    have h3 : fits Try.prog w B N (d + 1) 4 (([c0, c1, c2, c3].drop 3).take (Try.prog.cellsOf 4)) := hf 3 _ rfl
    rw [k9] at h0 h1
    rw [k3] at h2
    rw [k4] at h3
    unfold fits at h0 h1 h2 h3
    rw [Try.underlying9] at h0 h1
    rw [Try.underlying3] at h2
    rw [Try.underlying4] at h3
    obtain ⟨x, e0, f0⟩ := h0
    obtain ⟨y, e1, f1⟩ := h1
    obtain ⟨z, e2, f2⟩ := h2
    obtain ⟨b, e3⟩ := h3
    simp at e0 e1 e2 e3
    subst e0 e1 e2 e3
    exact ⟨⟨x, y, z, b⟩, rfl, f0, f1, wf64e f2⟩
/-- A list of entries: where it lies, what it holds. -/
structure EntsArg (w : World) where
  A : Option Addr
  n : Nat
  c : Nat
  l : List Ent
  hl : l.length = n
  hc : n ≤ c
  hn : c ≤ 140737488351232
  hin : ∀ a ∈ l, InE 140737488351232 a
  rd : Rd w w.heap.size A (env l)

theorem open_ents {w : World} {b0 : Nat} {r : Reach} {v : Value} (hv : Value.okWide Try.prog w r b0 22 v) (ft : fits Try.prog w w.heap.size 140737488351232 8 22 v.cells.toList) :
    ∃ x : EntsArg w, v = .slice x.A x.n x.c ∧ True := by
  obtain ⟨A, n, c, rfl⟩ := okWide_slice Try.underlying22 hv
  unfold fits at ft
  rw [Try.underlying22] at ft
  obtain ⟨A', n', c', e, hlc, hcN, css, hl, hf, hr⟩ := ft
  obtain ⟨rfl, rfl, rfl⟩ : A = A' ∧ n = n' ∧ c = c' := by simpa [Value.cells] using e
  obtain ⟨l, hll, hin⟩ := lift_list (f := Ent.c) (p := InE 140737488351232) css (fun c hc => fits_ent (d := 5) (hf c hc).2)
  refine ⟨⟨A, n, c, l, by rw [← hl, hll, List.length_map], hlc, hcN, hin, ?_⟩, rfl, trivial⟩
  unfold env
  rw [← hll]
  exact hr
end Go.Proofs.Ytdmpimgbnhgiaaa

namespace Go.Proofs.Ytdmpimgbnhgiaaa
open Go.RowKit Go.ChangeShapes Go.WideShapes Go.ChangeAt Go.St
set_option linter.unusedVariables false
set_option linter.unusedSimpArgs false

set_option maxRecDepth 100000
structure Spn where
  f : ByteArray
  t : ByteArray
def InSp (s : Spn) : Prop := s.f.size ≤ 140737488351232 ∧ s.t.size ≤ 140737488351232

theorem fits_span {w : World} {B d : Nat} {cs : List Value} (ft : fits Try.prog w B 140737488351232 (d + 2) 47 cs) : ∃ s : Spn, cs = [.string s.f, .string s.t] ∧ InSp s := by
  unfold fits at ft
  rw [Try.underlying47] at ft
  obtain ⟨hl, hf⟩ := ft
  have hc : Try.prog.cellsOf 47 = 2 := by kernel_rfl
  have k2 : Try.prog.cellsOf 9 = 1 := by kernel_rfl
  rw [hc] at hl
  match cs, hl with
  | [c0, c1], _ =>
    have h0 : fits Try.prog w B 140737488351232 (d + 1) 9 (([c0, c1].drop 0).take (Try.prog.cellsOf 9)) := hf 0 _ rfl
    have h1 : fits Try.prog w B 140737488351232 (d + 1) 9 (([c0, c1].drop 1).take (Try.prog.cellsOf 9)) := hf 1 _ rfl
    rw [k2] at h0 h1
    unfold fits at h0 h1
    rw [Try.underlying9] at h0 h1
    obtain ⟨x, e0, f0⟩ := h0
    obtain ⟨y, e1, f1⟩ := h1
    simp at e0 e1
    subst e0 e1
    exact ⟨⟨x, y⟩, rfl, f0, f1⟩

theorem open_span {w : World} {B b0 : Nat} {r : Reach} {v : Value} (hv : Value.okWide Try.prog w r b0 47 v) (ft : fits Try.prog w B 140737488351232 8 47 v.cells.toList) :
    ∃ s : Spn, v = .agg #[.string s.f, .string s.t] ∧ InSp s := by
  obtain ⟨cs, rfl, hsz⟩ := okWide_struct Try.underlying47 hv
  obtain ⟨s, e, h⟩ := fits_span ft
  refine ⟨s, ?_, h⟩
  obtain ⟨l⟩ := cs
  simp only [Value.cells] at e
  rw [e]
end Go.Proofs.Ytdmpimgbnhgiaaa

namespace Go.Proofs.Ytdmpimgbnhgiaaa
open Go.RowKit Go.ChangeShapes Go.WideShapes Go.ChangeAt Go.St
set_option linter.unusedVariables false
set_option linter.unusedSimpArgs false
set_option maxRecDepth 100000

theorem fits_askT {w : World} {B d : Nat} {cs : List Value} (ft : fits Try.prog w B 140737488351232 (d + 3) 49 cs) : ∃ a : AskT, cs = a.c ∧ InAskT a := by
  unfold fits at ft
  rw [Try.underlying49] at ft
  obtain ⟨hl, hf⟩ := ft
  have hc : Try.prog.cellsOf 49 = 5 := by kernel_rfl
  have k9 : Try.prog.cellsOf 9 = 1 := by kernel_rfl
  have k3 : Try.prog.cellsOf 3 = 1 := by kernel_rfl
  have k2 : Try.prog.cellsOf 47 = 2 := by kernel_rfl
  rw [hc] at hl
  match cs, hl with
  | [c0, c1, c2, c3, c4], _ =>
    have h0 : fits Try.prog w B 140737488351232 (d + 2) 3 (([c0, c1, c2, c3, c4].drop 0).take (Try.prog.cellsOf 3)) := hf 0 _ rfl
    have h1 : fits Try.prog w B 140737488351232 (d + 2) 9 (([c0, c1, c2, c3, c4].drop 1).take (Try.prog.cellsOf 9)) := hf 1 _ rfl
    have h2 : fits Try.prog w B 140737488351232 (d + 2) 3 (([c0, c1, c2, c3, c4].drop 2).take (Try.prog.cellsOf 3)) := hf 2 _ rfl
    have h3 : fits Try.prog w B 140737488351232 (d + 2) 47 (([c0, c1, c2, c3, c4].drop 3).take (Try.prog.cellsOf 47)) := hf 3 _ rfl
    obtain ⟨s, e3, f3, g3⟩ := fits_span h3
    rw [k9] at h1
    rw [k3] at h0 h2
    rw [k2] at e3
    unfold fits at h0 h1 h2
    rw [Try.underlying9] at h1
    rw [Try.underlying3] at h0 h2
    obtain ⟨x, e0, f0⟩ := h0
    obtain ⟨y, e1, f1⟩ := h1
    obtain ⟨z, e2, f2⟩ := h2
    simp at e0 e1 e2 e3
    obtain ⟨e4, e5⟩ := e3
    subst e0 e1 e2 e4 e5
    exact ⟨⟨x, y, z, s.f, s.t⟩, rfl, wf64e f0, f1, wf64e f2, f3, g3⟩
theorem open_askT {w : World} {B b0 : Nat} {r : Reach} {v : Value} (hv : Value.okWide Try.prog w r b0 49 v) (ft : fits Try.prog w B 140737488351232 8 49 v.cells.toList) :
    ∃ a : AskT, v = .agg #[.int .i64 a.kind, .string a.key, .int .i64 a.seq, .string a.fr, .string a.to_] ∧ InAskT a := by
  obtain ⟨cs, rfl, hsz⟩ := okWide_struct Try.underlying49 hv
  obtain ⟨s, e, h⟩ := fits_askT (d := 5) ft
  refine ⟨s, ?_, h⟩
  obtain ⟨l⟩ := cs
  simp only [Value.cells] at e
  rw [e]
  rfl
theorem sstNil_law (w : World) (a : AskT) (_ : InAskT a) :
    Calls Try.prog 5 #[.agg #[.int .i64 a.kind, .string a.key, .int .i64 a.seq, .string a.fr, .string a.to_]] w fun e w' => e = .returned (.bool true) ∧ Below w.heap.size w w' :=
  sstNil_walk w a
end Go.Proofs.Ytdmpimgbnhgiaaa
