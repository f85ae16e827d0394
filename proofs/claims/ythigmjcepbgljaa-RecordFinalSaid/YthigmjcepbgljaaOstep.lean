/- A list of steps that comes in, with the bound of each one's keys. -/
import Derived.Test.YthigmjcepbgljaaOrw
namespace Go.Proofs.Ythigmjcepbgljaa
open Go.RowKit Go.ChangeShapes Go.WideShapes Go.ChangeAt Go.St
set_option maxRecDepth 100000
set_option linter.unusedVariables false
set_option linter.unusedSimpArgs false

structure StepL where
  k : Int
  a : Stp
  A : Option Addr
  n : Nat
  c : Nat
  l : List ByteArray
  wl : Int
def InSt (w : World) (s : StepL) : Prop := (-9223372036854775808 ≤ s.k ∧ s.k ≤ 9223372036854775807) ∧ InS s.a ∧ s.l.length = s.n ∧ s.n ≤ s.c ∧ Rd w w.heap.size s.A (sv s.l) ∧ (-9223372036854775808 ≤ s.wl ∧ s.wl ≤ 9223372036854775807)
def stepCells (s : StepL) : List Value := [.int .i64 s.k, .int .i64 s.a.wall, .int .i32 s.a.logic, .int .i32 s.a.tag, .slice s.A s.n s.c, .int .i64 s.wl]

theorem fits_step {w : World} {d : Nat} {cs : List Value} (ft : fits Try.prog w w.heap.size 140737488351232 (d + 3) 80 cs) : ∃ s : StepL, cs = stepCells s ∧ InSt w s := by
  unfold fits at ft
  rw [Try.underlying80] at ft
  obtain ⟨hl, hf⟩ := ft
  have hc : Try.prog.cellsOf 80 = 6 := by kernel_rfl
  have k1 : Try.prog.cellsOf 3 = 1 := by kernel_rfl
  have k3 : Try.prog.cellsOf 27 = 3 := by kernel_rfl
  have k4 : Try.prog.cellsOf 28 = 1 := by kernel_rfl
  have k5 : Try.prog.cellsOf 2 = 1 := by kernel_rfl
  rw [hc] at hl
  match cs, hl with
  | [c0, c1, c2, c3, c4, c5], _ =>
    have h0 : fits Try.prog w w.heap.size 140737488351232 (d + 2) 3 (([c0, c1, c2, c3, c4, c5].drop 0).take (Try.prog.cellsOf 3)) := hf 0 _ rfl
    have h1 : fits Try.prog w w.heap.size 140737488351232 (d + 2) 27 (([c0, c1, c2, c3, c4, c5].drop 1).take (Try.prog.cellsOf 27)) := hf 1 _ rfl
    have h2 : fits Try.prog w w.heap.size 140737488351232 (d + 2) 28 (([c0, c1, c2, c3, c4, c5].drop 4).take (Try.prog.cellsOf 28)) := hf 2 _ rfl
    have h3 : fits Try.prog w w.heap.size 140737488351232 (d + 2) 2 (([c0, c1, c2, c3, c4, c5].drop 5).take (Try.prog.cellsOf 2)) := hf 3 _ rfl
    rw [k1] at h0
    rw [k3] at h1
    rw [k4] at h2
    rw [k5] at h3
    obtain ⟨s2, e2, i2⟩ := fits_stamp h1
    obtain ⟨q, e3⟩ := fits_strs h2
    unfold fits at h0 h3
    rw [Try.underlying3] at h0
    rw [Try.underlying2] at h3
    obtain ⟨z, e1, f1⟩ := h0
    obtain ⟨b, e4, f4⟩ := h3
    simp at e1 e2 e3 e4
    obtain ⟨rfl, rfl, rfl⟩ := e2
    subst e1 e3 e4
    exact ⟨⟨z, s2, q.A, q.n, q.c, q.l, b⟩, rfl, wf64 f1, i2, q.hl, q.hc, q.rd, wf64 f4⟩

structure StepsArg (w : World) where
  A : Option Addr
  n : Nat
  c : Nat
  l : List StepL
  hl : l.length = n
  hc : n ≤ c
  hn : c ≤ 140737488351232
  hin : ∀ a ∈ l, InSt w a
  rd : Rd w w.heap.size A (l.map stepCells).flatten

theorem step_len (l : List StepL) : ∀ c ∈ l.map stepCells, c.length = 6 := by
  intro c hc
  obtain ⟨x, _, rfl⟩ := List.mem_map.1 hc
  rfl

theorem cells_row {w : World} {a : Addr} {B : Nat} {n i : Nat} {css : List (List Value)} {c c' : List Value} (hl : ∀ c ∈ css, c.length = n) (hn : 0 < n) (hr : Rd w B (some a) css.flatten) (hi : css[i]? = some c) (hc : w.cells? 0 (a.add (i * n)) n = some c') : c' = c := by
  have hcl : c.length = n := hl c (List.mem_of_getElem? hi)
  obtain ⟨_, hl', hat⟩ := World.cells?_some hc
  have hne : css.flatten ≠ [] := by
    have := flatten_get css hl i 0 c _ hi (List.getElem?_eq_getElem (by omega))
    intro h
    rw [h] at this
    simp at this
  obtain ⟨b, off, e, _, hcell⟩ := hr hne
  have e : a = ⟨b, off, none⟩ := by simpa using e
  subst e
  refine List.ext_getElem? (fun j => ?_)
  rcases Nat.lt_or_ge j n with hj | hj
  · have h1 := hat j hj
    have h2 := hcell (i * n + j) _ (flatten_get css hl i j c _ hi (List.getElem?_eq_getElem (by omega)))
    rw [← h1, List.getElem?_eq_getElem (by omega), ← h2]
    congr 1
    unfold Addr.add
    by_cases e1 : i * n = 0 <;> by_cases e2 : j = 0 <;> simp [e1, e2] <;> omega
  · rw [List.getElem?_eq_none (by omega), List.getElem?_eq_none (by omega)]

theorem weightsAll_in {H : Type} {P : Program} {e : TypeId} : ∀ {l : List (DataW H)} {d : DataW H}, d ∈ l → ∀ n ∈ d.weights P e, n ∈ DataW.weightsAll P e l := by
  intro l
  induction l with
  | nil => intro d h; simp at h
  | cons x r ih =>
    intro d h n hn
    rw [DataW.weightsAll]
    rcases List.mem_cons.1 h with rfl | h
    · exact List.mem_append_left _ hn
    · exact List.mem_append_right _ (ih h n hn)

theorem open_steps {H : Type} {enc : TypeId × Value → H} {w : World} {b0 fuel : Nat} {r : Reach} {v : Value} {d : DataW H} {p : List MemPlace} (hv : Value.okWide Try.prog w r b0 77 v) (ft : fits Try.prog w w.heap.size 140737488351232 8 77 v.cells.toList)
    (hf : DataW.trod enc Try.prog w 0 (fun _ => true) true fuel 77 v.cells.toList = some (d, p)) (hs : ∀ x ∈ DataW.weights Try.prog 77 d, x ≤ 140737488351232) :
    ∃ x : StepsArg w, v = .slice x.A x.n x.c ∧ ∀ s ∈ x.l, s.c * 16 ≤ 140737488351232 := by
  obtain ⟨A, n, c, rfl⟩ := okWide_slice Try.underlying77 hv
  unfold fits at ft
  rw [Try.underlying77] at ft
  obtain ⟨A', n', c', e, hlc, hcN, css, hl, hff, hr⟩ := ft
  obtain ⟨rfl, rfl, rfl⟩ : A = A' ∧ n = n' ∧ c = c' := by simpa [Value.cells] using e
  obtain ⟨l, hll, hin⟩ := lift_list (f := stepCells) (p := InSt w) css (fun c hc => fits_step (d := 4) (hff c hc).2)
  subst hll
  refine ⟨⟨A, n, c, l, by rw [← hl, List.length_map], hlc, hcN, hin, hr⟩, rfl, ?_⟩
  intro s hsl
  obtain ⟨i, hi, hei⟩ := List.getElem_of_mem hsl
  rw [List.length_map] at hl
  replace hi : i < l.length := hi
  replace hsl : s ∈ l := hsl
  replace hei : l[i] = s := hei
  rcases DataW.trod_slice Try.underlying77 hf with ⟨hcs, hx⟩ | ⟨a, len, cap, elems, rest, n', _, hcs, hx, _, hlc, _, hlen, hel, hsp, _⟩
  · have e : A = none ∧ n = 0 ∧ c = 0 := by simpa [Value.cells] using hcs
    have := e.2.1
    omega
  · have e : A = some a ∧ n = len ∧ c = cap := by simpa [Value.cells] using hcs
    obtain ⟨rfl, rfl, rfl⟩ := e
    have hd : d = .slice (elems.map (·.1)) (rest.map (·.1)) := by injection hx
    subst hd
    have h1 := hel i (by omega)
    rw [List.getElem?_eq_getElem (by omega), show Try.prog.cellsOf 80 = 6 by kernel_rfl] at h1
    obtain ⟨c', hc', ht⟩ := Option.bind_eq_some_iff.1 h1
    have hcr := cells_row (step_len l) (by decide) hr (c := stepCells s) (by rw [List.getElem?_map, List.getElem?_eq_getElem hi, hei]; rfl) hc'
    subst hcr
    obtain ⟨xs, n, _, hx2, _, hlen2, hfl⟩ := DataW.trod_struct Try.underlying80 ht
    have h3 := hfl 2 _ rfl
    have hk : Try.prog.cellsOf 28 = 1 := by kernel_rfl
    match xs, hlen2 with
    | [y0, y1, y2, y3], _ =>
      have h4 : DataW.trod enc Try.prog w 0 (fun _ => true) true n 28 [.slice s.A s.n s.c] = some (y2.1, y2.2) := by
        have e : (((stepCells s).drop 4).take (Try.prog.cellsOf 28)) = [.slice s.A s.n s.c] := by rw [hk]; rfl
        rw [← e]; exact h3
      refine cap_strs h4 (fun x hm => hs x ?_)
      rw [DataW.weights, Try.underlying77]
      refine List.mem_cons_of_mem _ (List.mem_append_left _ ?_)
      have hxe : elems[i].1 = .agg [y0.1, y1.1, y2.1, y3.1] := by rw [hx2]; rfl
      refine weightsAll_in (d := elems[i].1) (List.mem_map_of_mem (List.getElem_mem _)) x ?_
      rw [hxe, DataW.weights, Try.underlying80]
      exact DataW.weights_mem_each (j := 2) (t := 28) rfl rfl x hm
end Go.Proofs.Ythigmjcepbgljaa
