/- Walks: small; acts that come in. -/
import Derived.Test.YtlpdihcgdgkkbaaNd
import Derived.Test.YtlpdihcgdgkkbaaNe
import Derived.Test.YtlpdihcgdgkkbaaApart2
namespace Go.Proofs.Ytlpdihcgdgkkbaa
open Go.RowKit Go.St Go.Shelf
set_option linter.unusedVariables false
set_option linter.unusedSimpArgs false
set_option maxRecDepth 100000

/-- An act where it lies. -/
structure AnI (W : World) (b o : Nat) (x : ActN) : Prop where
  c0 : W.cell? ⟨b, o, none⟩ = some (.int .i64 x.k)
  c1 : W.cell? ⟨b, o + 1, none⟩ = some (.int .i64 x.m)
  c2 : W.cell? ⟨b, o + 2, none⟩ = some (.int .i64 x.n)
  c3 : W.cell? ⟨b, o + 3, none⟩ = some (.slice x.A x.z x.c)
theorem AnI.below {W W' : World} {B b o : Nat} {x : ActN} (h : AnI W b o x) (hb : Below B W W') (hlt : b < B) : AnI W' b o x :=
  ⟨(hb.cell (p := ⟨b, _, none⟩) hlt).trans h.c0, (hb.cell (p := ⟨b, _, none⟩) hlt).trans h.c1, (hb.cell (p := ⟨b, _, none⟩) hlt).trans h.c2, (hb.cell (p := ⟨b, _, none⟩) hlt).trans h.c3⟩
theorem an_at {W : World} {B : Nat} {A : Option Addr} {l : List ActN} (h : Rd W B A (l.map anCells).flatten) {i : Nat} {x : ActN} (hx : l[i]? = some x) : ∃ b o, A = some ⟨b, o, none⟩ ∧ b < B ∧ AnI W b (o + i * 4) x := by
  have hg := fun (j : Nat) (u : Value) (hu : (anCells x)[j]? = some u) => flatten_get (n := 4) (l.map anCells) (fun c hc => by obtain ⟨y, _, rfl⟩ := List.mem_map.1 hc; rfl) i j (anCells x) u (by rw [List.getElem?_map, hx]; rfl) hu
  have hne : (l.map anCells).flatten ≠ [] := by
    intro e
    have h1 := hg 0 _ rfl
    rw [e] at h1
    simp at h1
  obtain ⟨b, o, rfl, hb, hc⟩ := h hne
  exact ⟨b, o, rfl, hb, hc _ _ (hg 0 _ rfl), hc _ _ (hg 1 _ rfl), hc _ _ (hg 2 _ rfl), hc _ _ (hg 3 _ rfl)⟩
def smallB (l : List ActN) : Bool := l.all (fun x => decide (x.z ≤ 40)) && decide (l.length ≤ 2600)
set_option maxHeartbeats 800000 in
theorem small_any (A : Option Addr) (n c B : Nat) (l : List ActN) (hl : l.length = n) (hc : n ≤ 140737488351232) (hz : ∀ x ∈ l, x.z ≤ 140737488351232) (w : World) (hr : Rd w B A (l.map anCells).flatten) (hB : B ≤ w.heap.size) :
    Calls Try.prog 40 #[.slice A n c] w fun e w' => e = .returned (.bool (smallB l)) ∧ w = w' := by
  have HL := Lib.hid hl
  have HR := Lib.hid hr
  have HZ := Lib.hid hz
  obtain ⟨R, hR⟩ : ∃ R, smallB l = R := ⟨_, rfl⟩
  rw [hR]
  have HS := Lib.hid hR
  clear hl hr hz hR
  go_enter Try.func40, Try.ntmps40
  go_wp2_with fail
  go_loopw [3] (fun i wr => ∃ k : Nat, i = .int .i64 k ∧ k ≤ n ∧ Hid (∀ i x, i < k → l[i]? = some x → x.z ≤ 40) ∧ wr = w) (fun i _ => n - (intOf i).toNat)
  case atStart => exact ⟨0, rfl, Nat.zero_le _, Lib.hid (fun i x h => absurd h (Nat.not_lt_zero _)), rfl⟩
  case round =>
    obtain ⟨k, rfl, hk, hall, rfl⟩ := hrel
    by_cases hlt : k < n
    · have hx : l[k]? = some (l[k]'(by rw [HL.out]; exact hlt)) := List.getElem?_eq_getElem _
      obtain ⟨b, o, rfl, hb, h0⟩ := an_at HR.out hx
      have hzx := HZ.out _ (List.mem_of_getElem? hx)
      have HX := Lib.hid hx
      obtain ⟨d0, d1, d2, d3⟩ := h0
      generalize l[k]'(by rw [HL.out]; exact hlt) = x at *
      have i1 : (k : Int) < (n : Int) := by omega
      have i0 : (0 : Int) ≤ (k : Int) := by omega
      clear hx
      by_cases h40 : x.z ≤ 40
      · have e1 : ¬ (40 : Int) < (x.z : Int) := by omega
        have hall2 : Hid (∀ i y, i < k + 1 → l[i]? = some y → y.z ≤ 40) := Lib.hid (fun i y hi hy => by
          rcases Nat.lt_or_ge i k with h | h
          · exact hall.out i y h hy
          · obtain rfl : i = k := by omega
            rw [HX.out] at hy
            injection hy with hy
            rw [← hy]; exact h40)
        clear hall HX
        go_wp2_with fail
        go_roundw
        case rel => exact ⟨k + 1, by go_num, by omega, hall2, by simp⟩
        case measure => simp [intOf]; omega
      · have e1 : (40 : Int) < (x.z : Int) := by omega
        have hR : R = false := by
          have h1 : smallB l = false := by
            unfold smallB
            rw [Bool.and_eq_false_iff]
            left
            rw [List.all_eq_false]
            exact ⟨x, List.mem_of_getElem? HX.out, by simpa using h40⟩
          rw [← HS.out, h1]
        subst hR
        go_wp2_with fail
        go_ret
        exact ⟨rfl, rfl⟩
    · obtain rfl : k = n := by omega
      have hR : R = decide (k ≤ 2600) := by
        rw [← HS.out]
        unfold smallB
        rw [HL.out]
        have : l.all (fun x => decide (x.z ≤ 40)) = true := by
          rw [List.all_eq_true]
          intro x hx
          obtain ⟨i, hi⟩ := List.getElem?_of_mem hx
          have hil := (List.getElem?_eq_some_iff.1 hi).1
          simpa using hall.out i x (by rw [← HL.out]; exact hil) hi
        rw [this, Bool.true_and]
      subst hR
      clear HS
      go_wp2_with fail
      go_ret
      refine ⟨ret_bool ?_, rfl⟩
      rw [Bool.eq_iff_iff]
      simp
      omega
theorem lentN_take (bs : List UInt8) : (lent bs).take bs.length = bs := by simp [lent]
theorem FlB.keep2 {W W' : World} {base : Nat} {A : Option Addr} {n c : Nat} {l : List Ltr} (ho : W.ownsRow base 51 4 (.slice A n c) l.length (lv l)) (hf : FlB W base (Value.slice A n c).ownBlock l) (hk : ∀ g, base ≤ g → g < W.heap.size → W'.heap[g]? = W.heap[g]?) :
    W'.ownsRow base 51 4 (.slice A n c) l.length (lv l) ∧ FlB W' base (Value.slice A n c).ownBlock l :=
  ⟨ownsRow_of ho (fun g e => hk g (ho.lt g e).1 (ho.lt g e).2), hf.keep (fun i x g hx e => hk g ((hf.byt i x hx).1.lt g e).1 ((hf.byt i x hx).1.lt g e).2)⟩
end Go.Proofs.Ytlpdihcgdgkkbaa
