/- Walks: the statements' own flights, small; the calls' examples. -/
import Derived.Test.YtlpdihcgdgkkbaaSt
import Derived.BigQuiet
namespace Go.Proofs.Ytlpdihcgdgkkbaa
open Go.RowKit Go.St
set_option linter.unusedVariables false
set_option linter.unusedSimpArgs false
set_option maxRecDepth 100000

/-- Letters that read. -/
structure RdL (W : World) (A : Option Addr) (l : List Ltr) : Prop where
  row : Rd W W.heap.size A (lv l)
  byt : ∀ x ∈ l, x.k.bs.length = x.n ∧ x.n ≤ 1000000 ∧ Rd W W.heap.size x.A (bv x.k.bs)
theorem RdL.next {W W' : World} {A : Option Addr} {l : List Ltr} (h : RdL W A l) (hb : Below W.heap.size W W') : RdL W' A l :=
  ⟨(h.row.below hb).more hb.size, fun x hx => by obtain ⟨h1, h2, h3⟩ := h.byt x hx; exact ⟨h1, h2, (h3.below hb).more hb.size⟩⟩
theorem FlB.rdL {W : World} {base : Nat} {A : Option Addr} {n c : Nat} {l : List Ltr} (h : FlB W base (Value.slice A n c).ownBlock l) (ho : W.ownsRow base 51 4 (.slice A n c) l.length (lv l)) : RdL W A l := by
  refine ⟨?_, fun x hx => ?_⟩
  · intro hn
    obtain ⟨g, cap, hv, _, hlt⟩ := ho.form (by
      rcases Nat.eq_zero_or_pos l.length with h0 | h0
      · rw [List.eq_nil_of_length_eq_zero h0] at hn; exact absurd rfl hn
      · exact h0)
    injection hv with hA hA2 hA3
    subst hA hA2 hA3
    refine ⟨g, 0, rfl, hlt, fun i u hu => ?_⟩
    rw [Nat.zero_add, ho.cellAt i (by rw [← lv_length]; exact (List.getElem?_eq_some_iff.1 hu).1)]
    exact hu
  · obtain ⟨i, hi⟩ := List.getElem?_of_mem hx
    obtain ⟨h1, h2⟩ := h.byt i x hi
    have h3 := h1.1
    exact ⟨by simpa [bv] using h3, h2, Rd.own h1⟩
theorem RdL.at_ {W : World} {A : Option Addr} {l : List Ltr} (h : RdL W A l) {i : Nat} {x : Ltr} (hx : l[i]? = some x) : ∃ b o, A = some ⟨b, o, none⟩ ∧ W.cell? ⟨b, o + i * 4, none⟩ = some (.int .i64 x.k.num) ∧ W.cell? ⟨b, o + i * 4 + 1, none⟩ = some (.int .i64 x.k.fr) ∧ W.cell? ⟨b, o + i * 4 + 2, none⟩ = some (.int .i64 x.k.to) ∧ W.cell? ⟨b, o + i * 4 + 3, none⟩ = some (.slice x.A x.n x.c) := by
  have hne : lv l ≠ [] := by
    intro e
    have h1 := lv_get l i 0 x _ hx rfl
    rw [e] at h1
    simp at h1
  obtain ⟨b, o, rfl, _, hc⟩ := h.row hne
  have hc' := fun (j : Nat) (u : Value) (hu : (ltc x)[j]? = some u) => hc _ u (lv_get l i j x u hx hu)
  exact ⟨b, o, rfl, hc' 0 _ rfl, hc' 1 _ rfl, hc' 2 _ rfl, hc' 3 _ rfl⟩
set_option maxHeartbeats 1600000 in
theorem flights_yes (A A' : Option Addr) (c c' n : Nat) (l l' : List Ltr) (hn : l.length = n) (hb : n ≤ 100000) (hk : l.map Ltr.k = l'.map Ltr.k) (w : World) (h : RdL w A l) (h' : RdL w A' l') :
    Calls Try.prog 41 #[.slice A n c, .slice A' n c'] w fun e w' => e = .returned (.bool true) ∧ Below w.heap.size w w' := by
  have H1 := Lib.hid h; have H2 := Lib.hid h'; have HN := Lib.hid hn
  have HK : Hid (∀ i, i < n → ∃ x y, l[i]? = some x ∧ l'[i]? = some y ∧ x.k = y.k) := Lib.hid (fun i hi => by
    have h2 : l'.length = n := by have := congrArg List.length hk; simpa [hn] using this.symm
    refine ⟨l[i], l'[i], List.getElem?_eq_getElem (by omega), List.getElem?_eq_getElem (by omega), ?_⟩
    have := congrArg (fun z => z[i]?) hk
    simpa [List.getElem?_map, List.getElem?_eq_getElem (show i < l.length by omega), List.getElem?_eq_getElem (show i < l'.length by omega)] using this)
  clear h h' hk hn
  go_enter Try.func41, Try.ntmps41
  go_wp2_with fail
  go_loopw [5] (fun i wr => ∃ k : Nat, i = .int .i64 k ∧ k ≤ n ∧ Hid (Below w.heap.size w wr)) (fun i _ => n - (intOf i).toNat)
  case atStart => exact ⟨0, rfl, Nat.zero_le _, Lib.hid (Below.refl _ _)⟩
  case round =>
    obtain ⟨k, rfl, hk, hB⟩ := hrel
    obtain ⟨w1, rfl⟩ : ∃ x, x = wr := ⟨_, rfl⟩
    by_cases hlt : k < n
    · obtain ⟨x, y, hx, hy, hxy⟩ := HK.out k hlt
      have R1 := H1.out.next hB.out
      have R2 := H2.out.next hB.out
      obtain ⟨b, o, rfl, a0, a1, a2, a3⟩ := R1.at_ hx
      obtain ⟨b', o', rfl, b0, b1, b2, b3⟩ := R2.at_ hy
      rw [← hxy] at b0 b1 b2
      obtain ⟨e1, e2, e3⟩ := R1.byt x (List.mem_of_getElem? hx)
      obtain ⟨f1, f2, f3⟩ := R2.byt y (List.mem_of_getElem? hy)
      rw [← hxy] at f1 f3
      have HS : Hid (∀ W, Below w1.heap.size w1 W → Calls Try.prog 27 #[.slice x.A x.n x.c, .slice y.A y.n y.c] W fun e w' => e = .returned (.bool true) ∧ Below W.heap.size W w') := Lib.hid (fun W q => (same_any x.A y.A x.n y.n x.c y.c w1.heap.size w1.heap.size x.k.bs x.k.bs e1 f1 (by omega) W (e3.below q) (f3.below q)).mono (by rintro e w' ⟨rfl, m, rfl⟩; exact ⟨by simp, bel_dnS (Below.refl _ _) m⟩))
      have i1 : (k : Int) < (n : Int) := by omega
      have i0 : (0 : Int) ≤ (k : Int) := by omega
      have l1 : b < w1.heap.size := World.block_lt_of_cell? _ _ a0
      have l2 : b' < w1.heap.size := World.block_lt_of_cell? _ _ b0
      clear hx hy hxy e1 e2 e3 f1 f2 f3 HK H1 H2 R1 R2
      go_wp2_with fail
      refine wp_qall (by kernel_rfl) (by kernel_rfl) ?_
      intro hcg
      repeat (first | go_big_quiet_step ((with_reducible exact Calls.reg (HS.out _ (below_regrown _ _ _)))) | quiet_step ((with_reducible exact Calls.reg (HS.out _ (below_regrown _ _ _)))))
      refine wpQuiet_nil ?_
      intro wq hbwq hcwq hfwq
      clear hcg
      have N : Hid (Below w.heap.size w wq) := Lib.hid (hB.out.trans (hbwq.mono hB.out.size))
      clear hbwq hcwq hfwq hB HS
      go_wp2_with fail
      go_roundw
      case rel => exact ⟨k + 1, by go_num, by omega, N⟩
      case measure => simp [intOf]; omega
    · obtain rfl : k = n := by omega
      go_wp2
      go_ret
      exact ⟨rfl, hB.out⟩
end Go.Proofs.Ytlpdihcgdgkkbaa
