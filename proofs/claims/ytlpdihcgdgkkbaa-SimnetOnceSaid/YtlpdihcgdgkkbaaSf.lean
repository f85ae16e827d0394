/- Walks: a letter found. -/
import Derived.Test.YtlpdihcgdgkkbaaSe
namespace Go.Proofs.Ytlpdihcgdgkkbaa
open Go.RowKit Go.St
set_option linter.unusedVariables false
set_option linter.unusedSimpArgs false
set_option maxRecDepth 100000

theorem bel_dnS {B : Nat} {a w : World} (h : Below B a w) (n : Nat) : Below B a (w.drewN n) := ⟨h.os, h.tape, h.output, h.size, h.block⟩
theorem snone_yes (b : Nat) (nodes last : Int) (A : Option Addr) (n c : Nat) (w : World) (h : NetB w b nodes last A n c) (hn : nodes ≠ 0) : Calls Try.prog 73 #[.pointer (some ⟨b, 0, none⟩)] w fun e w' => e = .returned (.bool false) ∧ w = w' := by
  obtain ⟨x0, x1, x2, x3, x4⟩ := h
  have e0 : (nodes == 0) = false := by simpa using hn
  go_enter Try.func73, Try.ntmps73
  go_wp2
  go_ret
  exact ⟨ret_bool (by simp [*]), rfl⟩

def fndV (n r : Nat) (nums : Nat → Int) (k : Int) : Int := if r < n ∧ nums r = k then r else 0
def fndE (n r : Nat) (nums : Nat → Int) (k : Int) : Int := if r < n ∧ nums r = k then 0 else 4

set_option maxHeartbeats 3200000 in
theorem sfind_any (b : Nat) (nodes last : Int) (A : Option Addr) (n c r : Nat) (nums : Nat → Int) (k : Int) (w : World) (h : NetB w b nodes last A n c) (hn0 : nodes ≠ 0) (hn : n < 4611686018427387904) (hr : r ≤ n)
    (h1 : ∀ t, t < r → nums t < k) (h2 : ∀ t, r ≤ t → t < n → k ≤ nums t) (hA : 0 < n → ∃ lb lo, A = some ⟨lb, lo, none⟩ ∧ lb < w.heap.size ∧ ∀ i, i < n → w.cell? ⟨lb, lo + i * 4, none⟩ = some (.int .i64 (nums i))) :
    Calls Try.prog 75 #[.pointer (some ⟨b, 0, none⟩), .int .i64 k] w fun e w' => e = .returned (.tuple #[.int .i64 (fndV n r nums k), .int .i64 (fndE n r nums k)]) ∧ Below w.heap.size w w' := by
  have HN := Lib.hid (fun W (hb : Below w.heap.size w W) => snone_yes b nodes last A n c W (h.next hb) hn0)
  obtain ⟨x0, x1, x2, x3, x4⟩ := h
  have HS : Hid (∀ W, W.cell? ⟨w.heap.size, 0, none⟩ = some (.pointer (some ⟨b, 0, none⟩)) → W.cell? ⟨w.heap.size + 1, 0, none⟩ = some (.int .i64 k) → Below w.heap.size w W →
      Calls Try.prog 89 #[.int .i64 n, .func (.func 90) #[] #[.pointer (some ⟨w.heap.size, 0, none⟩), .pointer (some ⟨w.heap.size + 1, 0, none⟩)]] W fun e w' => e = .returned (.int .i64 r) ∧ ∃ q, w' = W.drewN q) := by
    intro W g1 g2 hb
    refine ssearch_any n r _ _ (fun t => decide (k ≤ nums t)) hn hr (fun t ht => decide_eq_false (by have := h1 t ht; omega)) (fun t ht htn => decide_eq_true (h2 t ht htn)) W (fun i hi m => ?_)
    obtain ⟨lb, lo, rfl, hlb, hc⟩ := hA (by omega)
    refine (sclos_any i b w.heap.size (w.heap.size + 1) lb lo n c k (nums i) hi hn (W.drewN m) (by simpa using g1) (by have := (hb.cell (p := ⟨b, 2, none⟩) x0).trans x4; simpa using this) (by have := (hb.cell (p := ⟨lb, lo + i * 4, none⟩) hlb).trans (hc i hi); simpa using this) (by simpa using g2)).mono ?_
    rintro e w' ⟨rfl, q, rfl⟩
    exact ⟨rfl, m + q, by simp⟩
  have HV : fndV n r nums k = if r < n ∧ nums r = k then (r : Int) else 0 := rfl
  have HE : fndE n r nums k = if r < n ∧ nums r = k then 0 else 4 := rfl
  generalize fndV n r nums k = v at *
  generalize fndE n r nums k = ee at *
  have hlt : b < w.heap.size := x0
  clear h1 h2 hn0
  by_cases hrn : r < n
  · obtain ⟨lb, lo, rfl, hlb, hc⟩ := hA (by omega)
    have hcr := hc r hrn
    clear hc hA
    have e1 : ((r : Int) == (n : Int)) = false := by rw [beq_eq_false_iff_ne]; omega
    by_cases hk : nums r = k
    · rw [if_pos ⟨hrn, hk⟩] at HV HE
      subst HV HE
      rw [hk] at hcr
      clear hk
      go_enter Try.func75, Try.ntmps75
      go_wp2_with fail
      refine (HN.out _ (by go_grown)).mono ?_
      rintro e w' ⟨rfl, rfl⟩
      go_wp2_with fail
      refine (HS.out _ (by simp [go_sem]) (by simp [go_sem]) (by go_grown)).mono ?_
      rintro e w' ⟨rfl, q, rfl⟩
      go_wp2
      go_quiet (fail)
      go_wp2
      go_ret2
      exact ⟨rfl, by simpa using bel_dnS (((Below.refl w.heap.size w).alloc (Nat.le_refl _) _).alloc (by simp) _) _⟩
    · rw [if_neg (fun h => hk h.2)] at HV HE
      subst HV HE
      have e2 : (nums r == k) = false := by simpa using hk
      generalize nums r = z at *
      go_enter Try.func75, Try.ntmps75
      go_wp2_with fail
      refine (HN.out _ (by go_grown)).mono ?_
      rintro e w' ⟨rfl, rfl⟩
      go_wp2_with fail
      refine (HS.out _ (by simp [go_sem]) (by simp [go_sem]) (by go_grown)).mono ?_
      rintro e w' ⟨rfl, q, rfl⟩
      go_wp2
      go_quiet (fail)
      go_wp2
      go_ret2
      exact ⟨rfl, by simpa using bel_dnS (((Below.refl w.heap.size w).alloc (Nat.le_refl _) _).alloc (by simp) _) _⟩
  · obtain rfl : n = r := by omega
    rw [if_neg (fun h => hrn h.1)] at HV HE
    subst HV HE
    clear hA
    go_enter Try.func75, Try.ntmps75
    go_wp2_with fail
    refine (HN.out _ (by go_grown)).mono ?_
    rintro e w' ⟨rfl, rfl⟩
    go_wp2_with fail
    refine (HS.out _ (by simp [go_sem]) (by simp [go_sem]) (by go_grown)).mono ?_
    rintro e w' ⟨rfl, q, rfl⟩
    go_wp2
    go_quiet (fail)
    go_wp2
    go_ret2
    exact ⟨rfl, by simpa using bel_dnS (((Below.refl w.heap.size w).alloc (Nat.le_refl _) _).alloc (by simp) _) _⟩
end Go.Proofs.Ytlpdihcgdgkkbaa
