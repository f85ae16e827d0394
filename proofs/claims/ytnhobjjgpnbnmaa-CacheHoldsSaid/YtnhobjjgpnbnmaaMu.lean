/- Walks: two caches asked. -/
import Derived.Test.YtnhobjjgpnbnmaaMt
import Derived.Test.YtnhobjjgpnbnmaaOam
namespace Go.Proofs.Ytnhobjjgpnbnmaa
open Go.RowKit Go.St
set_option linter.unusedVariables false
set_option linter.unusedSimpArgs false
set_option maxRecDepth 100000

structure AkI (W : World) (b o : Nat) (s : AskM) : Prop where
  c0 : W.cell? ⟨b, o, none⟩ = some (.string s.k)
  c1 : W.cell? ⟨b, o + 1, none⟩ = some (.int .i32 s.nd)
  c2 : W.cell? ⟨b, o + 2, none⟩ = some (.int .i32 s.nu)
theorem ak_at {w : World} {B : Nat} {A : Option Addr} {l : List AskM} (h : Rd w B A (l.map akCells).flatten) (j : Nat) (s : AskM) (hj : l[j]? = some s) :
    ∃ b off, A = some ⟨b, off, none⟩ ∧ b < B ∧ AkI w b (off + j * 3) s := by
  have hg : ∀ (i : Nat) (v : Value), (akCells s)[i]? = some v → (l.map akCells).flatten[j * 3 + i]? = some v := fun i v hv =>
    flatten_get (n := 3) (l.map akCells) (fun c hc => by obtain ⟨x, _, rfl⟩ := List.mem_map.1 hc; rfl) j i (akCells s) v (by rw [List.getElem?_map, hj]; rfl) hv
  obtain ⟨b, off, e, hb, h0⟩ := h.at_ (hg 0 _ rfl)
  subst e
  have hc : ∀ (i : Nat) (v : Value), (akCells s)[i]? = some v → w.cell? ⟨b, off + j * 3 + i, none⟩ = some v := fun i v hv => by
    obtain ⟨b', off', e', _, h'⟩ := h.at_ (hg i _ hv)
    injection e' with e'
    injection e' with e1 e2
    subst e1 e2
    rw [Nat.add_assoc]
    exact h'
  exact ⟨b, off, rfl, hb, hc 0 _ rfl, hc 1 _ rfl, hc 2 _ rfl⟩
theorem am_at {w : World} {B : Nat} {A : Option Addr} {l : List ActM} (h : Rd w B A (l.map amCells).flatten) (j : Nat) (s : ActM) (hj : l[j]? = some s) :
    ∃ b off, A = some ⟨b, off, none⟩ ∧ b < B ∧ ∀ (i : Nat) (v : Value), (amCells s)[i]? = some v → w.cell? ⟨b, off + j * 8 + i, none⟩ = some v := by
  have hg : ∀ (i : Nat) (v : Value), (amCells s)[i]? = some v → (l.map amCells).flatten[j * 8 + i]? = some v := fun i v hv =>
    flatten_get (n := 8) (l.map amCells) (fun c hc => by obtain ⟨x, _, rfl⟩ := List.mem_map.1 hc; rfl) j i (amCells s) v (by rw [List.getElem?_map, hj]; rfl) hv
  obtain ⟨b, off, e, hb, h0⟩ := h.at_ (hg 0 _ rfl)
  subst e
  refine ⟨b, off, rfl, hb, fun i v hv => ?_⟩
  obtain ⟨b', off', e', _, h'⟩ := h.at_ (hg i _ hv)
  injection e' with e'
  injection e' with e1 e2
  subst e1 e2
  rw [Nat.add_assoc]
  exact h'
set_option maxHeartbeats 1600000 in
theorem asked_any {base hi : Nat} {W : World} {p q : Value} (h : PrS base hi W p q) (A : Option Addr) (n c : Nat) (l : List AskM) (hl : l.length = n) (hn : n ≤ 1048576) (B : Nat) (hr : Rd W B A (l.map akCells).flatten) (hB : B ≤ W.heap.size) :
    Calls Try.prog 25 #[p, q, .slice A n c] W fun e w' => e = .returned (.bool true) ∧ Below W.heap.size W w' := by
  have HR := Lib.hid (fun X (k : Below W.heap.size W X) => hr.below (k.mono hB))
  have HP := Lib.hid (fun X (k : Below W.heap.size W X) => h.next k)
  have HL := Lib.hid hl
  clear h hr hl
  go_enter Try.func25, Try.ntmps25
  go_wp2_with fail
  go_loopw [7] (fun i wr => ∃ j : Nat, j ≤ n ∧ i = .int .i64 j ∧ Hid (Below W.heap.size W wr)) (fun i _ => n - (intOf i).toNat)
  case atStart => exact ⟨0, Nat.zero_le _, rfl, Lib.hid (Below.refl _ _)⟩
  case round =>
    obtain ⟨j, hj, rfl, Q⟩ := hrel
    by_cases hlt : j < n
    · have hjl : j < l.length := by rw [HL.out]; exact hlt
      obtain ⟨g, off, rfl, hgB, M⟩ := ak_at (HR.out wr Q.out) j l[j] (List.getElem?_eq_getElem hjl)
      obtain ⟨x, hx1, hx2⟩ := pair_at (HP.out wr Q.out) l[j].k l[j].nd l[j].nu
      generalize l[j] = s at *
      obtain ⟨c0, c1, c2⟩ := M
      have HX1 := Lib.hid hx1; have HX2 := Lib.hid hx2
      clear hx1 hx2
      have i1 : (j : Int) < (n : Int) := by omega
      have i0 : (0 : Int) ≤ (j : Int) := by omega
      have hqs := Q.out.size
      have hgw : g < wr.heap.size := by omega
      go_upto_region 4 with (fail)
      refine wp_qall (by kernel_rfl) (by kernel_rfl) ?_
      intro hcg
      repeat (first | go_big_quiet_step ((with_reducible (first | exact Calls.reg (HX1.out _ (below_regrown _ _ _)) | exact Calls.reg (HX2.out _ (below_regrown _ _ _))))) | quiet_step ((with_reducible (first | exact Calls.reg (HX1.out _ (below_regrown _ _ _)) | exact Calls.reg (HX2.out _ (below_regrown _ _ _))))))
      refine wpQuiet_nil ?_
      intro wq hbwq hcwq hfwq
      clear hcg
      have Q2 := Lib.hid (Q.out.trans (hbwq.mono hqs))
      clear c0 c1 c2 hbwq hcwq hfwq HX1 HX2
      go_wp2_with fail
      exact ⟨⟨j + 1, by omega, by go_num, Q2⟩, by simp [intOf]; omega⟩
    · have hjn : j = n := by omega
      subst hjn
      have i9 : ¬ ((j : Int) < (j : Int)) := by omega
      go_wp2_with fail
      go_ret
      exact ⟨rfl, Q.out⟩
end Go.Proofs.Ytnhobjjgpnbnmaa
