/- Walks of the kit's own functions on texts: lent, compared, kept. -/
import Derived.Test.YtlpdihcgdgkkbaaBd
import Derived.Test.YtlpdihcgdgkkbaaKit
namespace Go.Proofs.Ytlpdihcgdgkkbaa
open Go.RowKit Go.St
set_option linter.unusedVariables false
set_option linter.unusedSimpArgs false
set_option maxRecDepth 100000

theorem sty26 : STy Try.prog 26 9 1 16 (.string { data := #[] }) := ⟨Try.underlying26, ⟨_, rfl, by kernel_rfl, by kernel_rfl, by kernel_rfl⟩, rfl, by decide⟩
theorem sv_length (l : List ByteArray) : (sv l).length = l.length := by simp [sv]
theorem sv_get (l : List ByteArray) (i : Nat) (h : i < l.length) : (sv l)[i]? = some (.string l[i]) := by simp [sv, h]
theorem sv_one (l : List ByteArray) : ∀ u ∈ sv l, u.oneCell' = true := by
  intro u hu
  obtain ⟨_, _, rfl⟩ := List.mem_map.1 hu
  rfl
def behind : ByteArray := ⟨#[98, 101, 104, 105, 110, 100]⟩
/-- What stands behind texts that are lent. -/
def lentT (l : List ByteArray) : List ByteArray := l ++ [behind, behind, behind]
theorem lentT_length (l : List ByteArray) : (lentT l).length = l.length + 3 := by simp [lentT]

set_option maxHeartbeats 400000 in
theorem lentT_any (A : Option Addr) (n c B : Nat) (l : List ByteArray) (hl : l.length = n) (hn : n ≤ 1000000) (w : World) (hr : Rd w B A (sv l)) (hB : B ≤ w.heap.size) :
    Calls Try.prog 21 #[.slice A n c] w fun e w' => ∃ v, e = .returned v ∧ w'.ownsRow w.heap.size 9 1 v (n + 3) (sv (lentT l)) ∧ Below w.heap.size w w' := by
  have HL := Lib.hid hl; clear hl
  have HR := Lib.hid hr; clear hr
  go_enter Try.func21, Try.ntmps21
  go_wp2_with (at_builtin; refine wpList_app sty26 (.tmp 5) (.tmp 6) rfl rfl w.heap.size (World.ownsRow_lit w #[] 0 (Nat.le_refl _) (by decide) rfl) rfl n c (Rd.alloc HR.out hB _) rfl (by rw [sv_length, HL.out]; omega) (sv_one _) (by unfold maxLen; omega) (by omega) (by simp) ?_; intro v1 w1 own1 gr1 nil1 at1)
  have hb1 : Hid (Below w.heap.size w w1) := ((Below.refl _ _).alloc (Nat.le_refl _) _).grown gr1 (by simp) (by simp [Value.ownBlock])
  have HO : Hid (w1.ownsRow w.heap.size 9 1 v1 (n + 0) (sv (l ++ ([behind, behind, behind] : List ByteArray).take 0))) := own_eq own1 (by omega) (by simp)
  clear own1 gr1 nil1 at1
  go_loopw [3, 4] (fun v i wr => ∃ k : Nat, k ≤ 3 ∧ i = .int .i64 k ∧ Hid (wr.ownsRow w.heap.size 9 1 v (n + k) (sv (l ++ ([behind, behind, behind] : List ByteArray).take k))) ∧ Hid (Below w.heap.size w wr)) (fun _ i _ => 3 - (intOf i).toNat)
  case atStart => exact ⟨0, Nat.zero_le _, rfl, HO, hb1⟩
  case round =>
    obtain ⟨k, hk, rfl, hown, hbw⟩ := hrel
    clear hb1 HO
    by_cases hk4 : k < 3
    · have e1 : sv (l ++ ([behind, behind, behind] : List ByteArray).take k) ++ [Value.string { data := #[98, 101, 104, 105, 110, 100] }] = sv (l ++ ([behind, behind, behind] : List ByteArray).take (k + 1)) := by
        rcases (by omega : k = 0 ∨ k = 1 ∨ k = 2) with rfl | rfl | rfl <;> simp [sv, behind]
      have E1 := Lib.hid e1; clear e1
      go_wp2_with (at_builtin; refine wpList_app sty26 (.tmp 12) (.tmp 13) rfl rfl w.heap.size (hown.out.alloc _) rfl 1 1 (rd_one _ _ _) rfl rfl (by simp [Value.oneCell']) (by unfold maxLen; omega) (by omega) (by have := hbw.out.size; simp; omega) ?_; intro v2 w2 own2 gr2 nil2 at2)
      exact ⟨⟨k + 1, by omega, by go_num, own_eq own2 (by omega) E1.out, ((hbw.out.alloc hbw.out.size _).grown gr2 (by have := hbw.out.size; simp; omega) (fun g hg => (hown.out.lt g hg).1))⟩, by simp [intOf]; omega⟩
    · obtain rfl : k = 3 := by omega
      go_wp2
      go_ret
      exact ⟨_, rfl, own_eq hown.out (by omega) rfl, hbw.out⟩

set_option maxHeartbeats 400000 in
theorem sameT_any (A A' : Option Addr) (n n' c c' B B' : Nat) (l l' : List ByteArray) (hl : l.length = n) (hl' : l'.length = n') (hn : n ≤ 9223372036854775807) (w : World)
    (hr : Rd w B A (sv l)) (hr' : Rd w B' A' (sv l')) (he : l = l') :
    Calls Try.prog 72 #[.slice A n c, .slice A' n' c'] w fun e w' => e = .returned (.bool true) ∧ ∃ m, w' = w.drewN m := by
  subst he
  obtain rfl : n = n' := by omega
  have HL := Lib.hid hl; clear hl hl'
  have HR := Lib.hid hr; clear hr
  have HR' := Lib.hid hr'; clear hr'
  go_enter Try.func72, Try.ntmps72
  go_wp2
  go_loopw [5] (fun i wr => ∃ k m : Nat, k ≤ n ∧ i = .int .i64 k ∧ wr = w.drewN m) (fun i _ => n - (intOf i).toNat)
  case atStart => exact ⟨0, 0, Nat.zero_le _, rfl, rfl⟩
  case round =>
    obtain ⟨k, m, hk, rfl, rfl⟩ := hrel
    by_cases hlt : k < n
    · obtain ⟨b, off, rfl, hb, hcell⟩ := HR.out.at_ (sv_get l k (by rw [HL.out]; exact hlt))
      obtain ⟨b', off', rfl, hb', hcell'⟩ := HR'.out.at_ (sv_get l k (by rw [HL.out]; exact hlt))
      generalize l[k]'(by rw [HL.out]; exact hlt) = s at *
      go_wp2
      go_quiet (fail)
      go_wp2
      exact ⟨⟨k + 1, m + nq, by omega, by go_num, by simp⟩, by simp [intOf]; omega⟩
    · obtain rfl : k = n := by omega
      go_wp2
      go_ret
      exact ⟨rfl, m, rfl⟩

set_option maxHeartbeats 400000 in
theorem keptT_any (A A' : Option Addr) (n n' c c' B B' : Nat) (fs l : List ByteArray) (hl : fs.length = n) (hl' : l.length = n') (hn : n ≤ 9223372036854775807) (hn' : n' ≤ 1000000) (w : World)
    (hr : Rd w B A (sv fs)) (hB : B ≤ w.heap.size) (hr' : Rd w B' A' (sv l)) (hB' : B' ≤ w.heap.size) (he : fs = lentT l) :
    Calls Try.prog 30 #[.slice A n c, .slice A' n' c'] w fun e w' => e = .returned (.bool true) ∧ Below w.heap.size w w' := by
  have HL := Lib.hid hl; clear hl
  have HL' := Lib.hid hl'; clear hl'
  have HR := Lib.hid hr; clear hr
  have HR' := Lib.hid hr'; clear hr'
  have HE := Lib.hid he; clear he
  go_enter Try.func30, Try.ntmps30
  go_wp2_with fail
  refine (lentT_any A' n' c' B' l HL'.out hn' _ HR'.out hB').mono ?_
  rintro e w1 ⟨v1, rfl, own1, hb1⟩
  obtain ⟨A1, c1, rfl, r1⟩ := own_rd own1
  go_wp2_with fail
  refine (sameT_any A A1 n (n' + 3) c c1 _ _ fs (lentT l) HL.out (by rw [lentT_length, HL'.out]) hn _ (HR.out.below (hb1.mono hB)) r1 HE.out).mono ?_
  rintro e w2 ⟨rfl, q, rfl⟩
  go_wp2
  go_ret
  exact ⟨rfl, ⟨hb1.os, hb1.tape, hb1.output, hb1.size, hb1.block⟩⟩
end Go.Proofs.Ytlpdihcgdgkkbaa
