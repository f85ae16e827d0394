/- Walks: a range's span; a key's node; two lists of spans compared. -/
import Derived.Test.YtlpdihcgdgkkbaaRe
namespace Go.Proofs.Ytlpdihcgdgkkbaa
open Go.RowKit Go.St
set_option linter.unusedVariables false
set_option linter.unusedSimpArgs false
set_option maxRecDepth 100000

theorem bel_dn {B : Nat} {a w : World} (h : Below B a w) (n : Nat) : Below B a (w.drewN n) := ⟨h.os, h.tape, h.output, h.size, h.block⟩
/-- The span of range i: where it starts, where it ends. -/
def frT (l : List ByteArray) (i : Nat) : ByteArray := if i = 0 then zE else l.getD (i - 1) zE
def toT (l : List ByteArray) (i : Nat) : ByteArray := l.getD i zE
def spE (l : List ByteArray) (z : Int) : Int := if chk21 l ≠ 0 then chk21 l else if z < 0 ∨ (l.length : Int) < z then 2 else 0
def spF (l : List ByteArray) (z : Int) : ByteArray := if spE l z = 0 then frT l z.toNat else zE
def spT (l : List ByteArray) (z : Int) : ByteArray := if spE l z = 0 then toT l z.toNat else zE
def spV (l : List ByteArray) (z : Int) : Value := .agg #[.string (spF l z), .string (spT l z)]

theorem chk_len {l : List ByteArray} (h : chk21 l = 0) : l.length ≤ 15 := by
  unfold chk21 at h
  split at h
  · cases h
  · omega

set_option maxHeartbeats 1600000 in
theorem span21_any (A : Option Addr) (n c B : Nat) (l : List ByteArray) (hl : l.length = n) (hn : n < 4611686018427387904) (z : Int) (h1 : -9223372036854775808 ≤ z) (h2 : z ≤ 9223372036854775807) (w : World) (hr : Rd w B A (sv l)) (hB : B ≤ w.heap.size) :
    Calls Try.prog 43 #[.slice A n c, .int .i64 z] w fun e w' => e = .returned (.tuple #[spV l z, .int .i64 (spE l z)]) ∧ Below w.heap.size w w' := by
  have HC := Lib.hid (fun W (h : Rd W B A (sv l)) => check21_any A n c B l hl (by omega) W h)
  have HR : Hid (Rd (w.alloc (.cells #[.string ⟨#[]⟩, .string ⟨#[]⟩] 67)) B A (sv l)) := hr.alloc hB _
  have HR0 := Lib.hid hr; clear hr
  by_cases h0 : chk21 l = 0
  case neg =>
    have e1 : spE l z = chk21 l := by unfold spE; rw [if_pos h0]
    have e2 : spV l z = .agg #[.string zE, .string zE] := by unfold spV spF spT; rw [e1, if_neg h0, if_neg h0]
    rw [e1, e2]
    clear hl e1 e2
    generalize chk21 l = q at *
    go_enter Try.func43, Try.ntmps43
    go_wp2_with fail
    refine (HC.out _ HR.out).mono ?_
    rintro e w' ⟨rfl, m, rfl⟩
    go_wp2
    refine bodyPost_ret (v := .tuple #[.agg #[.string ⟨#[]⟩, .string ⟨#[]⟩], .int .i64 q]) (by simp [results, Try.results43, go_sem]) rfl ⟨rfl, ?_⟩
    go_grown
    exact bel_dn ((Below.refl _ _).alloc (Nat.le_refl _) _) _
  rw [h0] at HC
  by_cases hz : z < 0 ∨ (n : Int) < z
  · have e1 : spE l z = 2 := by unfold spE; rw [if_neg (by rw [h0]; decide), if_pos (by rw [hl]; exact hz)]
    have e2 : spV l z = .agg #[.string zE, .string zE] := by unfold spV spF spT; rw [e1]; rfl
    rw [e1, e2]
    clear hl e1 e2 h0
    by_cases hz0 : z < 0
    · go_enter Try.func43, Try.ntmps43
      go_wp2_with fail
      refine (HC.out _ HR.out).mono ?_
      rintro e w' ⟨rfl, m, rfl⟩
      go_wp2
      refine bodyPost_ret (v := .tuple #[.agg #[.string ⟨#[]⟩, .string ⟨#[]⟩], .int .i64 2]) (by simp [results, Try.results43, go_sem]) rfl ⟨rfl, ?_⟩
      go_grown
      exact bel_dn ((Below.refl _ _).alloc (Nat.le_refl _) _) _
    · have hz1 : (n : Int) < z := by omega
      clear hz
      go_enter Try.func43, Try.ntmps43
      go_wp2_with fail
      refine (HC.out _ HR.out).mono ?_
      rintro e w' ⟨rfl, m, rfl⟩
      go_wp2
      refine bodyPost_ret (v := .tuple #[.agg #[.string ⟨#[]⟩, .string ⟨#[]⟩], .int .i64 2]) (by simp [results, Try.results43, go_sem]) rfl ⟨rfl, ?_⟩
      go_grown
      exact bel_dn ((Below.refl _ _).alloc (Nat.le_refl _) _) _
  · obtain ⟨i, rfl⟩ : ∃ i : Nat, z = i := ⟨z.toNat, by omega⟩
    have hin : i ≤ n := by omega
    have e1 : spE l i = 0 := by unfold spE; rw [if_neg (by rw [h0]; decide), if_neg (by rw [hl]; exact hz)]
    have e2 : spV l i = .agg #[.string (frT l i), .string (toT l i)] := by unfold spV spF spT; rw [e1]; rfl
    rw [e1, e2]
    have fF : ∀ t, frT l i = t → Hid (frT l i = t) := fun t h => h
    have fT : ∀ t, toT l i = t → Hid (toT l i = t) := fun t h => h
    have ht1 : i < n → ∃ t b off, toT l i = t ∧ A = some ⟨b, off, none⟩ ∧ b < B ∧ w.cell? ⟨b, off + i, none⟩ = some (.string t) := by
      intro h
      have hjl : i < l.length := by omega
      obtain ⟨b, off, rfl, hb, hcell⟩ := HR0.out.at_ (sv_get l i hjl)
      exact ⟨_, b, off, by simp [toT, List.getD, hjl], rfl, hb, hcell⟩
    have hf1 : 0 < i → ∃ t b off, frT l i = t ∧ A = some ⟨b, off, none⟩ ∧ b < B ∧ w.cell? ⟨b, off + (i - 1), none⟩ = some (.string t) := by
      intro h
      have hjl : i - 1 < l.length := by omega
      obtain ⟨b, off, rfl, hb, hcell⟩ := HR0.out.at_ (sv_get l (i - 1) hjl)
      exact ⟨_, b, off, by simp [frT, List.getD, hjl, show i ≠ 0 by omega], rfl, hb, hcell⟩
    have ht0 : i = n → toT l i = zE := fun h => by unfold toT; simp [List.getD, List.getElem?_eq_none (by omega : l.length ≤ i)]
    have hf0 : i = 0 → frT l i = zE := fun h => by unfold frT; rw [if_pos h]
    generalize frT l i = f at *
    generalize toT l i = t at *
    clear e1 e2 h0 hz hl fF fT
    rcases Nat.eq_zero_or_pos i with hi0 | hi0
    · have ef := hf0 hi0
      subst hi0 ef
      clear hf1 hf0
      rcases Nat.eq_zero_or_pos n with hn0 | hn0
      · have et := ht0 hn0.symm
        subst hn0 et
        clear ht1 ht0
        go_enter Try.func43, Try.ntmps43
        go_wp2_with fail
        refine (HC.out _ HR.out).mono ?_
        rintro e w' ⟨rfl, m, rfl⟩
        go_wp2
        refine bodyPost_ret (v := .tuple #[.agg #[.string ⟨#[]⟩, .string ⟨#[]⟩], .int .i64 0]) (by simp [results, Try.results43, go_sem]) rfl ⟨rfl, ?_⟩
        go_grown
        exact bel_dn ((Below.refl _ _).alloc (Nat.le_refl _) _) _
      · obtain ⟨_, b, off, rfl, rfl, hb, hcell⟩ := ht1 hn0
        have hb' : b < w.heap.size := by omega
        clear ht0 ht1
        simp only [Nat.add_zero] at hcell
        go_enter Try.func43, Try.ntmps43
        go_wp2_with fail
        refine (HC.out _ HR.out).mono ?_
        rintro e w' ⟨rfl, m, rfl⟩
        go_wp2
        refine bodyPost_ret (v := .tuple #[.agg #[.string ⟨#[]⟩, .string t], .int .i64 0]) (by simp [results, Try.results43, go_sem]) rfl ⟨rfl, ?_⟩
        go_grown
        exact bel_dn ((Below.refl _ _).alloc (Nat.le_refl _) _) _
    · obtain ⟨_, b, off, rfl, rfl, hb, hcell⟩ := hf1 hi0
      have hb' : b < w.heap.size := by omega
      clear hf0 hf1
      obtain ⟨j, rfl⟩ : ∃ j, i = j + 1 := ⟨i - 1, by omega⟩
      have hji : (j : Int) + 1 - 1 = (j : Int) := by omega
      rw [show ((j + 1 : Nat) : Int) = (j : Int) + 1 by omega] at h1 h2 ⊢
      simp only [Nat.add_sub_cancel] at hcell
      by_cases hin' : j + 1 < n
      · obtain ⟨_, b', off', rfl, e, hb2, hcell'⟩ := ht1 hin'
        injection e with e
        injection e with e1 e2
        subst e1 e2
        clear ht0 ht1
        go_enter Try.func43, Try.ntmps43
        go_wp2_with fail
        refine (HC.out _ HR.out).mono ?_
        rintro e w' ⟨rfl, m, rfl⟩
        clear HC HR HR0 hB h1 h2
        go_wp2
        refine bodyPost_ret (v := .tuple #[.agg #[.string f, .string t], .int .i64 0]) (by simp [results, Try.results43, go_sem]) rfl ⟨rfl, ?_⟩
        go_grown
        exact bel_dn ((Below.refl _ _).alloc (Nat.le_refl _) _) _
      · have hjn : j + 1 = n := by omega
        have et := ht0 hjn
        subst et
        clear ht0 ht1
        go_enter Try.func43, Try.ntmps43
        go_wp2_with fail
        refine (HC.out _ HR.out).mono ?_
        rintro e w' ⟨rfl, m, rfl⟩
        clear HC HR HR0 hB h1 h2
        go_wp2
        refine bodyPost_ret (v := .tuple #[.agg #[.string f, .string ⟨#[]⟩], .int .i64 0]) (by simp [results, Try.results43, go_sem]) rfl ⟨rfl, ?_⟩
        go_grown
        exact bel_dn ((Below.refl _ _).alloc (Nat.le_refl _) _) _

/-- ranges.Node. -/
def ndE (l : List ByteArray) (z : Int) : Int := if chk21 l ≠ 0 then chk21 l else if z < 1 ∨ 7 < z then 2 else 0
def ndR (l : List ByteArray) (k : ByteArray) (z : Int) : Int := if ndE l z = 0 then (ofR l k : Int) % z else 0
set_option maxHeartbeats 1600000 in
theorem node21_any (A : Option Addr) (n c B : Nat) (l : List ByteArray) (hl : l.length = n) (hn : n < 4611686018427387904) (k : ByteArray) (z : Int) (h1 : -9223372036854775808 ≤ z) (h2 : z ≤ 9223372036854775807) (w : World) (hr : Rd w B A (sv l)) :
    Calls Try.prog 57 #[.slice A n c, .string k, .int .i64 z] w fun e w' => e = .returned (.tuple #[.int .i64 (ndR l k z), .int .i64 (ndE l z)]) ∧ ∃ q, w' = w.drewN q := by
  have HC := Lib.hid (of21_any A n c B l hl (by omega) k w hr)
  clear hr
  by_cases h0 : chk21 l = 0
  case neg =>
    have e1 : ndE l z = chk21 l := by unfold ndE; rw [if_pos h0]
    have e2 : ndR l k z = 0 := by unfold ndR; rw [e1, if_neg h0]
    rw [e1, e2]
    clear hl e1 e2
    generalize chk21 l = q at *
    generalize ofR l k = r at *
    go_enter Try.func57, Try.ntmps57
    go_wp2_with fail
    refine HC.out.mono ?_
    rintro e w' ⟨rfl, m, rfl⟩
    go_wp2
    go_ret2
    exact ⟨rfl, m, rfl⟩
  have hr15 : ofR l k ≤ 16 := by
    have := chk_len h0
    unfold ofR ofT bsT
    rw [if_pos h0]
    have : (List.takeWhile (fun s => klt s k) l).length ≤ l.length := List.Sublist.length_le (List.takeWhile_sublist _)
    split <;> omega
  have e0 : ndE l z = if z < 1 ∨ 7 < z then 2 else 0 := by unfold ndE; rw [if_neg (by rw [h0]; decide)]
  have e3 : ndR l k z = if ndE l z = 0 then (ofR l k : Int) % z else 0 := rfl
  rw [e3]
  rw [h0] at HC
  generalize ofR l k = r at *
  by_cases hz : z < 1 ∨ 7 < z
  · rw [if_pos hz] at e0
    rw [e0, if_neg (by decide)]
    clear e0 e3 hl h0
    rcases hz with hz | hz
    all_goals
      go_enter Try.func57, Try.ntmps57
      go_wp2_with fail
      refine HC.out.mono ?_
      rintro e w' ⟨rfl, m, rfl⟩
      go_wp2
      go_ret2
      exact ⟨rfl, m, rfl⟩
  · rw [if_neg hz] at e0
    rw [e0, if_pos rfl]
    clear e0 e3 hl h0
    obtain ⟨m7, rfl⟩ : ∃ m : Nat, z = m := ⟨z.toNat, by omega⟩
    have hm1 : 1 ≤ m7 := by omega
    have hm2 : m7 ≤ 7 := by omega
    clear hz h1 h2
    go_enter Try.func57, Try.ntmps57
    go_wp2_with fail
    refine HC.out.mono ?_
    rintro e w' ⟨rfl, m, rfl⟩
    go_wp2
    go_ret2
    exact ⟨by first | rfl | simp, m, rfl⟩
end Go.Proofs.Ytlpdihcgdgkkbaa
