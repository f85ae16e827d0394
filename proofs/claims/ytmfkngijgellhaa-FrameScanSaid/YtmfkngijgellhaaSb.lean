/- The walk of frame.Each's function: for every loop body. -/
import Derived.Test.YtmfkngijgellhaaSa
import Derived.RangeFuncNested
import Derived.RangeFuncBound
import Derived.RangeFuncCalls
import Derived.RangeFuncLeaves
import Derived.Shelf.Abstract
import Derived.Shelf.RegionOpen
import Derived.WalkKit
import Derived.OwnWalkIn
import Derived.TacticsInMore
import Derived.LoopNIn
import Derived.LoopIn
namespace Go.Proofs.Ytmfkngijgellhaa
open Go.RowKit Go.St Go.Shelf
set_option linter.unusedVariables false
attribute [local go_sem] Oper.semAt_some

/-- What the walk of the records tells: (scanF bs).1 is rs. -/
theorem BegAt.more {bs : List UInt8} {q k : Nat} {rs : List (List UInt8)} (h : BegAt bs q k rs) (hE : readE (bs.drop q) = 0) : ∃ hk : k < (scanF bs).1.length, (scanF bs).1[k] = readL (bs.drop q) ∧ endAt (scanF bs).1 k = q := by
  obtain ⟨h1, h2⟩ := h
  have hk : rs.length = k := h1.1
  have h3 := (h1.next hE).2.2.2
  have e : (scanF bs).1 = (rs ++ [readL (bs.drop q)]) ++ (scanF (bs.drop (q + readN (bs.drop q)))).1 := by rw [h3]
  refine ⟨by rw [e]; simp; omega, ?_, ?_⟩
  · simp only [e]
    rw [List.getElem_append_left (by simp; omega)]
    simp [← hk]
  · rw [e, endAt_more _ _ _ (by simp; omega), endAt_more _ _ _ (by omega), h2]

set_option maxHeartbeats 2000000 in
theorem each1_in (n : Nat) (hn : 2 ≤ n) (l n₀ Bx : Nat) (A : Option Addr) (len c : Nat) (bs : List UInt8) (hl : bs.length = len) (h6 : len ≤ 1000000) (hc : len ≤ c) (J Jx : Nat → World → Prop)
    (hJ : ∀ k (W W' : World), J k W → Below W.heap.size W W' → J k W')
    (hY : ∀ k (W : World) A1 c1, J k W → (hk : k < (scanF bs).1.length) → Rd W W.heap.size A1 (bv (scanF bs).1[k]) → (scanF bs).1[k].length ≤ c1 → YieldAt Fence.wide (n - 1) Try.prog l #[.int .i64 (endAt (scanF bs).1 k : Nat), .slice A1 (scanF bs).1[k].length c1] W fun e W' =>
      (e = .returned (.bool true) ∧ J (k + 1) W' ∧ Below n₀ W W') ∨ (e = .returned (.bool false) ∧ Jx (k + 1) W'))
    (W : World) (hBx : W.cell? ⟨Bx, 0, none⟩ = some (.slice A len c)) (hlt : Bx < n₀) (hr : Rd W n₀ A (bv bs)) (hn0 : n₀ ≤ W.heap.size) (h0 : J 0 W) :
    CallsIn Fence.wide n Try.prog 49 #[.func (.yield l) #[] #[], .pointer (some ⟨Bx, 0, none⟩)] W fun e W' => (∃ v, e = .returned v) ∧
      (J (scanF bs).1.length W' ∨ ∃ k, k < (scanF bs).1.length ∧ Jx (k + 1) W') := by
  have HL := Lib.hid hl; clear hl
  have HJ := Lib.hid hJ; clear hJ
  have HY := Lib.hid hY; clear hY
  refine callsIn_of_wp Try.func49 rfl trivial ?_ rfl
  simp only [Try.ntmps49, List.size_toArray, List.length_cons, List.length_nil, Nat.reduceAdd, Nat.reduceSub, Array.replicate_succ, Array.replicate_zero, List.push_toArray, List.append_toArray, List.nil_append, List.cons_append]
  gi_wp2
  gi_loopw [3] (fun i wr => ∃ q k : Nat, ∃ rs : List (List UInt8), i = .int .i64 q ∧ BegAt bs q k rs ∧ J k wr ∧ Below n₀ W wr)
    (fun i _ => len + 1 - (intOf i).toNat)
  case atStart => exact ⟨0, 0, [], rfl, BegAt.start bs, h0, Below.refl _ _⟩
  case round =>
    obtain ⟨q, k, rs, rfl, hat, hj, hbw⟩ := hrel
    have hqn : q ≤ len := by have := hat.1.2.2.1; rw [HL.out] at this; exact this
    have HAT := Lib.hid hat; clear hat
    have S1 := hbw.size
    have hbx : wr.cell? ⟨Bx, 0, none⟩ = some (.slice A len c) := (hbw.cell (p := ⟨Bx, 0, none⟩) hlt).trans hBx
    have RA := hr.below hbw
    have RQ : Hid (Rd wr n₀ (if c = q then A else A.map (·.add q)) (bv (bs.drop q))) := by
      have := RA.drop q (cap := c) (by rw [bv_length, HL.out]; exact hc)
      rwa [bv, ← List.map_drop] at this
    clear RA
    have i0 : (0 : Int) ≤ (q : Int) := by omega
    have i1 : (q : Int) ≤ (len : Int) := by omega
    have i2 : (q : Int) ≤ (c : Int) := by omega
    by_cases hcq : c = q
    case' pos =>
      have RZ := RQ.out
      rw [if_pos hcq] at RZ
      have RZ := Lib.hid RZ
      clear RQ
      gi_wp2_with fail
      refine ⟨trivial, fun _ => by omega, ?_⟩
      gi_at_call 34
      refine (callsIn_wide.2 (read_any A (len - q) 0 n₀ (bs.drop q) (by rw [List.length_drop, HL.out]) (by omega) (by omega) _ RZ.out (by omega))).mono ?_
    case' neg =>
      have RZ := RQ.out
      rw [if_neg hcq] at RZ
      have RZ := Lib.hid RZ
      clear RQ
      gi_wp2_with fail
      refine ⟨trivial, fun _ => by omega, ?_⟩
      gi_at_call 34
      refine (callsIn_wide.2 (read_any _ (len - q) (c - q) n₀ (bs.drop q) (by rw [List.length_drop, HL.out]) (by omega) (by omega) _ RZ.out (by omega))).mono ?_
    all_goals
      intro e w2 hp
      obtain ⟨u, rfl, own2, hb2⟩ := hp
      have HB2 : Hid (Below n₀ W w2) := Lib.hid (hbw.trans (hb2.mono (by omega)))
      have J2 := HJ.out k wr w2 hj hb2
      obtain ⟨Au, cu, rfl, hcu, _, rdu⟩ := own_rd4 own2
      have RU := Lib.hid rdu
      have S2 := hb2.size
      clear own2 hb2 hj hbw hbx rdu hcq RZ
      by_cases hE : readE (bs.drop q) = 0
      · have HN := Lib.hid (HAT.out.next hE)
        have h12 := readN_ge hE
        have hle := HN.out.1.2.2.1
        rw [HL.out] at hle
        obtain ⟨hk, hk1, hk2⟩ := HAT.out.more hE
        obtain ⟨fn, tmps, assign, body, hy, hR⟩ := HY.out k w2 Au cu J2 hk (by rw [hk1]; exact RU.out) (by rw [hk1]; exact hcu)
        rw [hk1, hk2] at hy
        rw [hE]
        clear hE hk1 hk2 J2
        have ez : ((0 : Int) != 0) = false := rfl
        gi_wp2
        refine ⟨fun _ => by omega, hR.mono ?_⟩
        rintro e W3 (⟨rfl, hJ3, hk3⟩ | ⟨rfl, hJx3⟩)
        · have HB3 := Lib.hid (HB2.out.trans hk3)
          clear hR hy hk3
          gi_wp2
          exact ⟨⟨q + readN (bs.drop q), k + 1, _, by go_num, HN.out, hJ3, HB3.out⟩, by simp [intOf]; omega⟩
        · clear hR hy
          gi_wp2
          refine bodyPost_ret (results_none rfl _ _ _) rfl ?_
          exact ⟨⟨_, rfl⟩, .inr ⟨k, hk, hJx3⟩⟩
      · have hs := HAT.out.stop hE
        have hk : rs.length = k := HAT.out.1.1
        have ez : (readE (bs.drop q) != 0) = true := by rw [bne_iff_ne]; exact hE
        clear hE
        gi_wp2
        refine ⟨fun _ h => (by cases h), ?_⟩
        gi_wp2
        refine bodyPost_ret (results_none rfl _ _ _) rfl ?_
        exact ⟨⟨_, rfl⟩, .inl (by rw [hs, hk]; exact J2)⟩
end Go.Proofs.Ytmfkngijgellhaa

