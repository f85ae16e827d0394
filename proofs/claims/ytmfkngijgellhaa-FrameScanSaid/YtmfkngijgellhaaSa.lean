/- The walk of the reference's Places: where each record begins. -/
import Derived.Test.YtmfkngijgellhaaX
import Derived.Test.YtmfkngijgellhaaU
namespace Go.Proofs.Ytmfkngijgellhaa
open Go.RowKit Go.St
set_option linter.unusedVariables false

/-- Where each record begins, as cells. -/
def begV (l : List (List UInt8)) (k : Nat) : List Value := (List.range k).map fun i => .int .i64 ((endAt l i : Nat) : Int)
theorem begV_succ (l : List (List UInt8)) (k : Nat) : begV l (k + 1) = begV l k ++ [.int .i64 ((endAt l k : Nat) : Int)] := by
  unfold begV
  rw [List.range_succ, List.map_append]
  rfl
theorem begV_get (l : List (List UInt8)) (k i : Nat) (h : i < k) : (begV l k)[i]? = some (.int .i64 ((endAt l i : Nat) : Int)) := by
  unfold begV
  rw [List.getElem?_map, List.getElem?_range h]
  rfl
theorem endAt_more (l m : List (List UInt8)) (i : Nat) (h : i ≤ l.length) : endAt (l ++ m) i = endAt l i := by
  unfold endAt
  rw [List.take_append_of_le_length h]
theorem begV_more (l m : List (List UInt8)) (k : Nat) (h : k ≤ l.length) : begV (l ++ m) k = begV l k := by
  unfold begV
  refine List.map_congr_left fun i hi => ?_
  rw [endAt_more l m i (by have := List.mem_range.1 hi; omega)]
theorem readL_len {bs : List UInt8} (h : readE bs = 0) : readN bs = (readL bs).length + 12 := by
  have hb : rdSize bs + 12 ≤ bs.length ∧ isOpen (bodyOf bs) = true := by
    have h' := h
    unfold readE at h'
    split at h'
    · exact absurd h' (by decide)
    · split at h'
      · exact absurd h' (by decide)
      · split at h'
        · exact absurd h' (by decide)
        · split at h'
          · exact absurd h' (by decide)
          · split at h'
            · exact absurd h' (by decide)
            · rename_i h1 h2
              exact ⟨by omega, by simpa using h2⟩
  rw [readN, if_pos h, readL, if_pos h, openL_body bs hb.1 hb.2]
/-- Where a scan stands, the ends told too. -/
def BegAt (bs : List UInt8) (q k : Nat) (rs : List (List UInt8)) : Prop := ScanAt bs q k rs ∧ endAt rs k = q
theorem BegAt.start (bs : List UInt8) : BegAt bs 0 0 [] := ⟨ScanAt.start bs, rfl⟩
theorem BegAt.next {bs : List UInt8} {q k : Nat} {rs : List (List UInt8)} (h : BegAt bs q k rs) (hE : readE (bs.drop q) = 0) : BegAt bs (q + readN (bs.drop q)) (k + 1) (rs ++ [readL (bs.drop q)]) := by
  obtain ⟨h1, h2⟩ := h
  refine ⟨h1.next hE, ?_⟩
  have hk : rs.length = k := h1.1
  rw [endAt_succ _ k (by simp [hk]), endAt_more _ _ _ (by omega), h2, readL_len hE]
  simp [← hk]
theorem BegAt.stop {bs : List UInt8} {q k : Nat} {rs : List (List UInt8)} (h : BegAt bs q k rs) (hE : readE (bs.drop q) ≠ 0) : (scanF bs).1 = rs := by
  obtain ⟨h1, h2⟩ := h
  have hle := h1.2.2.1
  rcases Nat.lt_or_ge q bs.length with hlt | hge
  · rw [h1.bad hlt hE]
  · rw [h1.all (by omega)]

set_option maxHeartbeats 2000000 in
theorem places_any (A : Option Addr) (n c B : Nat) (bs : List UInt8) (hl : bs.length = n) (hn : n ≤ 1000000) (hc : n ≤ c) (w : World) (hr : Rd w B A (bv bs)) (hB : B ≤ w.heap.size) :
    Calls Try.prog 42 #[.slice A n c] w fun e w' => ∃ V, e = .returned V ∧ w'.ownsRow w.heap.size 3 1 V (scanF bs).1.length (begV (scanF bs).1 (scanF bs).1.length) ∧ Below w.heap.size w w' := by
  have HL := Lib.hid hl; clear hl
  have HR := Lib.hid hr; clear hr
  go_enter Try.func42, Try.ntmps42
  go_wp2
  go_loopw [3, 4] (fun V' i wr => ∃ V : Value, ∃ q k : Nat, ∃ rs : List (List UInt8), V = V' ∧ i = .int .i64 q ∧ BegAt bs q k rs ∧ wr.ownsRow w.heap.size 3 1 V k (begV rs k) ∧ Below w.heap.size w wr) (fun _ i _ => n + 1 - (intOf i).toNat)
  case atStart => exact ⟨_, 0, 0, [], rfl, rfl, BegAt.start bs, World.ownsRow_nil _ _ _ _, Below.refl _ _⟩
  case round =>
    obtain ⟨V, q, k, rs, rfl, rfl, hat, hrows, hbw⟩ := hrel
    have hqn : q ≤ n := by have := hat.1.2.2.1; rw [HL.out] at this; exact this
    have hk12 : 12 * k ≤ q := hat.1.2.1
    have HAT := Lib.hid hat; clear hat
    have HROWS := Lib.hid hrows; clear hrows
    have S1 := hbw.size
    have RA := HR.out.below (hbw.mono hB)
    have RQ : Hid (Rd wr B (if c = q then A else A.map (·.add q)) (bv (bs.drop q))) := by
      have := RA.drop q (cap := c) (by rw [bv_length, HL.out]; exact hc)
      rwa [bv, ← List.map_drop] at this
    clear RA
    have i0 : (0 : Int) ≤ (q : Int) := by omega
    have i1 : (q : Int) ≤ (n : Int) := by omega
    have i2 : (q : Int) ≤ (c : Int) := by omega
    by_cases hcq : c = q
    case' pos =>
      have RZ := RQ.out
      rw [if_pos hcq] at RZ
      have RZ := Lib.hid RZ
      clear RQ
      go_wp2_with fail
      refine (rread_any A (n - q) 0 B (bs.drop q) (by rw [List.length_drop, HL.out]) (by omega) (by omega) _ RZ.out (by omega)).mono ?_
    case' neg =>
      have RZ := RQ.out
      rw [if_neg hcq] at RZ
      have RZ := Lib.hid RZ
      clear RQ
      go_wp2_with fail
      refine (rread_any _ (n - q) (c - q) B (bs.drop q) (by rw [List.length_drop, HL.out]) (by omega) (by omega) _ RZ.out (by omega)).mono ?_
    all_goals
      rintro e w2 ⟨u, rfl, own2, hb2⟩
      have HB2 : Hid (Below w.heap.size w w2) := hbw.trans (hb2.mono S1)
      have R2 : Hid (w2.ownsRow w.heap.size 3 1 V k (begV rs k)) := Lib.hid (own_keep HROWS.out hb2 (Nat.le_refl _))
      obtain ⟨Au, cu, rfl, _, _, _⟩ := own_rd4 own2
      have S2 := hb2.size
      clear own2 hb2 HROWS RZ hbw hcq
      by_cases hE : readE (bs.drop q) = 0
      · have HN := Lib.hid (HAT.out.next hE)
        have h12 := readN_ge hE
        have hle := HN.out.1.2.2.1
        rw [HL.out] at hle
        rw [hE]
        clear hE
        have ez : ((0 : Int) != 0) = false := rfl
        go_wp2_with (at_builtin; refine wpList_app sty47 (.tmp 19) (.tmp 21) rfl rfl w.heap.size (R2.out.alloc _) rfl 1 1 (rd_one _ _ _) rfl rfl (by simp [Value.oneCell']) (by unfold maxLen; omega) (by omega) (by simp; omega) ?_; intro v3 w3 own3 gr3 nil3 at3)
        have hk : rs.length = k := HAT.out.1.1
        have own4 : w3.ownsRow w.heap.size 3 1 v3 (k + 1) (begV (rs ++ [readL (bs.drop q)]) (k + 1)) := own_eq own3 rfl (by rw [begV_succ, begV_more _ _ _ (by omega), endAt_more _ _ _ (by omega), HAT.out.2])
        have hb3 : Below w.heap.size w w3 := (HB2.out.alloc (by omega) _).grown gr3 (by simp; omega) (fun g hg => (R2.out.lt g hg).1)
        exact ⟨⟨v3, q + readN (bs.drop q), k + 1, _, rfl, by go_num, HN.out, own4, hb3⟩, by simp [intOf]; omega⟩
      · have HBAD := Lib.hid (HAT.out.stop hE)
        have ez : (readE (bs.drop q) != 0) = true := by rw [bne_iff_ne]; exact hE
        clear hE
        go_wp2
        go_ret
        refine ⟨_, rfl, ?_, HB2.out⟩
        rw [HBAD.out, show rs.length = k from HAT.out.1.1]
        exact R2.out
end Go.Proofs.Ytmfkngijgellhaa
