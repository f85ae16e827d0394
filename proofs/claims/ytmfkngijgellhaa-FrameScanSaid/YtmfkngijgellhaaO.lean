/- The walks of frame.Read and of the reference's. -/
import Derived.Test.YtmfkngijgellhaaM
import Derived.Lib.EndianBits
namespace Go.Proofs.Ytmfkngijgellhaa
open Go.RowKit Go.St
set_option linter.unusedVariables false

/-- The number that four bytes say. -/
def of4 : List UInt8 → Nat
  | a :: b :: c :: d :: _ => a.toNat + b.toNat * 256 + c.toNat * 65536 + d.toNat * 16777216
  | _ => 0
/-- The size that a frame's head says. -/
def rdSize (bs : List UInt8) : Nat := of4 bs
def bodyOf (bs : List UInt8) : List UInt8 := (bs.drop 8).take (rdSize bs + 4)
/-- What reading some bytes answers: the error's number. -/
def readE (bs : List UInt8) : Int :=
  if bs.length < 8 then 4
  else if isOpen (bs.take 8) = false then 6
  else if 1048576 < rdSize bs then 6
  else if bs.length < rdSize bs + 12 then 4
  else if isOpen (bodyOf bs) = false then 6
  else 0
def readN (bs : List UInt8) : Nat := if readE bs = 0 then rdSize bs + 12 else 0
def readL (bs : List UInt8) : List UInt8 := if readE bs = 0 then openL (bodyOf bs) else []

/-- What the contract of both says. -/
def RdPost (bs : List UInt8) (w : World) (e : Ending) (w' : World) : Prop :=
  ∃ v, e = .returned (.tuple #[v, .int .i64 (readN bs : Nat), .int .i64 (readE bs)]) ∧ w'.ownsRow w.heap.size 5 1 v (readL bs).length (bv (readL bs)) ∧ Below w.heap.size w w'

theorem rdPost_no {bs : List UInt8} {w w' : World} {e : Ending} (k : Int) (hk : k ≠ 0) (hr : readE bs = k) (he : e = .returned (.tuple #[.slice none 0 0, .int .i64 0, .int .i64 k])) (hb : Below w.heap.size w w') : RdPost bs w e w' := by
  subst hr
  refine ⟨_, by rw [readN, if_neg hk]; exact he, ?_, hb⟩
  rw [readL, if_neg hk]
  exact World.ownsRow_nil _ _ _ _

theorem openL_head (bs : List UInt8) (h8 : 8 ≤ bs.length) (ho : isOpen (bs.take 8) = true) : openL (bs.take 8) = bs.take 4 := by
  unfold openL
  rw [if_pos ho, List.take_take, List.length_take]
  congr 1
  omega
theorem openL_body (bs : List UInt8) (h : rdSize bs + 12 ≤ bs.length) (ho : isOpen (bodyOf bs) = true) : (openL (bodyOf bs)).length = rdSize bs := by
  unfold openL
  rw [if_pos ho]
  unfold bodyOf
  simp
  omega

set_option maxHeartbeats 1000000 in
theorem read_any (A : Option Addr) (n c B : Nat) (bs : List UInt8) (hl : bs.length = n) (hn : n ≤ 140737488355328) (hc : n ≤ c) (w : World) (hr : Rd w B A (bv bs)) (hB : B ≤ w.heap.size) :
    Calls Try.prog 34 #[.slice A n c] w (RdPost bs w) := by
  by_cases h8 : n < 8
  · go_enter Try.func34, Try.ntmps34
    go_wp2
    go_ret3
    exact rdPost_no 4 (by decide) (by unfold readE; rw [if_pos (by omega)]) rfl (Below.refl _ _)
  have HL := Lib.hid hl
  have HR := Lib.hid hr; clear hr
  have i0 : (8 : Int) ≤ (n : Int) := by omega
  have i1 : (8 : Int) ≤ (c : Int) := by omega
  have hl8 : (bs.take 8).length = 8 := by rw [List.length_take]; omega
  have R8 : Hid (Rd w B A (bv (bs.take 8))) := by
    have := HR.out.take 8
    rwa [bv, ← List.map_take] at this
  have H8 := Lib.hid hl8; clear hl8
  clear hl
  cases ho : isOpen (bs.take 8) with
  | false =>
    have HO := Lib.hid ho; clear ho
    go_enter Try.func34, Try.ntmps34
    go_wp2_with fail
    refine (opened_any A 8 c B (bs.take 8) H8.out (by omega) (by omega) w R8.out hB).mono ?_
    rintro e w1 ⟨v1, rfl, own1, hb1⟩
    rw [HO.out]
    go_wp2
    go_ret3
    exact rdPost_no 6 (by decide) (by unfold readE; rw [if_neg (by rw [HL.out]; omega), if_pos HO.out]) rfl hb1
  | true =>
    obtain ⟨x0, x1, x2, x3, tl, hbs⟩ : ∃ x0 x1 x2 x3 tl, bs = x0 :: x1 :: x2 :: x3 :: tl := by
      match bs, HL.out with
      | x0 :: x1 :: x2 :: x3 :: tl, _ => exact ⟨x0, x1, x2, x3, tl, rfl⟩
      | [_, _, _], h => simp at h; omega
      | [_, _], h => simp at h; omega
      | [_], h => simp at h; omega
      | [], h => simp at h; omega
    have e4 : bs.take 4 = [x0, x1, x2, x3] := by rw [hbs]; rfl
    have hsz : rdSize bs = x0.toNat + x1.toNat * 256 + x2.toNat * 65536 + x3.toNat * 16777216 := by rw [hbs]; rfl
    have HSZ := Lib.hid hsz; clear hsz hbs
    have E4 := Lib.hid e4; clear e4
    have HO := Lib.hid ho; clear ho
    go_enter Try.func34, Try.ntmps34
    go_wp2_with fail
    refine (opened_any A 8 c B (bs.take 8) H8.out (by omega) (by omega) w R8.out hB).mono ?_
    rintro e w1 ⟨v1, rfl, own1, hb1⟩
    rw [openL_head bs (by rw [HL.out]; omega) HO.out, E4.out] at own1
    rw [HO.out]
    have own1 : w1.ownsRow w.heap.size 5 1 v1 4 (bv [x0, x1, x2, x3]) := own1
    obtain ⟨g1, c1, rfl, hnc1, hcm1, hg1, hg2⟩ := own_blk own1 (by omega)
    have k0 := own1.cellAt 0 (by omega)
    have k1 := own1.cellAt 1 (by omega)
    have k2 := own1.cellAt 2 (by omega)
    have k3 := own1.cellAt 3 (by omega)
    simp only [bv, bt, List.map_cons, List.getElem?_cons_zero, List.getElem?_cons_succ] at k0 k1 k2 k3
    have RR := Lib.hid (HR.out.below (hb1.mono hB))
    have S1 := hb1.size
    have l0 := x0.toNat_lt
    have l1 := x1.toNat_lt
    have l2 := x2.toNat_lt
    have l3 := x3.toNat_lt
    generalize x0.toNat = y0 at *
    generalize x1.toNat = y1 at *
    generalize x2.toNat = y2 at *
    generalize x3.toNat = y3 at *
    have m0 : (y0 : Int) % 4294967296 = (y0 : Int) := by omega
    have m1 : (y1 : Int) % 4294967296 = (y1 : Int) := by omega
    have m2 : (y2 : Int) % 4294967296 = (y2 : Int) := by omega
    have m3 : (y3 : Int) % 4294967296 = (y3 : Int) := by omega
    have t1 : (y1 : Int) * 256 % 4294967296 = (y1 : Int) * 256 := by omega
    have t2 : (y2 : Int) * 65536 % 4294967296 = (y2 : Int) * 65536 := by omega
    have t3 : (y3 : Int) * 16777216 % 4294967296 = (y3 : Int) * 16777216 := by omega
    have b1 := u32_or8 (y0 : Int) ((y1 : Int) * 256) (by omega) (by omega) (by omega) (by omega) (by omega)
    have b2 := u32_or16 ((y0 : Int) + (y1 : Int) * 256) ((y2 : Int) * 65536) (by omega) (by omega) (by omega) (by omega) (by omega)
    have b3 := u32_or24 ((y0 : Int) + (y1 : Int) * 256 + (y2 : Int) * 65536) ((y3 : Int) * 16777216) (by omega) (by omega) (by omega) (by omega) (by omega)
    have hu := uns32
    clear own1 hnc1 hcm1
    go_wp2
    go_quiet (fail)
    clear k0 k1 k2 k3 b1 b2 b3 t1 t2 t3 m0 m1 m2 m3
    have hs : (y0 : Int) + (y1 : Int) * 256 + (y2 : Int) * 65536 + (y3 : Int) * 16777216 = (rdSize bs : Nat) := by rw [HSZ.out]; omega
    rw [hs]
    have hz : rdSize bs < 4294967296 := by rw [HSZ.out]; omega
    clear hs HSZ l0 l1 l2 l3
    have hb2 : Below w.heap.size w (w1.drewN nq) := ⟨hb1.os, hb1.tape, hb1.output, hb1.size, hb1.block⟩
    by_cases hbig : 1048576 < rdSize bs
    · go_wp2
      go_ret3
      exact rdPost_no 6 (by decide) (by unfold readE; rw [if_neg (by rw [HL.out]; omega), if_neg (by rw [HO.out]; simp), if_pos hbig]) rfl hb2
    by_cases hsh : n < rdSize bs + 12
    · go_wp2
      go_ret3
      exact rdPost_no 4 (by decide) (by unfold readE; rw [if_neg (by rw [HL.out]; omega), if_neg (by rw [HO.out]; simp), if_neg hbig, if_pos (by rw [HL.out]; exact hsh)]) rfl hb2
    have hbl : (bodyOf bs).length = rdSize bs + 4 := by unfold bodyOf; rw [List.length_take, List.length_drop, HL.out]; omega
    obtain ⟨b, o, rfl, hbB, _⟩ := RR.out.at_ (bv_get bs 0 (by rw [HL.out]; omega))
    have RB : Hid (Rd (w1.drewN nq) B (some ⟨b, o + 8, none⟩) (bv (bodyOf bs))) := by
      have := ((RR.out.drop 8 (cap := c) (by rw [bv_length, HL.out]; exact hc)).take (rdSize bs + 4))
      rw [if_neg (by omega), bv, ← List.map_drop, ← List.map_take] at this
      exact this
    have HBL := Lib.hid hbl; clear hbl
    have S2 : w.heap.size ≤ (w1.drewN nq).heap.size := S1
    generalize w1.drewN nq = w2 at *
    go_wp2_with fail
    have en : 8 + rdSize bs - 4 = rdSize bs + 4 := by omega
    rw [en]
    refine (opened_any _ (rdSize bs + 4) (c - 8) _ (bodyOf bs) HBL.out (by omega) (by omega) _ RB.out (by omega)).mono ?_
    rintro e w3 ⟨v3, rfl, own3, hb3⟩
    have hb4 : Below w.heap.size w w3 := hb2.trans (hb3.mono S2)
    have O3 : Hid (w3.ownsRow w.heap.size 5 1 v3 (openL (bodyOf bs)).length (bv (openL (bodyOf bs)))) := own3.mono S2
    clear own3 hb3 hb2
    cases hop : isOpen (bodyOf bs) with
    | false =>
      have HP := Lib.hid hop; clear hop
      go_wp2
      go_ret3
      exact rdPost_no 6 (by decide) (by unfold readE; rw [if_neg (by rw [HL.out]; omega), if_neg (by rw [HO.out]; simp), if_neg hbig, if_neg (by rw [HL.out]; exact hsh), if_pos HP.out]) rfl hb4
    | true =>
      have HP := Lib.hid hop; clear hop
      have hE : readE bs = 0 := by unfold readE; rw [if_neg (by rw [HL.out]; omega), if_neg (by rw [HO.out]; simp), if_neg hbig, if_neg (by rw [HL.out]; exact hsh), if_neg (by rw [HP.out]; simp)]
      have HE := Lib.hid hE; clear hE
      go_wp2
      go_ret3
      refine ⟨v3, ?_, ?_, hb4⟩
      · rw [readN, if_pos HE.out, HE.out, show ((rdSize bs + 12 : Nat) : Int) = ((8 : Int) + (rdSize bs : Nat) + 4) by omega]
        rfl
      · rw [readL, if_pos HE.out]
        exact O3.out
end Go.Proofs.Ytmfkngijgellhaa
