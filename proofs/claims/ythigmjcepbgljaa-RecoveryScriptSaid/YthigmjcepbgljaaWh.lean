/- Walks: the chapter's first examples of recoveries; a recovery that nobody made. -/
import Derived.Test.YthigmjcepbgljaaWf
import Derived.Test.YthigmjcepbgljaaWg
namespace Go.Proofs.Ythigmjcepbgljaa
open Go.RowKit Go.St
set_option linter.unusedVariables false
set_option linter.unusedSimpArgs false
set_option maxRecDepth 100000

def tx (c : UInt8) : ByteArray := ⟨#[c]⟩
def exR : Rec := ⟨1, 2, 2, ⟨9, 0, 17⟩, none, 3, 0, [tx 97, tx 98, tx 99], 0, ⟨0, 0, 0⟩⟩
theorem rdn_new (w : World) (l : List ByteArray) (t : TypeId) (B : Nat) (hB : B ≤ w.heap.size) : RdN (w.alloc (.cells (sv l).toArray t)) B (some ⟨w.heap.size, 0, none⟩) (sv l) := fun _ => by
  refine ⟨w.heap.size, 0, rfl, hB, by simp, fun i v hv => ?_⟩
  rw [World.cell?_alloc_mark]
  simpa using hv
theorem example29_any (w : World) : Calls Try.prog 17 #[] w (OutQ exR w) := by
  go_enter Try.func17, Try.ntmps17
  go_wp2
  refine bodyPost_ret (v := .agg #[.int .i32 1, .int .i32 2, .int .u8 2, .int .i64 9, .int .i32 0, .int .i32 17, .slice (some ⟨w.heap.size + 1, 0, none⟩) 3 3, .int .i64 0, .int .i64 0, .int .i32 0, .int .i32 0]) (by simp [results, Try.results17, go_sem, *]) rfl ⟨some ⟨w.heap.size + 1, 0, none⟩, 3, rfl, ?_, ?_⟩
  · have h := rdn_new (w.alloc (.cells #[.int .i32 1, .int .i32 2, .int .u8 2, .int .i64 9, .int .i32 0, .int .i32 17, .slice (some ⟨w.heap.size + 1, 0, none⟩) 3 3, .int .i64 0, .int .i64 0, .int .i32 0, .int .i32 0] 30)) [tx 97, tx 98, tx 99] 9 w.heap.size (by simp)
    rw [World.size_alloc] at h
    exact h
  · go_grown

theorem ev1 : newE exR = 0 := by decide +kernel
theorem ev2 : gotE exR.l [0, 0, 0] (tx 98) = 0 := by decide +kernel
theorem ev3 : gotA exR.l [0, 0, 0] (tx 98) true = [0, 1, 0] := by decide +kernel
theorem ev4 : wantF exR.l [0, 1, 0] = [tx 97, tx 99] := by decide +kernel
theorem ev5 : gotE exR.l [0, 1, 0] (tx 97) = 0 := by decide +kernel
theorem ev6 : gotA exR.l [0, 1, 0] (tx 97) false = [2, 1, 0] := by decide +kernel
theorem ev7 : wantF exR.l [2, 1, 0] = [] := by decide +kernel
theorem got_is {lo hi b g : Nat} {r : Rec} {ans ans' : List Int} {key : ByteArray} {yes : Bool} {E : Int} {w : World} (h : WkB w lo hi b g r ans) (hE : gotE r.l ans key = E) (hA : gotA r.l ans key yes = ans') :
    Calls Try.prog 12 #[.pointer (some ⟨b, 0, none⟩), .string key, .bool yes] w fun e w' => e = .returned (.int .i64 E) ∧ Only w.heap.size g w w' ∧ WkB w' lo hi b g r ans' := by
  subst hE hA
  exact got_any key yes w h
theorem want_is {lo hi b g : Nat} {r : Rec} {ans : List Int} {L : List ByteArray} {w : World} (h : WkB w lo hi b g r ans) (hL : wantF r.l ans = L) : Calls Try.prog 13 #[.pointer (some ⟨b, 0, none⟩)] w (OutS L.length L w) := by
  subst hL
  exact want_any w h
theorem done_is {lo hi b g : Nat} {r : Rec} {ans : List Int} {p q : Bool} {w : World} (h : WkB w lo hi b g r ans) (hp : wholeB ans = p) (hq : doneB ans = q) : Calls Try.prog 11 #[.pointer (some ⟨b, 0, none⟩)] w fun e w' => e = .returned (.tuple #[.bool p, .bool q]) ∧ w = w' := by
  subst hp hq
  exact done_any w h
theorem new_is {r : Rec} {w : World} (hl : fit r) (hr : Rd w w.heap.size r.A (sv r.l)) (hE : newE r = 0) {ans : List Int} (ha : List.replicate r.n 0 = ans) : Calls Try.prog 18 #[r.v] w fun e w' => ∃ b g A c, e = .returned (.tuple #[.pointer (some ⟨b, 0, none⟩), .int .i64 0]) ∧ WkB w' w.heap.size w'.heap.size b g (r.to A c) ans ∧ Below w.heap.size w w' := by
  subst ha
  exact wnew_ok r hl w.heap.size w hr (Nat.le_refl _) hE

set_option maxHeartbeats 1600000 in
theorem lives29_any (w : World) : Calls Try.prog 16 #[] w fun e w' => e = .returned (.bool true) ∧ Below w.heap.size w w' := by
  go_enter Try.func16, Try.ntmps16
  go_wp2_with fail
  refine (example29_any _).mono ?_
  rintro e w1 ⟨A, c, rfl, hrn, hb⟩
  have HB1 := Lib.hid hb
  have HN := Lib.hid (new_is (r := exR.to A c) (w := w1) rfl hrn.rd ev1 (ans := [0, 0, 0]) rfl)
  clear hrn hb
  go_wp2_with fail
  refine HN.out.mono ?_
  rintro e w2 ⟨b, g, A', c', rfl, hW, hb⟩
  have HB2 : Hid (Below w.heap.size w w2) := Lib.hid (HB1.out.trans (hb.mono HB1.out.size))
  have hg : w.heap.size ≤ g := Nat.le_trans HB1.out.size hW.gl.1
  have HW2 := Lib.hid hW
  clear hW hb HN
  go_wp2_with fail
  refine (got_is HW2.out (key := tx 98) (yes := true) ev2 ev3).mono ?_
  rintro e w3 ⟨rfl, ho, hW⟩
  have HB3 : Hid (Below w.heap.size w w3) := Lib.hid (Below.onto HB2.out ho hg HB2.out.size)
  have HW3 := Lib.hid hW
  clear hW ho HW2
  go_wp2_with fail
  refine (want_is HW3.out ev4).mono ?_
  rintro e w4 ⟨A4, c4, rfl, hrn, hb⟩
  have HB4 : Hid (Below w.heap.size w w4) := Lib.hid (HB3.out.trans (hb.mono HB3.out.size))
  have HW4 := Lib.hid (HW3.out.next hb)
  have HR4 := Lib.hid hrn
  have HR5 := Lib.hid ((rdn_new w4 [tx 97, tx 99] 9 w4.heap.size (Nat.le_refl _)).rd)
  have HR6 := Lib.hid (hrn.rd.alloc (Nat.le_refl _) (.cells (sv [tx 97, tx 99]).toArray 9))
  clear hrn hb HW3
  go_wp2_with fail
  refine (ktexts_any A4 (some ⟨w4.heap.size, 0, none⟩) 2 2 c4 2 _ _ [tx 97, tx 99] [tx 97, tx 99] rfl rfl (by omega) _ HR6.out HR5.out).mono ?_
  rintro e w5 ⟨rfl, m, hw5⟩
  rw [eqL_yes rfl]
  have hb5 : Below w4.heap.size w4 w5 := by rw [hw5]; exact bel_dn ((Below.refl _ _).alloc (Nat.le_refl _) _) m
  have HB5 : Hid (Below w.heap.size w w5) := Lib.hid (HB4.out.trans (hb5.mono HB4.out.size))
  have HW5 := Lib.hid (HW4.out.next hb5)
  clear hb5 hw5 HR5 HR6 HR4 HW4
  go_wp2_with fail
  refine (done_is HW5.out (p := false) (q := false) (by decide +kernel) (by decide +kernel)).mono ?_
  rintro e w' ⟨rfl, rfl⟩
  go_wp2_with fail
  refine (got_is HW5.out (key := tx 97) (yes := false) ev5 ev6).mono ?_
  rintro e w6 ⟨rfl, ho, hW⟩
  have HB6 : Hid (Below w.heap.size w w6) := Lib.hid (Below.onto HB5.out ho hg HB5.out.size)
  have HW6 := Lib.hid hW
  clear hW ho HW5
  go_wp2_with fail
  refine (done_is HW6.out (p := false) (q := true) (by decide +kernel) (by decide +kernel)).mono ?_
  rintro e w' ⟨rfl, rfl⟩
  go_wp2_with fail
  refine (want_is HW6.out ev7).mono ?_
  rintro e w7 ⟨A7, c7, rfl, hrn, hb⟩
  have HB7 : Hid (Below w.heap.size w w7) := Lib.hid (HB6.out.trans (hb.mono HB6.out.size))
  clear hrn hb
  go_wp2
  go_ret
  exact ⟨rfl, HB7.out⟩

set_option maxHeartbeats 1600000 in
theorem recoveryNil_walk (w : World) (key : ByteArray) : Calls Try.prog 3 #[.string key] w fun e w' => e = .returned (.bool true) ∧ Below w.heap.size w w' := by
  go_enter Try.func3, Try.ntmps3
  go_wp2
  go_loopw [4] (fun i wr => ∃ k : Nat, k ≤ 2 ∧ i = .int .i64 k ∧ Hid (Below w.heap.size w wr) ∧ Hid (w.heap.size + 1 < wr.heap.size ∧ wr.cell? ⟨w.heap.size, 11, none⟩ = some (.slice none 0 0) ∧ wr.cell? ⟨w.heap.size + 1, 0, none⟩ = some (.pointer none) ∧ wr.cell? ⟨w.heap.size + 1, 1, none⟩ = some (.pointer (some ⟨w.heap.size, 0, none⟩)))) (fun i _ => 2 - (intOf i).toNat)
  case atStart => exact ⟨0, by omega, rfl, Lib.hid (by go_grown), Lib.hid ⟨by simp, by simp, by simp, by simp⟩⟩
  case round =>
    obtain ⟨k, hk, rfl, HB, HC⟩ := hrel
    obtain ⟨z0, c0, c1, c2⟩ := HC.out
    by_cases h2 : k < 2
    · rcases (by omega : k = 0 ∨ k = 1) with rfl | rfl
      · go_wp2_with fail
        refine (wdone_nil wr).mono ?_
        rintro e w' ⟨rfl, rfl⟩
        go_wp2_with fail
        refine (got_nil key true wr).mono ?_
        rintro e w' ⟨rfl, rfl⟩
        go_wp2_with fail
        refine (want_nil wr).mono ?_
        rintro e w' ⟨rfl, rfl⟩
        go_wp2_with fail
        refine (wrec_nil wr).mono ?_
        rintro e w1 ⟨rfl, hb⟩
        go_wp2_with fail
        refine (rsame_yes zeR none 0 rfl (by decide) 0 w1 Rd.nil Rd.nil (Nat.zero_le _)).mono ?_
        rintro e w2 ⟨rfl, hb2⟩
        have hb3 := hb.trans (hb2.mono hb.size)
        have HB3 : Hid (Below w.heap.size w w2) := Lib.hid (HB.out.trans (hb3.mono HB.out.size))
        have HC3 : Hid (w.heap.size + 1 < w2.heap.size ∧ w2.cell? ⟨w.heap.size, 11, none⟩ = some (.slice none 0 0) ∧ w2.cell? ⟨w.heap.size + 1, 0, none⟩ = some (.pointer none) ∧ w2.cell? ⟨w.heap.size + 1, 1, none⟩ = some (.pointer (some ⟨w.heap.size, 0, none⟩))) :=
          Lib.hid ⟨Nat.lt_of_lt_of_le z0 hb3.size, (kept hb3 c0), (kept hb3 c1), (kept hb3 c2)⟩
        clear hb hb2 hb3 c0 c1 c2
        go_wp2
        exact ⟨⟨1, by omega, rfl, HB3, HC3⟩, by simp [intOf]⟩
      · go_wp2_with fail
        refine (wdone_zero wr wr _ c0).mono ?_
        rintro e w' ⟨rfl, rfl⟩
        go_wp2_with fail
        refine (got_zero key true wr wr _ c0).mono ?_
        rintro e w' ⟨rfl, rfl⟩
        go_wp2_with fail
        refine (want_zero wr wr _ c0).mono ?_
        rintro e w' ⟨rfl, rfl⟩
        go_wp2_with fail
        refine (wrec_zero wr wr _ c0 (by omega)).mono ?_
        rintro e w1 ⟨rfl, hb⟩
        go_wp2_with fail
        refine (rsame_yes zeR none 0 rfl (by decide) 0 w1 Rd.nil Rd.nil (Nat.zero_le _)).mono ?_
        rintro e w2 ⟨rfl, hb2⟩
        have hb3 := hb.trans (hb2.mono hb.size)
        have HB3 : Hid (Below w.heap.size w w2) := Lib.hid (HB.out.trans (hb3.mono HB.out.size))
        have HC3 : Hid (w.heap.size + 1 < w2.heap.size ∧ w2.cell? ⟨w.heap.size, 11, none⟩ = some (.slice none 0 0) ∧ w2.cell? ⟨w.heap.size + 1, 0, none⟩ = some (.pointer none) ∧ w2.cell? ⟨w.heap.size + 1, 1, none⟩ = some (.pointer (some ⟨w.heap.size, 0, none⟩))) :=
          Lib.hid ⟨Nat.lt_of_lt_of_le z0 hb3.size, (kept hb3 c0), (kept hb3 c1), (kept hb3 c2)⟩
        clear hb hb2 hb3 c0 c1 c2
        go_wp2
        exact ⟨⟨2, by omega, rfl, HB3, HC3⟩, by simp [intOf]⟩
    · obtain rfl : k = 2 := by omega
      go_wp2_with fail
      refine (lives29_any _).mono ?_
      rintro e w1 ⟨rfl, hb⟩
      have HB3 : Hid (Below w.heap.size w w1) := Lib.hid (HB.out.trans (hb.mono HB.out.size))
      clear hb
      go_wp2
      go_ret
      exact ⟨rfl, HB3.out⟩
end Go.Proofs.Ythigmjcepbgljaa
