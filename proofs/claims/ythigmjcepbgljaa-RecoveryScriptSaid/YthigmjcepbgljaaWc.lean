/- Walks: which keys a work wants. -/
import Derived.Test.YthigmjcepbgljaaWb
namespace Go.Proofs.Ythigmjcepbgljaa
open Go.RowKit Go.St
set_option linter.unusedVariables false
set_option linter.unusedSimpArgs false
set_option maxRecDepth 100000

def wantAt (l : List ByteArray) (ans : List Int) (i : Nat) : Option ByteArray := if ans.getD i 1 = 0 then some (l.getD i zE) else none
def wantU (l : List ByteArray) (ans : List Int) (k : Nat) : List ByteArray := (List.range k).filterMap (wantAt l ans)
def wantF (l : List ByteArray) (ans : List Int) : List ByteArray := if doneB ans then [] else wantU l ans ans.length
theorem wantU_yes {l : List ByteArray} {ans : List Int} {k : Nat} (h : ans.getD k 1 = 0) : wantU l ans (k + 1) = wantU l ans k ++ [l.getD k zE] := by
  unfold wantU
  rw [List.range_succ, List.filterMap_append]
  have : wantAt l ans k = some (l.getD k zE) := by unfold wantAt; rw [if_pos h]
  rw [List.filterMap_cons_some this]; rfl
theorem wantU_no {l : List ByteArray} {ans : List Int} {k : Nat} (h : ans.getD k 1 ≠ 0) : wantU l ans (k + 1) = wantU l ans k := by
  unfold wantU
  rw [List.range_succ, List.filterMap_append]
  have : wantAt l ans k = none := by unfold wantAt; rw [if_neg h]
  rw [List.filterMap_cons_none this]; simp
theorem wantU_le (l : List ByteArray) (ans : List Int) (k : Nat) : (wantU l ans k).length ≤ k := by
  have := List.length_filterMap_le (wantAt l ans) (List.range k)
  simpa [wantU] using this
theorem getD_int {l : List Int} {j : Nat} (h : j < l.length) : l.getD j 1 = l[j] := by simp [List.getD, h]
theorem below_only {B : Nat} {w W : World} (h : Below B w W) : Below B w W := h

theorem want_done {lo hi b g : Nat} {r : Rec} {ans : List Int} (w : World) (h : WkB w lo hi b g r ans) (hd : doneB ans = true) : Calls Try.prog 13 #[.pointer (some ⟨b, 0, none⟩)] w (OutS 0 [] w) := by
  have H0 := Lib.hid (none_any w h)
  have h1 := done_any w h
  rw [hd] at h1
  have H1 := Lib.hid h1
  clear h1 h hd
  go_enter Try.func13, Try.ntmps13
  go_wp2_with fail
  refine H1.out.mono ?_
  rintro e w' ⟨rfl, rfl⟩
  go_wp2_with fail
  refine H0.out.mono ?_
  rintro e w' ⟨rfl, rfl⟩
  go_wp2
  go_ret
  exact ⟨none, 0, rfl, RdN.nil, Below.refl _ _⟩
theorem want_nil ( w : World) : Calls Try.prog 13 #[.pointer none] w fun e w' => e = .returned (.slice none 0 0) ∧ w = w' := by
  have H0 := Lib.hid (none_nil w)
  have H1 := Lib.hid (wdone_nil w)
  go_enter Try.func13, Try.ntmps13
  go_wp2_with fail
  refine H1.out.mono ?_
  rintro e w' ⟨rfl, rfl⟩
  go_wp2_with fail
  refine H0.out.mono ?_
  rintro e w' ⟨rfl, rfl⟩
  go_wp2
  go_ret
  exact ⟨rfl, rfl⟩
theorem want_zero (w0 w : World)(b : Nat) (h : w.cell? ⟨b, 11, none⟩ = some (.slice none 0 0)) : Calls Try.prog 13 #[.pointer (some ⟨b, 0, none⟩)] w fun e w' => e = .returned (.slice none 0 0) ∧ w = w' := by
  have H0 := Lib.hid (none_zero b w h)
  have H1 := Lib.hid (wdone_zero w w b h)
  go_enter Try.func13, Try.ntmps13
  go_wp2_with fail
  refine H1.out.mono ?_
  rintro e w' ⟨rfl, rfl⟩
  go_wp2_with fail
  refine H0.out.mono ?_
  rintro e w' ⟨rfl, rfl⟩
  go_wp2
  go_ret
  exact ⟨rfl, rfl⟩

set_option maxHeartbeats 800000 in
theorem want_open {lo hi b g : Nat} {r : Rec} {ans : List Int} (w : World) (h : WkB w lo hi b g r ans) (hd : doneB ans = false) : Calls Try.prog 13 #[.pointer (some ⟨b, 0, none⟩)] w (OutS (wantU r.l ans ans.length).length (wantU r.l ans ans.length) w) := by
  have H0 := Lib.hid (none_any w h)
  have h1 := done_any w h
  rw [hd] at h1
  have H1 := Lib.hid h1
  have HW := Lib.hid h
  have c11 := h.c11
  have hn := h.rn.2
  have hgn := h.gn
  have hrl : r.l.length = r.n := h.rl
  have HGN := Lib.hid hgn; have HRL := Lib.hid hrl
  rw [hgn]
  clear h1 h hd hgn hrl
  generalize hN : r.n = n at *
  have HNN := Lib.hid hN; clear hN
  go_enter Try.func13, Try.ntmps13
  go_wp2_with fail
  refine H1.out.mono ?_
  rintro e w' ⟨rfl, rfl⟩
  go_wp2_with fail
  refine H0.out.mono ?_
  rintro e w' ⟨rfl, rfl⟩
  go_wp2
  have HO : Hid (w.ownsRow w.heap.size 9 1 (.slice none 0 0) (wantU r.l ans 0).length (sv (wantU r.l ans 0))) := World.ownsRow_nil _ _ _ _
  have HB0 : Hid (Below w.heap.size w w) := Below.refl _ _
  go_loopw [5, 23] (fun v i wr => ∃ k : Nat, k ≤ n ∧ i = .int .i64 k ∧ Hid (wr.ownsRow w.heap.size 9 1 v (wantU r.l ans k).length (sv (wantU r.l ans k))) ∧ Hid (Below w.heap.size w wr)) (fun _ i _ => n - (intOf i).toNat)
  case atStart => exact ⟨0, Nat.zero_le _, rfl, HO, HB0⟩
  case round =>
    obtain ⟨k, hk, rfl, hown, hbw⟩ := hrel
    clear HO HB0 c11
    have HWr := Lib.hid (HW.out.next hbw.out)
    by_cases hlt : k < n
    · have k1 : k < ans.length := by rw [HGN.out]; exact hlt
      have k2 : k < r.l.length := by rw [HRL.out]; exact hlt
      have hga := HWr.out.gc k ans[k] (by simp [k1])
      have c11 := HWr.out.c11
      rw [HNN.out] at c11
      by_cases hz : ans[k] = 0
      · have HS := Lib.hid (wantU_yes (l := r.l) (by rw [getD_int k1]; exact hz))
        have hle := wantU_le r.l ans k
        obtain ⟨kb, off, hA, hkb⟩ := HWr.out.kd
        have hkc := hkb.2.2.2 k _ (sv_get r.l k k2)
        have c6 := HWr.out.bx.c6
        rw [hA, HNN.out] at c6
        rw [hz] at hga
        rw [getD_at k2] at HS
        clear hz hkb hA
        generalize r.l[k] = s at *
        go_wp2_with (at_builtin; refine wpList_app sty55 (.tmp 30) (.tmp 39) rfl rfl w.heap.size (hown.out.alloc _) rfl 1 1 (rd_one _ _ _) rfl rfl (by simp [Value.oneCell']) (by unfold maxLen; omega) (by omega) (by have := hbw.out.size; simp; omega) ?_; intro v2 w2 own2 gr2 nil2 at2)
        exact ⟨⟨k + 1, by omega, by go_num, own_eq own2 (by rw [HS.out]; simp) (by rw [HS.out]; simp [sv]), ((hbw.out.alloc hbw.out.size _).grown gr2 (by have := hbw.out.size; simp; omega) (fun g hg => (hown.out.lt g hg).1))⟩, by simp [intOf]; omega⟩
      · have HS := Lib.hid (wantU_no (l := r.l) (by rw [getD_int k1]; exact hz))
        have e0 : (ans[k] == 0) = false := by simpa using hz
        clear hz
        generalize ans[k] = z at *
        go_wp2
        exact ⟨⟨k + 1, by omega, by go_num, own_eq hown.out (by rw [HS.out]) (by rw [HS.out]), hbw⟩, by simp [intOf]; omega⟩
    · obtain rfl : k = n := by omega
      obtain ⟨A, c, rfl, hrn⟩ := own_rdn hown.out
      have HRN := Lib.hid hrn
      clear hrn
      go_wp2
      go_ret
      exact ⟨A, c, rfl, HRN.out, hbw.out⟩
theorem want_any {lo hi b g : Nat} {r : Rec} {ans : List Int} (w : World) (h : WkB w lo hi b g r ans) : Calls Try.prog 13 #[.pointer (some ⟨b, 0, none⟩)] w (OutS (wantF r.l ans).length (wantF r.l ans) w) := by
  unfold wantF
  cases hd : doneB ans
  · exact want_open w h hd
  · exact want_done w h hd
end Go.Proofs.Ythigmjcepbgljaa
