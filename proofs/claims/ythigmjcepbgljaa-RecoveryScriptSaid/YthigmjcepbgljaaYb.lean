/- Walks: which keys the document's work wants; an answer that it keeps. -/
import Derived.Test.YthigmjcepbgljaaYa
import Derived.Test.YthigmjcepbgljaaXa
namespace Go.Proofs.Ythigmjcepbgljaa
open Go.RowKit Go.St
set_option linter.unusedVariables false
set_option linter.unusedSimpArgs false
set_option maxRecDepth 100000

set_option maxHeartbeats 800000 in
theorem rwant_any {lo hi b g y : Nat} {r : Rec} {ans : List Int} (w : World) (h : RkB w lo hi b g y r ans) : Calls Try.prog 24 #[.pointer (some ⟨b, 0, none⟩)] w (OutS (wantF r.l ans).length (wantF r.l ans) w) := by
  have H0 := Lib.hid (rnone_any w h)
  have h1 := rdone_any w h
  have HW := Lib.hid h
  have hn := h.rn.2
  have hgn := h.gn
  have hrl : r.l.length = r.n := h.rl
  have HGN := Lib.hid hgn; have HRL := Lib.hid hrl
  unfold wantF
  cases hd : doneB ans
  · rw [hd] at h1
    have H1 := Lib.hid h1
    simp only [Bool.false_eq_true, if_false]
    rw [hgn]
    clear h1 h hd hgn hrl
    generalize hN : r.n = n at *
    have HNN := Lib.hid hN; clear hN
    go_enter Try.func24, Try.ntmps24
    go_wp2_with fail
    refine H1.out.mono ?_
    rintro e w' ⟨rfl, rfl⟩
    go_wp2_with fail
    refine H0.out.mono ?_
    rintro e w' ⟨rfl, rfl⟩
    go_wp2
    have HO : Hid (w.ownsRow w.heap.size 9 1 (.slice none 0 0) (wantU r.l ans 0).length (sv (wantU r.l ans 0))) := World.ownsRow_nil _ _ _ _
    have HB0 : Hid (Below w.heap.size w w) := Below.refl _ _
    go_loopw [3, 6] (fun v i wr => ∃ k : Nat, k ≤ n ∧ i = .int .i64 k ∧ Hid (wr.ownsRow w.heap.size 9 1 v (wantU r.l ans k).length (sv (wantU r.l ans k))) ∧ Hid (Below w.heap.size w wr)) (fun _ i _ => n - (intOf i).toNat)
    case atStart => exact ⟨0, Nat.zero_le _, rfl, HO, HB0⟩
    case round =>
      obtain ⟨k, hk, rfl, hown, hbw⟩ := hrel
      clear HO HB0
      have HWr := Lib.hid (HW.out.next hbw.out)
      have c12 := HWr.out.c12
      rw [HNN.out] at c12
      by_cases hlt : k < n
      · have k1 : k < ans.length := by rw [HGN.out]; exact hlt
        have k2 : k < r.l.length := by rw [HRL.out]; exact hlt
        obtain ⟨hga, hya⟩ := HWr.out.gc k ans[k] (by simp [k1])
        by_cases hz : ans[k] = 0
        · have HS := Lib.hid (wantU_yes (l := r.l) (by rw [getD_int k1]; exact hz))
          have hle := wantU_le r.l ans k
          obtain ⟨kb, off, hA, hkb⟩ := HWr.out.kd
          have hkc := hkb.2.2.2.2 k _ (sv_get r.l k k2)
          have c7 := HWr.out.c7
          rw [hA, HNN.out] at c7
          rw [hz] at hga
          rw [getD_at k2] at HS
          clear hz hkb hA hya
          generalize r.l[k] = s at *
          go_wp2_with (at_builtin; refine wpList_app sty55 (.tmp 35) (.tmp 44) rfl rfl w.heap.size (hown.out.alloc _) rfl 1 1 (rd_one _ _ _) rfl rfl (by simp [Value.oneCell']) (by unfold maxLen; omega) (by omega) (by have := hbw.out.size; simp; omega) ?_; intro v2 w2 own2 gr2 nil2 at2)
          exact ⟨⟨k + 1, by omega, by go_num, own_eq own2 (by rw [HS.out]; simp) (by rw [HS.out]; simp [sv]), ((hbw.out.alloc hbw.out.size _).grown gr2 (by have := hbw.out.size; simp; omega) (fun g hg => (hown.out.lt g hg).1))⟩, by simp [intOf]; omega⟩
        · have HS := Lib.hid (wantU_no (l := r.l) (by rw [getD_int k1]; exact hz))
          have e0 : (ans[k] != 0) = true := by simpa using hz
          rw [e0] at hga
          clear hz hya e0
          go_wp2
          exact ⟨⟨k + 1, by omega, by go_num, own_eq hown.out (by rw [HS.out]) (by rw [HS.out]), hbw⟩, by simp [intOf]; omega⟩
      · obtain rfl : n = k := by omega
        obtain ⟨A, c, rfl, hrn⟩ := own_rdn hown.out
        have HRN := Lib.hid hrn
        clear hrn
        go_wp2
        go_ret
        exact ⟨A, c, rfl, HRN.out, hbw.out⟩
  · rw [hd] at h1
    have H1 := Lib.hid h1
    simp only [if_true, List.length_nil]
    clear h1 h hd hgn hrl
    go_enter Try.func24, Try.ntmps24
    go_wp2_with fail
    refine H1.out.mono ?_
    rintro e w' ⟨rfl, rfl⟩
    go_wp2_with fail
    refine H0.out.mono ?_
    rintro e w' ⟨rfl, rfl⟩
    go_wp2
    go_ret
    exact ⟨none, 0, rfl, RdN.nil, Below.refl _ _⟩
end Go.Proofs.Ythigmjcepbgljaa
