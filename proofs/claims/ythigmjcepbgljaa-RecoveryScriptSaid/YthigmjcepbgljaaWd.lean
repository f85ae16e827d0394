/- Walks: an answer kept. -/
import Derived.Test.YthigmjcepbgljaaWc
import Derived.Test.YthigmjcepbgljaaMut
namespace Go.Proofs.Ythigmjcepbgljaa
open Go.RowKit Go.St
set_option linter.unusedVariables false
set_option linter.unusedSimpArgs false
set_option maxRecDepth 100000

def gotQ (l : List ByteArray) (ans : List Int) (key : ByteArray) : Bool := (wantF l ans).any (tyIs key)
def gotA (l : List ByteArray) (ans : List Int) (key : ByteArray) (yes : Bool) : List Int := if gotQ l ans key then ans.set (l.findIdx (tyIs key)) (if yes then 1 else 2) else ans
def gotE (l : List ByteArray) (ans : List Int) (key : ByteArray) : Int := if gotQ l ans key then 0 else 4
theorem wantF_le (l : List ByteArray) (ans : List Int) : (wantF l ans).length ≤ ans.length := by
  unfold wantF
  split
  · exact Nat.zero_le _
  · exact wantU_le l ans _
theorem wantU_sub {l : List ByteArray} {ans : List Int} {k : Nat} (hk : k ≤ l.length) {s : ByteArray} (h : s ∈ wantU l ans k) : s ∈ l := by
  unfold wantU at h
  obtain ⟨i, hi, he⟩ := List.mem_filterMap.1 h
  have hi := List.mem_range.1 hi
  unfold wantAt at he
  split at he
  · injection he with he
    subst he
    rw [getD_at (by omega)]
    exact List.getElem_mem _
  · cases he
theorem gotQ_any {l : List ByteArray} {ans : List Int} (hk : ans.length ≤ l.length) {key : ByteArray} (h : gotQ l ans key = true) : l.any (tyIs key) = true := by
  unfold gotQ wantF at h
  split at h
  · simp at h
  · obtain ⟨s, hs, e⟩ := List.any_eq_true.1 h
    exact List.any_eq_true.2 ⟨s, wantU_sub hk hs, e⟩
theorem WkB.setAns {W : World} {lo hi b g : Nat} {r : Rec} {ans : List Int} (h : WkB W lo hi b g r ans) (i : Nat) (hi2 : i < r.n) (v : Int) : WkB (W.setCell ⟨g, i, none⟩ (.int .i64 v)) lo hi b g r (ans.set i v) := by
  obtain ⟨h1, h2, h3, h4, h5, h6, h7, h8, h9, h10, h11, kb, off, h12, h13, h14, h15, h16⟩ := h
  have far := fun k (hk : k ≠ g) o => World.cell?_setCell_other W ⟨g, i, none⟩ ⟨k, o, none⟩ (.int .i64 v) (fun e => hk (congrArg Addr.block e).symm)
  refine ⟨by simpa [World.setCell] using h1, h2, h3, h4, h5.keep (by simpa [World.setCell] using h5.lt) (fun o => far b h4 o) (fun o => by simp), (far b h4 11).trans h6, fun o => by simp [h7], ?_, by simpa using h9, h10, h11, kb, off, h12, h13, h14, h15, fun j u e => (far kb h15 _).trans (h16 j u e)⟩
  intro j u hu
  have hil : i < ans.length := by omega
  have hci := h8 i ans[i] (by simp [hil])
  rw [List.getElem?_set] at hu
  by_cases e : i = j
  · subst e
    rw [if_pos rfl, if_pos hil] at hu
    injection hu with hu
    subst hu
    simp [go_sem, hci]
  · rw [if_neg e] at hu
    have hcj := h8 j u hu
    have hne : (⟨g, i, none⟩ : Addr) ≠ ⟨g, j, none⟩ := fun e2 => e (congrArg Addr.off e2)
    rw [World.cell?_setCell_other W _ _ _ hne]
    exact hcj

set_option maxHeartbeats 800000 in
theorem got_any {lo hi b g : Nat} {r : Rec} {ans : List Int} (key : ByteArray) (yes : Bool) (w : World) (h : WkB w lo hi b g r ans) :
    Calls Try.prog 12 #[.pointer (some ⟨b, 0, none⟩), .string key, .bool yes] w fun e w' => e = .returned (.int .i64 (gotE r.l ans key)) ∧ Only w.heap.size g w w' ∧ WkB w' lo hi b g r (gotA r.l ans key yes) := by
  have HW := Lib.hid h
  have H0 := Lib.hid (none_any w h)
  have H1 := Lib.hid (want_any w h)
  have hm := wantF_le r.l ans
  have hgn := h.gn
  have hn := h.rn.2
  have hrl : r.l.length = r.n := h.rl
  have HC := Lib.hid (fun A' c' W (hr : Rd W W.heap.size A' (sv (wantF r.l ans))) => tcontains_any A' (wantF r.l ans).length c' W.heap.size (wantF r.l ans) rfl (by omega) key W hr)
  have HI := Lib.hid (fun W (hw : WkB W lo hi b g r ans) => tindex_any r.A r.n r.c hi r.l hrl (by omega) key W hw.rkey)
  have hq : (wantF r.l ans).any (tyIs key) = gotQ r.l ans key := rfl
  have hsub := gotQ_any (l := r.l) (ans := ans) (by omega) (key := key)
  rw [hq] at HC
  unfold gotE gotA
  clear hgn
  generalize gotQ r.l ans key = q at *
  generalize wantF r.l ans = L at *
  clear hq h
  cases q
  · clear hsub
    simp only [Bool.false_eq_true, if_false]
    go_enter Try.func12, Try.ntmps12
    go_wp2_with fail
    refine H0.out.mono ?_
    rintro e w' ⟨rfl, rfl⟩
    go_wp2_with fail
    refine H1.out.mono ?_
    rintro e w1 ⟨A', c', rfl, hrn, hb⟩
    have HB := Lib.hid hb
    have HRN := Lib.hid hrn
    clear hb hrn
    go_wp2_with fail
    refine (HC.out _ _ _ HRN.out.rd).mono ?_
    rintro e w' ⟨rfl, rfl⟩
    go_wp2
    go_ret
    exact ⟨rfl, Only.of_below HB.out, HW.out.next HB.out⟩
  · have hl := hsub rfl
    have hf : fstI (tyIs key) r.l = ((r.l.findIdx (tyIs key) : Nat) : Int) := by unfold fstI; rw [if_pos hl]
    have hlt : r.l.findIdx (tyIs key) < r.n := by
      have := List.findIdx_lt_length_of_exists (p := tyIs key) (xs := r.l) (by obtain ⟨x, h1, h2⟩ := List.any_eq_true.1 hl; exact ⟨x, h1, h2⟩)
      omega
    rw [hf] at HI
    clear hf hl hsub
    generalize r.l.findIdx (tyIs key) = i at *
    simp only [if_true]
    go_enter Try.func12, Try.ntmps12
    go_wp2_with fail
    refine H0.out.mono ?_
    rintro e w' ⟨rfl, rfl⟩
    go_wp2_with fail
    refine H1.out.mono ?_
    rintro e w1 ⟨A', c', rfl, hrn, hb⟩
    have HB := Lib.hid hb
    have HRN := Lib.hid hrn
    have HW1 := Lib.hid (HW.out.next hb)
    clear hb hrn
    go_wp2_with fail
    refine (HC.out _ _ _ HRN.out.rd).mono ?_
    rintro e w' ⟨rfl, rfl⟩
    have c11 := HW1.out.c11
    have c6 := HW1.out.bx.c6
    have cf := HW1.out.gf
    have ci := HW1.out.gc i (ans.getD i 0) (by have := HW1.out.gn; rw [List.getD_eq_getElem?_getD, List.getElem?_eq_getElem (by omega)]; rfl)
    generalize ans.getD i 0 = a0 at *
    have HS := Lib.hid (HW1.out.setAns i hlt 2)
    have HS2 := Lib.hid ((HW1.out.setAns i hlt 2).setAns i hlt 1)
    have hgl := HW1.out.gl
    have far0 := far_store (p := g) (q := b) (fun e => HW1.out.ne e.symm)
    have HO := Lib.hid (fun (v : Value) => ((Only.of_below HB.out).setCell (p := ⟨g, i, none⟩) (.inl rfl) v : Only w.heap.size g w (w1.setCell ⟨g, i, none⟩ v)))
    have HO2 := Lib.hid (fun (v u : Value) => (((Only.of_below HB.out).setCell (p := ⟨g, i, none⟩) (.inl rfl) v).setCell (p := ⟨g, i, none⟩) (.inl rfl) u : Only w.heap.size g w ((w1.setCell ⟨g, i, none⟩ v).setCell ⟨g, i, none⟩ u)))
    go_wp2_with fail
    refine (HI.out _ HW1.out).mono ?_
    rintro e w' ⟨rfl, rfl⟩
    cases yes
    · go_wp2
      go_ret
      exact ⟨rfl, HO.out _, HS.out⟩
    · go_wp2
      go_ret
      refine ⟨rfl, HO2.out _ _, ?_⟩
      have h2 := HS2.out
      rw [List.set_set] at h2
      exact h2
theorem got_nil (key : ByteArray) (yes : Bool) ( w : World) : Calls Try.prog 12 #[.pointer none, .string key, .bool yes] w fun e w' => e = .returned (.int .i64 1) ∧ w = w' := by
  have H0 := Lib.hid (none_nil w)
  go_enter Try.func12, Try.ntmps12
  go_wp2_with fail
  refine H0.out.mono ?_
  rintro e w' ⟨rfl, rfl⟩
  go_wp2
  go_ret
  exact ⟨rfl, rfl⟩
theorem got_zero (key : ByteArray) (yes : Bool) (w0 w : World)(b : Nat) (h : w.cell? ⟨b, 11, none⟩ = some (.slice none 0 0)) : Calls Try.prog 12 #[.pointer (some ⟨b, 0, none⟩), .string key, .bool yes] w fun e w' => e = .returned (.int .i64 1) ∧ w = w' := by
  have H0 := Lib.hid (none_zero b w h)
  go_enter Try.func12, Try.ntmps12
  go_wp2_with fail
  refine H0.out.mono ?_
  rintro e w' ⟨rfl, rfl⟩
  go_wp2
  go_ret
  exact ⟨rfl, rfl⟩
end Go.Proofs.Ythigmjcepbgljaa
