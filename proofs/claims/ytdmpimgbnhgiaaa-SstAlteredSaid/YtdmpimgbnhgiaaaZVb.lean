/- A table of which one frame was altered is opened, or refused. -/
import Derived.Test.YtdmpimgbnhgiaaaZBase
import Derived.Test.YtdmpimgbnhgiaaaZUz
import Derived.Test.YtdmpimgbnhgiaaaChecked
import Derived.IntWalk
import Derived.WalkKit

namespace Go.Proofs.Ytdmpimgbnhgiaaa
open Go.RowKit Go.St
set_option linter.unusedVariables false
set_option linter.unusedSimpArgs false
set_option maxRecDepth 100000
theorem tmod_val (x n : Int) (hn : 0 < n) : x % n = if x.tmod n < 0 then x.tmod n + n else x.tmod n := by
  have h := Int.tmod_add_mul_tdiv x n
  have h1 := Int.tmod_lt_of_pos x hn
  have h2 := Int.lt_tmod_of_pos x hn
  have e : x % n = x.tmod n % n := by
    conv => lhs; rw [← h]
    exact Int.add_mul_emod_self_left _ _ _
  rw [e]
  split
  · rw [← Int.add_emod_right, Int.emod_eq_of_lt (by omega) (by omega)]
  · exact Int.emod_eq_of_lt (by omega) h1
set_option maxHeartbeats 400000 in
theorem pick_any (x n : Int) (hn : 0 < n) (hn2 : n ≤ 1000000) (hx : -9223372036854775808 ≤ x ∧ x ≤ 9223372036854775807) (w : World) : Calls Try.prog 29 #[.int .i64 x, .int .i64 n] w fun e w' => e = .returned (.int .i64 (x % n)) ∧ w = w' := by
  by_cases h0 : 0 ≤ x
  · have h1 : ¬ x % n < 0 := by have := Int.emod_nonneg x (show n ≠ 0 by omega); omega
    go_enter Try.func29, Try.ntmps29
    go_wp2
    go_ret
    exact ⟨rfl, rfl⟩
  · go_enter Try.func29, Try.ntmps29
    go_wp2
    · go_ret
      refine ⟨ret_int ?_, rfl⟩
      have h3 : x.tmod n < 0 := by assumption
      have h2 := tmod_val x n hn
      rw [if_pos h3] at h2
      rw [h2]
      have hb := Int.lt_tmod_of_pos x hn
      exact IntWalk.wrap64_in _ ⟨by omega, by omega⟩
    · go_ret
      refine ⟨ret_int ?_, rfl⟩
      have h3 : 0 ≤ x.tmod n := by assumption
      have h2 := tmod_val x n hn
      rw [if_neg (by omega)] at h2
      exact h2.symm

end Go.Proofs.Ytdmpimgbnhgiaaa

namespace Go.Proofs.Ytdmpimgbnhgiaaa
open Go.RowKit Go.St Go.Shelf Go.Maps
set_option linter.unusedVariables false
set_option linter.unusedSimpArgs false
set_option maxRecDepth 100000

theorem styN : STy Try.prog 62 3 1 8 (.int .i64 0) := ⟨Try.underlying62, ⟨_, rfl, by kernel_rfl, by kernel_rfl, by kernel_rfl⟩, rfl, by decide⟩
/-- The places 0 .. k as cells. -/
def evC (e : Nat → Nat) : Nat → List Value
  | 0 => [.int .i64 ((e 0 : Nat) : Int)]
  | k + 1 => evC e k ++ [.int .i64 ((e (k + 1) : Nat) : Int)]
theorem evC_len (e : Nat → Nat) : ∀ k, (evC e k).length = k + 1
  | 0 => rfl
  | k + 1 => by rw [evC, List.length_append, evC_len e k]; rfl
theorem evC_get (e : Nat → Nat) {j : Nat} : ∀ k, j ≤ k → (evC e k)[j]? = some (.int .i64 ((e j : Nat) : Int))
  | 0, h => by
    obtain rfl : j = 0 := by omega
    rfl
  | k + 1, h => by
    have hl := evC_len e k
    rw [evC]
    rcases Nat.lt_or_ge j (k + 1) with h1 | h1
    · rw [List.getElem?_append_left (by omega)]
      exact evC_get e k (by omega)
    · obtain rfl : j = k + 1 := by omega
      rw [List.getElem?_append_right (by omega), hl, Nat.sub_self]
      rfl
set_option maxHeartbeats 3200000 in
theorem frames_any (A : Option Addr) (n c M : Nat) (X : List UInt8) (e sz : Nat → Nat) (hl : X.length = n) (hn : n ≤ 100000000) (hM : M ≤ 1000) (h0 : e 0 = 0) (hend : e M = n)
    (hs : ∀ k, k < M → e (k + 1) = e k + sz k + 12 ∧ e k + 12 ≤ n ∧ sz k < 16777216 ∧ X[e k]? = some (UInt8.ofNat (sz k)) ∧ X[e k + 1]? = some (UInt8.ofNat (sz k / 256)) ∧ X[e k + 2]? = some (UInt8.ofNat (sz k / 65536))) (B : Nat) (w : World) (hr : Rd w B A (bv X)) (hB : B ≤ w.heap.size) :
    Calls Try.prog 28 #[.slice A n c] w fun r w' => ∃ A' c', r = .returned (.slice A' (M + 1) c') ∧ w'.ownsRow w.heap.size 3 1 (.slice A' (M + 1) c') (M + 1) (evC e M) ∧ Below w.heap.size w w' := by
  have HR := Lib.hid hr
  have HS := Lib.hid hs
  have HL := Lib.hid hl
  have HE := Lib.hid hend
  have H0 := Lib.hid h0
  clear hr hs hl hend h0
  go_enter Try.func28, Try.ntmps28
  go_wp2_with fail
  have ha : Below w.heap.size w (w.alloc (.cells #[.int .i64 0] 3)) := (Below.refl _ _).alloc (Nat.le_refl _) _
  have O1 : Hid ((w.alloc (.cells #[.int .i64 0] 3)).ownsRow w.heap.size 3 1 (.slice (some ⟨w.heap.size, 0, none⟩) 1 1) 1 (evC e 0)) := Lib.hid (by
    have h := World.ownsRow_lit (base := w.heap.size) (e := 3) (size := 1) w #[.int .i64 0] 1 (Nat.le_refl _) (by decide) rfl
    rw [evC, H0.out]
    exact h)
  have B1 := Lib.hid ha
  clear ha
  generalize w.alloc (.cells #[.int .i64 0] 3) = w1 at *
  go_loopw [3, 4] (fun s3 s4 wr => ∃ (Aq : Option Addr) (cq k ek : Nat), s3 = .slice Aq (k + 1) cq ∧ s4 = .int .i64 (ek : Int) ∧ k ≤ M ∧ ek ≤ n ∧ Hid (ek = e k) ∧ Hid (wr.ownsRow w.heap.size 3 1 (.slice Aq (k + 1) cq) (k + 1) (evC e k)) ∧ Hid (Below w.heap.size w wr)) (fun _ s4 _ => n - (intOf s4).toNat)
  case atStart => exact ⟨some ⟨w.heap.size, 0, none⟩, 1, 0, 0, rfl, rfl, Nat.zero_le _, Nat.zero_le _, Lib.hid H0.out.symm, O1, B1⟩
  case round =>
    clear O1 B1
    obtain ⟨Aq, cq, k, ek, rfl, rfl, hk, hek, HEK, OQ, BQ⟩ := hrel
    obtain ⟨w2, rfl⟩ : ∃ x, x = wr := ⟨_, rfl⟩
    by_cases hlt : k < M
    · obtain ⟨h1, h2, h3, h4, h5, h6⟩ := HS.out k hlt
      rw [← HEK.out] at h1 h2 h4 h5 h6
      obtain ⟨s, hse⟩ : ∃ s, s = sz k := ⟨_, rfl⟩
      rw [← hse] at h1 h3 h4 h5 h6
      have hbx : ∀ i v, X[i]? = some v → (bv X)[i]? = some (bt v) := fun i v h => by rw [bv, List.getElem?_map, h]; rfl
      obtain ⟨b1, o1, hA1, hb1, hc1⟩ := (HR.out.below (BQ.out.mono hB)).at_ (hbx _ _ h4)
      obtain ⟨b2, o2, hA2, hb2, hc2⟩ := (HR.out.below (BQ.out.mono hB)).at_ (hbx _ _ h5)
      obtain ⟨b3, o3, hA3, hb3, hc3⟩ := (HR.out.below (BQ.out.mono hB)).at_ (hbx _ _ h6)
      subst hA1
      injection hA2 with hA2
      injection hA2 with e1 e2
      injection hA3 with hA3
      injection hA3 with e3 e4
      subst e1 e2 e3 e4
      unfold bt at hc1 hc2 hc3
      rw [UInt8.toNat_ofNat'] at hc1 hc2 hc3
      obtain ⟨y0, hy0⟩ : ∃ y0, y0 = s % 2 ^ 8 := ⟨_, rfl⟩
      obtain ⟨y1, hy1⟩ : ∃ y1, y1 = s / 256 % 2 ^ 8 := ⟨_, rfl⟩
      obtain ⟨y2, hy2⟩ : ∃ y2, y2 = s / 65536 % 2 ^ 8 := ⟨_, rfl⟩
      rw [← hy0] at hc1
      rw [← hy1] at hc2
      rw [← hy2] at hc3
      have hy : y0 < 256 ∧ y1 < 256 ∧ y2 < 256 := by omega
      have HY : Hid (y0 + y1 * 256 + y2 * 65536 = s) := Lib.hid (by omega)
      have HE1 := Lib.hid h1
      have zb : b1 < w2.heap.size := by have := BQ.out.size; omega
      have hz2 := BQ.out.size
      have i0 : (0 : Int) ≤ (ek : Int) := by omega
      have i1 : (ek : Int) + 8 ≤ (n : Int) := by omega
      have i2 : (ek : Int) + 2 < (n : Int) := by omega
      have i3 : (ek : Int) + 1 < (n : Int) := by omega
      have i4 : (ek : Int) < (n : Int) := by omega
      clear h1 h4 h5 h6 hse hy0 hy1 hy2 hb2 hb3 hbx h3
      go_wp2_with fail
      refine wp_qall (by kernel_rfl) (by kernel_rfl) ?_
      intro hcg
      repeat (first | go_big_quiet_step ((fail)) | quiet_step ((fail)))
      refine wpQuiet_nil ?_
      intro wq hbwq hcwq hfwq
      clear hcg
      have OQ3 := Lib.hid (own_keep OQ.out hbwq (Nat.le_refl _))
      have BQ3 := Lib.hid (BQ.out.trans (hbwq.mono hz2))
      have hz3 : w.heap.size ≤ wq.heap.size := BQ3.out.size
      clear hbwq hcwq hfwq OQ BQ hc1 hc2 hc3 zb
      obtain ⟨w3, rfl⟩ : ∃ x, x = wq := ⟨_, rfl⟩
      go_wp2_with (at_builtin; refine wpList_app styN (.tmp 35) (.tmp 37) rfl rfl w.heap.size (OQ3.out.alloc _) rfl 1 1 (rd_frC _ _ _ _) rfl rfl (by simp [Value.oneCell']) (by unfold maxLen; omega) (by omega) (by rw [World.size_alloc]; omega) ?_; intro v9 w4 own9 gr9 nil9 at9; obtain ⟨A9, c9, rfl, -, -⟩ := own_sl own9)
      have hval : (ek : Int) + 12 + (y0 : Int) + (y1 : Int) * 256 + (y2 : Int) * 65536 = ((e (k + 1) : Nat) : Int) := by
        rw [HE1.out, ← HY.out]
        omega
      have O9 : Hid (w4.ownsRow w.heap.size 3 1 (.slice A9 (k + 1 + 1) c9) (k + 1 + 1) (evC e (k + 1))) := Lib.hid (own_eq own9 rfl (by rw [evC]; congr 1; rw [← hval]))
      have B9 := Lib.hid ((BQ3.out.alloc hz3 _).grown gr9 (by rw [World.size_alloc]; omega) (fun g e => (OQ3.out.lt g e).1))
      have hen : e (k + 1) ≤ n := by
        rcases Nat.lt_or_ge (k + 1) M with h | h
        · have := (HS.out (k + 1) h).2.1
          omega
        · rw [show k + 1 = M by omega, HE.out]
          exact Nat.le_refl _
      have hgt : ek < e (k + 1) := by rw [HE1.out]; omega
      have HV := Lib.hid hval
      clear own9 gr9 nil9 at9 hval
      go_roundw
      case rel => exact ⟨A9, c9, k + 1, e (k + 1), rfl, by rw [HV.out], by omega, hen, Lib.hid rfl, O9, B9⟩
      case measure =>
        rw [HV.out]
        (first | (simp [intOf]; done) | (simp [intOf]; omega))
    · obtain rfl : k = M := by omega
      have hek2 : ek = n := by rw [HEK.out, HE.out]
      subst hek2
      go_wp2_with fail
      go_ret
      exact ⟨Aq, cq, rfl, OQ.out, BQ.out⟩
end Go.Proofs.Ytdmpimgbnhgiaaa

namespace Go.Proofs.Ytdmpimgbnhgiaaa
open Go.RowKit Go.St Go.Shelf
set_option linter.unusedVariables false
set_option linter.unusedSimpArgs false
set_option maxRecDepth 100000

/-- The records of a table's frames. -/
def frK (p b : Nat) (l : List Ent) (k : Nat) : List UInt8 :=
  if k < nch p l then encL (chk p l k) else if k = nch p l then fltB b l else if k = nch p l + 1 then idxB p l
  else footB (outP p l (nch p l)).length ((outP p l (nch p l)).length + (frameL (fltB b l)).length) l.length
def preX (p b : Nat) (l : List Ent) : Nat → List UInt8
  | 0 => []
  | k + 1 => preX p b l k ++ frameL (frK p b l k)
theorem preX_out (p b : Nat) (l : List Ent) : ∀ k, k ≤ nch p l → preX p b l k = outP p l k
  | 0, _ => rfl
  | k + 1, h => by
    rw [preX, preX_out p b l k (by omega), outP, frK, if_pos (by omega)]
    rfl
theorem frK_f (p b : Nat) (l : List Ent) : frK p b l (nch p l) = fltB b l := by unfold frK; rw [if_neg (by omega), if_pos rfl]
theorem frK_i (p b : Nat) (l : List Ent) : frK p b l (nch p l + 1) = idxB p l := by unfold frK; rw [if_neg (by omega), if_neg (by omega), if_pos rfl]
theorem frK_t (p b : Nat) (l : List Ent) : frK p b l (nch p l + 2) = footB (outP p l (nch p l)).length ((outP p l (nch p l)).length + (frameL (fltB b l)).length) l.length := by unfold frK; rw [if_neg (by omega), if_neg (by omega), if_neg (by omega)]
theorem preX_f (p b : Nat) (l : List Ent) : preX p b l (nch p l + 1) = outP p l (nch p l) ++ frameL (fltB b l) := by rw [preX, preX_out p b l _ (Nat.le_refl _), frK_f]
theorem preX_i (p b : Nat) (l : List Ent) : preX p b l (nch p l + 2) = outP p l (nch p l) ++ (frameL (fltB b l) ++ frameL (idxB p l)) := by
  rw [show nch p l + 2 = nch p l + 1 + 1 from rfl, preX, preX_f, frK_i, List.append_assoc]
theorem preX_all (p b : Nat) (l : List Ent) : preX p b l (nch p l + 3) = bldB p b l := by
  rw [show nch p l + 3 = nch p l + 2 + 1 from rfl, preX, preX_i, frK_t, bldB_eq]
  simp only [List.append_assoc]
theorem preX_more (p b : Nat) (l : List Ent) (i : Nat) : ∀ k, i ≤ k → ∃ s, preX p b l k = preX p b l i ++ s
  | 0, h => ⟨[], by rw [show i = 0 by omega]; rfl⟩
  | k + 1, h => by
    rcases Nat.lt_or_ge i (k + 1) with h1 | h1
    · obtain ⟨s, hs⟩ := preX_more p b l i k (by omega)
      exact ⟨s ++ frameL (frK p b l k), by rw [preX, hs, List.append_assoc]⟩
    · exact ⟨[], by rw [show i = k + 1 by omega, List.append_nil]⟩
/-- What stands behind k frames. -/
def posX (p b : Nat) (l : List Ent) (k : Nat) : List UInt8 := (bldB p b l).drop (preX p b l k).length
theorem posX_eq (p b : Nat) (l : List Ent) {k : Nat} (h : k ≤ nch p l + 3) : bldB p b l = preX p b l k ++ posX p b l k := by
  obtain ⟨s, hs⟩ := preX_more p b l k (nch p l + 3) h
  rw [preX_all] at hs
  unfold posX
  rw [hs, List.drop_left]
theorem posX_step (p b : Nat) (l : List Ent) {k : Nat} (h : k < nch p l + 3) : bldB p b l = preX p b l k ++ (frameL (frK p b l k) ++ posX p b l (k + 1)) := by
  have h1 := posX_eq p b l (k := k + 1) h
  rw [preX, List.append_assoc] at h1
  exact h1
theorem posX_at (p b : Nat) (l : List Ent) {k : Nat} {q r : List UInt8} (h : k ≤ nch p l + 3) (e : bldB p b l = preX p b l k ++ r) : posX p b l k = r := by
  unfold posX
  rw [e, List.drop_left]
theorem frK_len {p b : Nat} (hp : 1 ≤ p) (hb : b ≤ 16) {l : List Ent} (hl : l.length ≤ 150) (hok : ∀ x ∈ l, okE x = true) (k : Nat) : (frK p b l k).length ≤ 1048576 := by
  unfold frK
  split
  · have := encL_len (chk p l k)
    omega
  · split
    · have := flt_len hb hl
      omega
    · split
      · have := idxB_len hp hok hl
        omega
      · rw [footB_len]
        omega
theorem frameL_head (r rest : List UInt8) : (frameL r ++ rest)[0]? = some (UInt8.ofNat r.length) ∧ (frameL r ++ rest)[1]? = some (UInt8.ofNat (r.length / 256)) ∧ (frameL r ++ rest)[2]? = some (UInt8.ofNat (r.length / 65536)) := by
  refine ⟨rfl, rfl, rfl⟩
theorem frames_hs {p b : Nat} (hp : 1 ≤ p) (hb : b ≤ 16) {l : List Ent} (hl : l.length ≤ 150) (hok : ∀ x ∈ l, okE x = true) : ∀ k, k < nch p l + 3 → (preX p b l (k + 1)).length = (preX p b l k).length + (frK p b l k).length + 12 ∧ (preX p b l k).length + 12 ≤ (bldB p b l).length ∧ (frK p b l k).length < 16777216 ∧ (bldB p b l)[(preX p b l k).length]? = some (UInt8.ofNat (frK p b l k).length) ∧ (bldB p b l)[(preX p b l k).length + 1]? = some (UInt8.ofNat ((frK p b l k).length / 256)) ∧ (bldB p b l)[(preX p b l k).length + 2]? = some (UInt8.ofNat ((frK p b l k).length / 65536)) := by
  intro k hk
  have h1 := posX_step p b l hk
  have h2 := frK_len (b := b) hp hb hl hok k
  obtain ⟨a0, a1, a2⟩ := frameL_head (frK p b l k) (posX p b l (k + 1))
  refine ⟨by rw [preX, List.length_append, frameL_length]; omega, ?_, by omega, ?_, ?_, ?_⟩
  · rw [h1, List.length_append, List.length_append, frameL_length]
    omega
  · rw [h1, List.getElem?_append_right (Nat.le_refl _), Nat.sub_self]
    exact a0
  · rw [h1, List.getElem?_append_right (by omega), Nat.add_sub_cancel_left]
    exact a1
  · rw [h1, List.getElem?_append_right (by omega), Nat.add_sub_cancel_left]
    exact a2
/-- A scan of all meets the bad block. -/
theorem scan_bad {p : Nat} {l : List Ent} {k : Nat} : ∀ m i, i ≤ k → k < m + i → (scG (fun j => decide (j = k)) p l { data := #[] } { data := #[] } m i).2.1 = 6
  | 0, i, h1, h2 => by omega
  | m + 1, i, h1, h2 => by
    have hk0 : ∀ x, klt x { data := #[] } = false := fun x => by
      have h := inS_all x
      unfold inS at h
      simp only [Bool.and_eq_true, Bool.not_eq_true'] at h
      exact h.1
    rw [scG, if_neg (by rw [hk0]; decide)]
    by_cases hik : i = k
    · rw [if_pos (by simpa using hik)]
    · rw [if_neg (by simpa using hik), if_neg (by rw [zB_list]; rintro ⟨h, -⟩; cases h)]
      exact scan_bad m (i + 1) (by omega) (by omega)
theorem scT_bad {p : Nat} {l : List Ent} {k : Nat} (h : k < nch p l) : (scT (fun j => decide (j = k)) p l { data := #[] } { data := #[] }).1 = [] ∧ (scT (fun j => decide (j = k)) p l { data := #[] } { data := #[] }).2.1 = 6 := by
  have h1 := scan_bad (p := p) (l := l) (k := k) (nch p l) 0 (Nat.zero_le _) (by omega)
  unfold scT scC
  dsimp only
  rw [h1, if_neg (by decide)]
  exact ⟨rfl, rfl⟩
end Go.Proofs.Ytdmpimgbnhgiaaa

namespace Go.Proofs.Ytdmpimgbnhgiaaa
open Go.RowKit Go.St Go.Shelf Go.Maps
set_option linter.unusedVariables false
set_option linter.unusedSimpArgs false
set_option maxRecDepth 100000

theorem odd_blk {p b : Nat} {l : List Ent} {k : Nat} (h : k < nch p l) (Z : List UInt8) : preX p b l k ++ (Z ++ posX p b l (k + 1)) = outZ p l k Z ++ (frameL (fltB b l) ++ (frameL (idxB p l) ++ frameL (footB (outP p l (nch p l)).length ((outP p l (nch p l)).length + (frameL (fltB b l)).length) l.length))) := by
  have e : posX p b l (k + 1) = (outP p l (nch p l)).drop (outP p l (k + 1)).length ++ (frameL (fltB b l) ++ (frameL (idxB p l) ++ frameL (footB (outP p l (nch p l)).length ((outP p l (nch p l)).length + (frameL (fltB b l)).length) l.length))) := by
    refine posX_at (q := []) p b l (by omega) ?_
    obtain ⟨s, hs⟩ := out_more p l (k + 1) (nch p l) h
    rw [preX_out p b l _ (by omega), bldB_eq, ← List.append_assoc (outP p l (k + 1))]
    congr 1
    rw [hs, List.drop_left]
  rw [e, preX_out p b l _ (by omega)]
  unfold outZ
  simp only [List.append_assoc]
theorem odd_f {p b : Nat} {l : List Ent} (Z : List UInt8) : preX p b l (nch p l) ++ (Z ++ posX p b l (nch p l + 1)) = outP p l (nch p l) ++ (Z ++ (frameL (idxB p l) ++ frameL (footB (outP p l (nch p l)).length ((outP p l (nch p l)).length + (frameL (fltB b l)).length) l.length))) := by
  rw [posX_at (q := []) p b l (by omega) (show bldB p b l = preX p b l (nch p l + 1) ++ _ by rw [preX_f, bldB_eq, List.append_assoc]), preX_out p b l _ (Nat.le_refl _)]
theorem odd_i {p b : Nat} {l : List Ent} (Z : List UInt8) : preX p b l (nch p l + 1) ++ (Z ++ posX p b l (nch p l + 1 + 1)) = outP p l (nch p l) ++ (frameL (fltB b l) ++ (Z ++ frameL (footB (outP p l (nch p l)).length ((outP p l (nch p l)).length + (frameL (fltB b l)).length) l.length))) := by
  rw [posX_at (q := []) p b l (by omega) (show bldB p b l = preX p b l (nch p l + 1 + 1) ++ _ by rw [show nch p l + 1 + 1 = nch p l + 2 from rfl, preX_i, bldB_eq]; simp only [List.append_assoc]; rfl), preX_f, List.append_assoc]
theorem odd_t {p b : Nat} {l : List Ent} : posX p b l (nch p l + 2 + 1) = [] := by
  rw [show nch p l + 2 + 1 = nch p l + 3 from rfl]
  unfold posX
  rw [preX_all]
  exact List.drop_eq_nil_of_le (Nat.le_refl _)
theorem odd_len {p b : Nat} {l : List Ent} {k : Nat} (hk : k < nch p l + 3) {Z : List UInt8} (hz : Z.length = (frK p b l k).length + 12) : (preX p b l k ++ (Z ++ posX p b l (k + 1))).length = (bldB p b l).length := by
  rw [posX_step p b l hk]
  simp only [List.length_append, hz, frameL_length]
theorem opP_good {p b : Nat} {l : List Ent} {X : List UInt8} {w : World} {e : Ending} {w' : World} {g g' : Bool} (hg : g = g') (h : OpP g p b l X w e w') : OpP g' p b l X w e w' := by rw [← hg]; exact h
theorem open_odd (A : Option Addr) (n c p b : Nat) (hp : 1 ≤ p ∧ p ≤ 64) (hbt : 1 ≤ b ∧ b ≤ 16) (l : List Ent) (hl1 : 1 ≤ l.length) (hl2 : l.length ≤ 150) (hok : ∀ x ∈ l, okE x = true) (hris : risE l = true)
    (k : Nat) (hk : k < nch p l + 3) (Z X : List UInt8) (hz : Z.length = (frK p b l k).length + 12) (hbad : recB Z = false) (hX : X = preX p b l k ++ (Z ++ posX p b l (k + 1))) (hn : X.length = n) (hnc : n ≤ c) (hc : c ≤ 9223372036854775807) (B : Nat) (w : World) (hr : Rd w B A (bv X)) (hB : B ≤ w.heap.size) :
    Calls Try.prog 17 #[.slice A n c] w (OpP (decide (k < nch p l)) p b l X w) := by
  have h1 : recB (frameL (fltB b l)) = true := (rec_frame (by have := flt_len hbt.2 hl2; omega)).1
  have h2 : recB (frameL (idxB p l)) = true := (rec_frame (by have := idxB_len hp.1 hok hl2; omega)).1
  have hl4 : n ≤ 60200000 := by rw [← hn, hX, odd_len hk hz]; exact bldB_len hp.1 hbt.2 hl2 hok
  by_cases hkN : k < nch p l
  · have hzl : Z.length = (blkF (chk p l k)).length := by
      rw [hz, frK, if_pos hkN, blkF_len]
    have hol := outZ_len (Z := Z) hkN hzl
    refine Calls.mono (open_more A n c p b hp hbt l hl1 hl2 hok hris (outZ p l k Z) (frameL (fltB b l)) (frameL (idxB p l)) X hol (.inr rfl) (.inr rfl) (by rw [hX, odd_blk hkN, hol]) hn hnc hc B w hr hB) (fun e w' h => opP_good ?_ h)
    rw [h1, h2, decide_eq_true hkN]
    rfl
  · rcases (by omega : k = nch p l ∨ k = nch p l + 1 ∨ k = nch p l + 2) with hk2 | hk2 | hk2
    · subst hk2
      rw [frK_f] at hz
      refine Calls.mono (open_more A n c p b hp hbt l hl1 hl2 hok hris (outP p l (nch p l)) Z (frameL (idxB p l)) X rfl (.inl ⟨hbad, by rw [hz, frameL_length]⟩) (.inr rfl) (by rw [hX, odd_f, hz, frameL_length]) hn hnc hc B w hr hB) (fun e w' h => opP_good ?_ h)
      rw [hbad, decide_eq_false hkN]
      rfl
    · subst hk2
      rw [frK_i] at hz
      refine Calls.mono (open_more A n c p b hp hbt l hl1 hl2 hok hris (outP p l (nch p l)) (frameL (fltB b l)) Z X rfl (.inr rfl) (.inl ⟨hbad, by rw [hz, frameL_length]⟩) (by rw [hX, odd_i]) hn hnc hc B w hr hB) (fun e w' h => opP_good ?_ h)
      rw [hbad, decide_eq_false hkN, Bool.and_false]
    · subst hk2
      rw [frK_t, footB_len] at hz
      rw [odd_t, List.append_nil] at hX
      have hne : n = (preX p b l (nch p l + 2)).length + 36 := by rw [← hn, hX, List.length_append, hz]
      refine Calls.mono (open_foot A n c (preX p b l (nch p l + 2)).length X hn hne (by omega) hnc B w hr hB (by rw [hX, List.drop_left]; exact hbad)) (fun e w' h => ?_)
      rw [decide_eq_false hkN]
      exact opP_no h
end Go.Proofs.Ytdmpimgbnhgiaaa
