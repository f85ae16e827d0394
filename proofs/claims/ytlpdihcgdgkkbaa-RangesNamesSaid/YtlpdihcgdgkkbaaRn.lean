/- The walk of the chapter's examples on ranges. -/
import Derived.Test.YtlpdihcgdgkkbaaRj
namespace Go.Proofs.Ytlpdihcgdgkkbaa
open Go.RowKit Go.St
set_option linter.unusedVariables false
set_option linter.unusedSimpArgs false
set_option maxRecDepth 100000

def cA : ByteArray := ⟨#[97]⟩
def cC : ByteArray := ⟨#[99]⟩
def cD : ByteArray := ⟨#[100]⟩
def cK : ByteArray := ⟨#[107]⟩
def cZ : ByteArray := ⟨#[122]⟩
theorem nm_of0 : ofR [cG, cP] cA = 0 := by decide +kernel
theorem nm_of1 : ofR [cG, cP] cG = 1 := by decide +kernel
theorem nm_of3 : ofR [cG, cP] cZ = 2 := by decide +kernel
theorem nm_sp1 : spV [cG, cP] 1 = .agg #[.string cG, .string cP] := by
  unfold spV; rw [show spF [cG, cP] 1 = cG by decide +kernel, show spT [cG, cP] 1 = cP by decide +kernel]
theorem nm_sp2 : spV [cG, cP] 2 = .agg #[.string cP, .string zE] := by
  unfold spV; rw [show spF [cG, cP] 2 = cP by decide +kernel, show spT [cG, cP] 2 = zE by decide +kernel]
theorem nm_sp3 : spV [cG, cP] 3 = .agg #[.string zE, .string zE] := by
  unfold spV; rw [show spF [cG, cP] 3 = zE by decide +kernel, show spT [cG, cP] 3 = zE by decide +kernel]
theorem nm_e1 : spE [cG, cP] 1 = 0 := by decide +kernel
theorem nm_e2 : spE [cG, cP] 2 = 0 := by decide +kernel
theorem nm_e3 : spE [cG, cP] 3 = 2 := by decide +kernel
theorem nm_m1 : meetV cA cK cC zE = .agg #[.string cC, .string cK] := by
  unfold meetV; rw [show meetE cA cK cC zE = false by decide +kernel, show kmax cA cC = cC by decide +kernel, show meetT cK zE = cK by decide +kernel]; rfl
theorem nm_m1e : meetE cA cK cC zE = false := by decide +kernel
theorem nm_m2 : meetE cA cC cC cD = true := by decide +kernel
theorem nm_m2v : meetV cA cC cC cD = .agg #[.string zE, .string zE] := by
  unfold meetV; rw [nm_m2]; rfl
theorem nm_c1 : chk21 [cP, cG] = 10 := by decide +kernel
theorem nm_c2 : chk21 [zE] = 2 := by decide +kernel
theorem nm_c3 : chk21 (List.replicate 16 zE) = 3 := by decide +kernel

set_option maxHeartbeats 3200000 in
theorem rangesNames_walk (w : World) : Calls Try.prog 9 #[] w fun e w' => e = .returned (.bool true) ∧ Below w.heap.size w w' := by
  have hof := fun k W (h : Rd W (w.heap.size + 1) (some ⟨w.heap.size, 0, none⟩) (sv [cG, cP])) => of21_any (some ⟨w.heap.size, 0, none⟩) 2 2 (w.heap.size + 1) [cG, cP] rfl (by omega) k W h
  have hsp := fun (z : Int) (h1 : -9223372036854775808 ≤ z) (h2 : z ≤ 9223372036854775807) W (h : Rd W (w.heap.size + 1) (some ⟨w.heap.size, 0, none⟩) (sv [cG, cP])) hB => span21_any (some ⟨w.heap.size, 0, none⟩) 2 2 (w.heap.size + 1) [cG, cP] rfl (by omega) z h1 h2 W h hB
  have hs1 := hsp 1 (by omega) (by omega)
  have hs2 := hsp 2 (by omega) (by omega)
  have hs3 := hsp 3 (by omega) (by omega)
  rw [nm_sp1, nm_e1] at hs1
  rw [nm_sp2, nm_e2] at hs2
  rw [nm_sp3, nm_e3] at hs3
  have hm1 := fun W => meet_any cA cK cC zE W
  have hm2 := fun W => meet_any cA cC cC cD W
  rw [nm_m1, nm_m1e] at hm1
  rw [nm_m2v, nm_m2] at hm2
  rw [lv_chk] at hof
  have HOF := Lib.hid hof; have HS1 := Lib.hid hs1; have HS2 := Lib.hid hs2; have HS3 := Lib.hid hs3; have HM1 := Lib.hid hm1; have HM2 := Lib.hid hm2
  clear hof hsp hs1 hs2 hs3 hm1 hm2
  go_enter Try.func9, Try.ntmps9
  go_wp2_with fail
  obtain ⟨w3, hw3⟩ : ∃ w3, w3 = ((w.alloc (.cells #[.string cG, .string cP] 9)).alloc (.cells #[.string cA, .string cG, .string cO, .string cZ] 9)).alloc (.cells #[.int .i64 0, .int .i64 1, .int .i64 1, .int .i64 2] 3) := ⟨_, rfl⟩
  have R3 : Hid (Rd w3 (w.heap.size + 1) (some ⟨w.heap.size, 0, none⟩) (sv [cG, cP])) := by
    rw [hw3]; exact ((rd_new w #[.string cG, .string cP] 9).alloc (by simp) _).alloc (by simp) _
  have HB3 : Hid (Below w.heap.size w w3) := by rw [hw3]; unfold Hid; go_grown
  have hs3 : w3.heap.size = w.heap.size + 1 + 1 + 1 := by rw [hw3]; simp [go_sem]
  have k0 : w3.cell? ⟨w.heap.size + 1, 0, none⟩ = some (.string cA) := by rw [hw3]; simp [go_sem]
  have k1 : w3.cell? ⟨w.heap.size + 1, 1, none⟩ = some (.string cG) := by rw [hw3]; simp [go_sem]
  have k2 : w3.cell? ⟨w.heap.size + 1, 2, none⟩ = some (.string cO) := by rw [hw3]; simp [go_sem]
  have k3 : w3.cell? ⟨w.heap.size + 1, 3, none⟩ = some (.string cZ) := by rw [hw3]; simp [go_sem]
  have i0 : w3.cell? ⟨w.heap.size + 1 + 1, 0, none⟩ = some (.int .i64 0) := by rw [hw3]; simp [go_sem]
  have i1 : w3.cell? ⟨w.heap.size + 1 + 1, 1, none⟩ = some (.int .i64 1) := by rw [hw3]; simp [go_sem]
  have i2 : w3.cell? ⟨w.heap.size + 1 + 1, 2, none⟩ = some (.int .i64 1) := by rw [hw3]; simp [go_sem]
  have i3 : w3.cell? ⟨w.heap.size + 1 + 1, 3, none⟩ = some (.int .i64 2) := by rw [hw3]; simp [go_sem]
  change Code.wp _ _ _ _ (((w.alloc (.cells #[.string cG, .string cP] 9)).alloc (.cells #[.string cA, .string cG, .string cO, .string cZ] 9)).alloc (.cells #[.int .i64 0, .int .i64 1, .int .i64 1, .int .i64 2] 3))
  rw [← hw3]
  clear hw3
  go_loopw [5] (fun s wr => ∃ j m : Nat, j ≤ 4 ∧ s = .int .i64 j ∧ wr = w3.drewN m) (fun s _ => 4 - (intOf s).toNat)
  case atStart => exact ⟨0, 0, by omega, rfl, rfl⟩
  case round =>
    obtain ⟨j, m, hj, rfl, rfl⟩ := hrel
    rcases (by omega : j = 0 ∨ j = 1 ∨ j = 2 ∨ j = 3 ∨ j = 4) with rfl | rfl | rfl | rfl | rfl
    · go_wp2_with fail
      refine (HOF.out _ _ (Rd.drew R3.out _)).mono ?_
      rintro e w' ⟨rfl, m', rfl⟩
      rw [nm_of0]
      go_wp2
      exact ⟨⟨1, m + m', by omega, rfl, by simp⟩, by simp [intOf]⟩
    · go_wp2_with fail
      refine (HOF.out _ _ (Rd.drew R3.out _)).mono ?_
      rintro e w' ⟨rfl, m', rfl⟩
      rw [nm_of1]
      go_wp2
      exact ⟨⟨2, m + m', by omega, rfl, by simp⟩, by simp [intOf]⟩
    · go_wp2_with fail
      refine (HOF.out _ _ (Rd.drew R3.out _)).mono ?_
      rintro e w' ⟨rfl, m', rfl⟩
      rw [lv_of]
      go_wp2
      exact ⟨⟨3, m + m', by omega, rfl, by simp⟩, by simp [intOf]⟩
    · go_wp2_with fail
      refine (HOF.out _ _ (Rd.drew R3.out _)).mono ?_
      rintro e w' ⟨rfl, m', rfl⟩
      rw [nm_of3]
      go_wp2
      exact ⟨⟨4, m + m', by omega, rfl, by simp⟩, by simp [intOf]⟩
    · clear HOF k0 k1 k2 k3 i0 i1 i2 i3
      have R4 : Hid (Rd (w3.drewN m) (w.heap.size + 1) (some ⟨w.heap.size, 0, none⟩) (sv [cG, cP])) := Rd.drew R3.out m
      have HB4 : Hid (Below w.heap.size w (w3.drewN m)) := bel_dn HB3.out m
      have hs4 : (w3.drewN m).heap.size = w.heap.size + 1 + 1 + 1 := hs3
      clear R3 HB3 hs3
      generalize w3.drewN m = w4 at *
      go_wp2_with fail
      refine (HS1.out _ R4.out (by omega)).mono ?_
      rintro e wa ⟨rfl, hb⟩
      obtain ⟨hca, hfa⟩ := bcell hb
      have hsa := hb.size
      have HBa : Hid (Below w.heap.size w wa) := HB4.out.trans (hb.mono (by omega))
      have Ra : Hid (Rd wa (w.heap.size + 1) (some ⟨w.heap.size, 0, none⟩) (sv [cG, cP])) := R4.out.below (hb.mono (by omega))
      clear hb R4 HB4 HS1
      go_wp2_with fail
      refine (HS2.out _ (Ra.out.alloc (by omega) _) (by simp; omega)).mono ?_
      rintro e wb ⟨rfl, hb⟩
      obtain ⟨hcb, hfb⟩ := bcell hb
      have hsb : wa.heap.size + 1 ≤ wb.heap.size := by simpa using hb.size
      have HBb : Hid (Below w.heap.size w wb) := Below.go (HBa.out.alloc HBa.out.size _) hb (by have := HBa.out.size; simp; omega)
      have Rb : Hid (Rd wb (w.heap.size + 1) (some ⟨w.heap.size, 0, none⟩) (sv [cG, cP])) := (Ra.out.alloc (by omega) _).below (hb.mono (by simp; omega))
      clear hb Ra HBa HS2
      go_wp2_with fail
      refine (HS3.out _ (Rb.out.alloc (by omega) _) (by simp; omega)).mono ?_
      rintro e wc ⟨rfl, hb⟩
      obtain ⟨hcc, hfc⟩ := bcell hb
      have hsc : wb.heap.size + 1 ≤ wc.heap.size := by simpa using hb.size
      have HBc : Hid (Below w.heap.size w wc) := Below.go (HBb.out.alloc HBb.out.size _) hb (by have := HBb.out.size; simp; omega)
      clear hb Rb HBb HS3
      have z1 : wa.heap.size < wb.heap.size := by omega
      have z2 : wa.heap.size < wc.heap.size := by omega
      have z3 : wb.heap.size < wc.heap.size := by omega
      go_wp2_with fail
      refine (HM1.out _).mono ?_
      rintro e wd ⟨rfl, hb⟩
      obtain ⟨hcwd, hfwd⟩ := bcell hb
      have HBwd : Hid (Below w.heap.size w wd) := Below.go (by have hpre := HBc.out; have hps := hpre.size; go_grown) hb (by have hpre := HBc.out; have hps := hpre.size; go_size)
      have hzwd0 : w.heap.size < wd.heap.size := by have := hb.size; (try simp at this); omega
      have hzwd1 : w.heap.size + 1 < wd.heap.size := by have := hb.size; (try simp at this); omega
      have hzwdwa : wa.heap.size < wd.heap.size := by have := hb.size; (try simp at this); omega
      have hzwdwb : wb.heap.size < wd.heap.size := by have := hb.size; (try simp at this); omega
      have hzwdwc : wc.heap.size < wd.heap.size := by have := hb.size; (try simp at this); omega
      have HEwd := Lib.hid hb
      clear hb
      go_wp2_with fail
      refine (HM2.out _).mono ?_
      rintro e we ⟨rfl, hb⟩
      obtain ⟨hcwe, hfwe⟩ := bcell hb
      have HBwe : Hid (Below w.heap.size w we) := Below.go (by have hpre := HBwd.out; have hps := hpre.size; go_grown) hb (by have hpre := HBwd.out; have hps := hpre.size; go_size)
      have hzwe0 : w.heap.size < we.heap.size := by have := hb.size; (try simp at this); omega
      have hzwe1 : w.heap.size + 1 < we.heap.size := by have := hb.size; (try simp at this); omega
      have hzwewa : wa.heap.size < we.heap.size := by have := hb.size; (try simp at this); omega
      have hzwewb : wb.heap.size < we.heap.size := by have := hb.size; (try simp at this); omega
      have hzwewc : wc.heap.size < we.heap.size := by have := hb.size; (try simp at this); omega
      have hzwewd : wd.heap.size < we.heap.size := by have := hb.size; (try simp at this); omega
      have HEwe := Lib.hid hb
      clear hb
      simp only [cG, cP, cC, cK, zE] at hcb hcc hcwd hcwe ⊢
      go_wp2_with fail
      refine (lives21_any _).mono ?_
      rintro e wf ⟨rfl, hb⟩
      obtain ⟨hcwf, hfwf⟩ := bcell hb
      have HBwf : Hid (Below w.heap.size w wf) := Below.go (by have hpre := HBwe.out; have hps := hpre.size; go_grown) hb (by have hpre := HBwe.out; have hps := hpre.size; go_size)
      have HEwf := Lib.hid hb
      clear hb
      clear hca hfa hcb hfb hcc hfc hcwd hfwd hcwe hfwe hcwf hfwf
      have x1 := check21_any (some ⟨wf.heap.size, 0, none⟩) 2 2 (wf.heap.size + 1) [cP, cG] rfl (by omega) _ (rd_new wf #[.string cP, .string cG] 9)
      rw [nm_c1] at x1
      have X1 := Lib.hid x1; clear x1
      go_wp2_with fail
      refine X1.out.mono ?_
      rintro e w' ⟨rfl, m1, rfl⟩
      clear X1
      have HBg : Hid (Below w.heap.size w ((wf.alloc (.cells #[.string cP, .string cG] 9)).drewN m1)) := bel_dn (HBwf.out.alloc HBwf.out.size _) m1
      generalize (wf.alloc (.cells #[.string cP, .string cG] 9)).drewN m1 = wg at *
      have x1 := check21_any (some ⟨wg.heap.size, 0, none⟩) 1 1 (wg.heap.size + 1) [zE] rfl (by omega) _ (rd_new wg #[.string zE] 9)
      rw [nm_c2] at x1
      have X1 := Lib.hid x1; clear x1
      go_wp2_with fail
      refine X1.out.mono ?_
      rintro e w' ⟨rfl, m2, rfl⟩
      clear X1
      have HBh : Hid (Below w.heap.size w ((wg.alloc (.cells #[.string zE] 9)).drewN m2)) := bel_dn (HBg.out.alloc HBg.out.size _) m2
      generalize (wg.alloc (.cells #[.string zE] 9)).drewN m2 = wh at *
      obtain ⟨wi, hmk, own, gr⟩ := run_mk sty26 wh wh.heap.size 16 (by omega) (by unfold maxLen; omega) (Nat.le_refl _)
      have hmk : (Instr.makeSlice 26 (.int .i64 16) (.int .i64 16)).run Try.prog wh = .ok (.slice (some ⟨wh.heap.size, 0, none⟩) 16 16) wi := hmk
      have hrd : Rd wi wi.heap.size (some ⟨wh.heap.size, 0, none⟩) (sv (List.replicate 16 zE)) := Rd.own (by rw [show sv (List.replicate 16 zE) = (madeCells (Value.cells (.string ⟨#[]⟩)) (16 * 1)).toList from by show _ = (madeCells #[.string ⟨#[]⟩] 16).toList; rw [toList_madeCells_one]; simp [sv, zE]]; exact own)
      have HBi : Hid (Below w.heap.size w wi) := HBh.out.grown gr HBh.out.size (fun g hg => by cases hg)
      have x1 := check21_any (some ⟨wh.heap.size, 0, none⟩) 16 16 _ (List.replicate 16 zE) rfl (by omega) wi hrd
      rw [nm_c3] at x1
      have X1 := Lib.hid x1
      clear x1 own gr hrd
      go_wp2_with fail
      refine X1.out.mono ?_
      rintro e w' ⟨rfl, m3, rfl⟩
      clear X1 hmk
      have HBj : Hid (Below w.heap.size w (wi.drewN m3)) := bel_dn HBi.out m3
      generalize wi.drewN m3 = wj at *
      have x1 := one21_any cA (by decide) wj
      rw [show cA ++ ⟨#[0]⟩ = ⟨#[97, 0]⟩ by decide +kernel] at x1
      have X1 := Lib.hid x1
      clear x1
      go_wp2_with fail
      refine X1.out.mono ?_
      rintro e wk ⟨rfl, hb⟩
      have HBk : Hid (Below w.heap.size w wk) := HBj.out.trans (hb.mono HBj.out.size)
      clear hb X1
      simp only [cA]
      go_wp2
      go_ret
      exact ⟨rfl, HBk.out⟩
theorem rangesNames_law (w : World) : Calls Try.prog 9 #[] w fun e w' => e = .returned (.bool true) ∧ Below w.heap.size w w' := rangesNames_walk w
end Go.Proofs.Ytlpdihcgdgkkbaa
