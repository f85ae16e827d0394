/- The walk: two spans met. -/
import Derived.Test.YtlpdihcgdgkkbaaRj
namespace Go.Proofs.Ytlpdihcgdgkkbaa
open Go.RowKit Go.St
set_option linter.unusedVariables false
set_option linter.unusedSimpArgs false
set_option maxRecDepth 100000

set_option maxHeartbeats 3200000 in
theorem rangesMeet_walk (w : World) (f1 t1 f2 t2 k : ByteArray) (hk : k.size ≤ 140737488351232) : Calls Try.prog 10 #[.agg #[.string f1, .string t1], .agg #[.string f2, .string t2], .string k] w fun e w' => e = .returned (.bool true) ∧ Below w.heap.size w w' := by
  have h1 := fun W => meet_any f1 t1 f2 t2 W
  have h2 := fun W => meet_any f2 t2 f1 t1 W
  have h3 := fun W => has21_any f1 t1 k W
  have h4 := fun W => has21_any f2 t2 k W
  have h5 := fun W => has21_any (kmax f1 f2) (meetT t1 t2) k W
  have h6 := fun W => empty_any (kmax f1 f2) (meetT t1 t2) W
  have h7 := fun W => one21_any k hk W
  have h8 := fun W => has21_any k (k0 k) k W
  have h9 := fun W => has21_any k (k0 k) (k0 k) W
  have h10 := fun W => empty_any k (k0 k) W
  have h11 := fun W => has21_any k (k0 k) (k.extract 0 (k.size - 1)) W
  have h12 := fun h => meet_none (f1 := f1) (t1 := t1) (f2 := f2) (t2 := t2) h k
  have hpre := fun h => one_pre (pre_lt k h)
  rw [one_has] at h8
  rw [one_next] at h9
  rw [one_full] at h10
  rw [has_meet] at h5
  rw [meetV_comm, meetE_comm] at h2
  have e1 : sEmp (kmax f1 f2) (meetT t1 t2) = meetE f1 t1 f2 t2 := rfl
  rw [e1] at h6
  unfold meetV at h1 h2
  change ∀ W, Calls _ _ _ _ fun e w' => e = .returned (.agg #[.string k, .string (k0 k)]) ∧ _ at h7
  generalize kmax f1 f2 = f at *
  generalize meetT t1 t2 = t at *
  generalize meetE f1 t1 f2 t2 = E at *
  generalize sHas f1 t1 k = a at *
  generalize sHas f2 t2 k = b at *
  obtain ⟨p, hp⟩ : ∃ p, p = k.extract 0 (k.size - 1) := ⟨_, rfl⟩
  obtain ⟨q, hq⟩ : ∃ q, q = k0 k := ⟨_, rfl⟩
  have hq' : k ++ ⟨#[0]⟩ = q := by rw [hq]; rfl
  rw [← hq] at h7 h8 h9 h10 h11 hpre
  rw [← hp] at h11 hpre
  generalize hpq : sHas k q p = r at *
  have hz : ∀ W, Calls Try.prog 48 #[.agg #[.string ⟨#[]⟩, .string ⟨#[]⟩]] W fun e w' => e = .returned (.bool false) ∧ Below W.heap.size W w' := fun W => by
    have := empty_any zE zE W
    rw [show sEmp zE zE = false by unfold sEmp; rw [zE_list]; rfl] at this
    exact this
  have H3 := Lib.hid h3; have H4 := Lib.hid h4; have H5 := Lib.hid h5; have H7 := Lib.hid h7
  have H8 := Lib.hid h8; have h9' : ∀ W, Calls Try.prog 49 #[.agg #[.string k, .string q], .string (k ++ ⟨#[0]⟩)] W fun e w' => e = .returned (.bool false) ∧ Below W.heap.size W w' := by rw [hq']; exact h9
  have H9 := Lib.hid h9'; have H10 := Lib.hid h10; have H11 := Lib.hid h11; have HQ := Lib.hid hq'; have HPR := Lib.hid hpre; have HP := Lib.hid hp; have HR := Lib.hid hpq
  clear h3 h4 h5 h7 h8 h9 h9' h10 h11 hq' hpre hp hq e1 hpq
  cases E
  · simp only [Bool.false_eq_true, if_false, Bool.not_false] at h1 h2
    have H1 := Lib.hid h1; have H2 := Lib.hid h2; have H6 := Lib.hid h6
    clear h1 h2 h6 hz h12
    go_enter Try.func10, Try.ntmps10
    go_wp2_with fail
    refine (H1.out _).mono ?_
    rintro e wa ⟨rfl, hb⟩
    obtain ⟨hcwa, hfwa⟩ := bcell hb
    have HBwa : Hid (Below w.heap.size w wa) := Below.go (by go_grown) hb (by go_size)
    have hzwa0 : w.heap.size < wa.heap.size := by have := hb.size; (try simp at this); omega
    have hzwa1 : w.heap.size + 1 < wa.heap.size := by have := hb.size; (try simp at this); omega
    have HEwa := Lib.hid hb
    clear hb
    go_wp2_with fail
    refine (H2.out _).mono ?_
    rintro e wb ⟨rfl, hb⟩
    obtain ⟨hcwb, hfwb⟩ := bcell hb
    have HBwb : Hid (Below w.heap.size w wb) := Below.go (by have hpre := HBwa.out; have hps := hpre.size; go_grown) hb (by have hpre := HBwa.out; have hps := hpre.size; go_size)
    have hzwb0 : w.heap.size < wb.heap.size := by have := hb.size; (try simp at this); omega
    have hzwb1 : w.heap.size + 1 < wb.heap.size := by have := hb.size; (try simp at this); omega
    have hzwbwa : wa.heap.size < wb.heap.size := by have := hb.size; (try simp at this); omega
    have HEwb := Lib.hid hb
    clear hb
    go_wp2_with fail
    refine (lives21_any _).mono ?_
    rintro e wc ⟨rfl, hb⟩
    obtain ⟨hcwc, hfwc⟩ := bcell hb
    have HBwc : Hid (Below w.heap.size w wc) := Below.go (by have hpre := HBwb.out; have hps := hpre.size; go_grown) hb (by have hpre := HBwb.out; have hps := hpre.size; go_size)
    have hzwc0 : w.heap.size < wc.heap.size := by have := hb.size; (try simp at this); omega
    have hzwc1 : w.heap.size + 1 < wc.heap.size := by have := hb.size; (try simp at this); omega
    have hzwcwa : wa.heap.size < wc.heap.size := by have := hb.size; (try simp at this); omega
    have hzwcwb : wb.heap.size < wc.heap.size := by have := hb.size; (try simp at this); omega
    have HEwc := Lib.hid hb
    clear hb
    go_wp2_with fail
    refine (H6.out _).mono ?_
    rintro e wd ⟨rfl, hb⟩
    obtain ⟨hcwd, hfwd⟩ := bcell hb
    have HBwd : Hid (Below w.heap.size w wd) := Below.go (by have hpre := HBwc.out; have hps := hpre.size; go_grown) hb (by have hpre := HBwc.out; have hps := hpre.size; go_size)
    have hzwd0 : w.heap.size < wd.heap.size := by have := hb.size; (try simp at this); omega
    have hzwd1 : w.heap.size + 1 < wd.heap.size := by have := hb.size; (try simp at this); omega
    have hzwdwa : wa.heap.size < wd.heap.size := by have := hb.size; (try simp at this); omega
    have hzwdwb : wb.heap.size < wd.heap.size := by have := hb.size; (try simp at this); omega
    have HEwd := Lib.hid hb
    clear hb
    go_wp2_with fail
    refine (H3.out _).mono ?_
    rintro e we ⟨rfl, hb⟩
    obtain ⟨hcwe, hfwe⟩ := bcell hb
    have HBwe : Hid (Below w.heap.size w we) := Below.go (by have hpre := HBwd.out; have hps := hpre.size; go_grown) hb (by have hpre := HBwd.out; have hps := hpre.size; go_size)
    have hzwe0 : w.heap.size < we.heap.size := by have := hb.size; (try simp at this); omega
    have hzwe1 : w.heap.size + 1 < we.heap.size := by have := hb.size; (try simp at this); omega
    have hzwewa : wa.heap.size < we.heap.size := by have := hb.size; (try simp at this); omega
    have HEwe := Lib.hid hb
    clear hb
    cases a
    · skip
      go_wp2_with fail
      refine (H5.out _).mono ?_
      rintro e wg ⟨rfl, hb⟩
      obtain ⟨hcwg, hfwg⟩ := bcell hb
      have HBwg : Hid (Below w.heap.size w wg) := Below.go (by have hpre := HBwe.out; have hps := hpre.size; go_grown) hb (by have hpre := HBwe.out; have hps := hpre.size; go_size)
      have hzwg0 : w.heap.size < wg.heap.size := by have := hb.size; (try simp at this); omega
      have hzwg1 : w.heap.size + 1 < wg.heap.size := by have := hb.size; (try simp at this); omega
      have HEwg := Lib.hid hb
      clear hb
      go_wp2_with fail
      refine (H7.out _).mono ?_
      rintro e wh ⟨rfl, hb⟩
      obtain ⟨hcwh, hfwh⟩ := bcell hb
      have HBwh : Hid (Below w.heap.size w wh) := Below.go (by have hpre := HBwg.out; have hps := hpre.size; go_grown) hb (by have hpre := HBwg.out; have hps := hpre.size; go_size)
      have hzwh0 : w.heap.size < wh.heap.size := by have := hb.size; (try simp at this); omega
      have hzwh1 : w.heap.size + 1 < wh.heap.size := by have := hb.size; (try simp at this); omega
      have HEwh := Lib.hid hb
      clear hb
      clear hcwa hfwa hcwb hfwb hcwc hfwc hcwd hfwd hcwe hfwe hcwg hfwg
      rcases Nat.eq_zero_or_pos k.size with hk0 | hk0
      · go_wp2_with fail
        refine wp_qall (by kernel_rfl) (by kernel_rfl) ?_
        intro hcg
        repeat (first | go_big_quiet_step (first | with_reducible exact Calls.reg (H8.out _) | with_reducible exact Calls.reg (H9.out _) | with_reducible exact Calls.reg (H10.out _)) | quiet_step (first | with_reducible exact Calls.reg (H8.out _) | with_reducible exact Calls.reg (H9.out _) | with_reducible exact Calls.reg (H10.out _)))
        refine wpQuiet_nil ?_
        intro wq hbwq hcwq hfwq
        clear hcg
        have HBq : Hid (Below w.heap.size w wq) := Below.go (by have h := HBwh.out; have hs := h.size; go_grown) hbwq (by have h := HBwh.out.size; go_size)
        clear hbwq hcwq hfwq
        go_wp2
        go_ret
        exact ⟨rfl, HBq.out⟩
      · have hr := HPR.out hk0
        have h11 := H11.out
        have h11' := H11.out
        rw [HP.out] at h11 h11'
        rw [show k.size - 1 = ((k.size : Int) - 1).toNat by omega] at h11'
        have H11a := Lib.hid h11
        have H11b := Lib.hid h11'
        clear h11 h11'
        have hd1 : ((k.size : Int) == 0) = false := by rw [beq_eq_false_iff_ne]; omega
        have hd2 : decide ((k.size : Int) = 0) = false := decide_eq_false (by omega)
        go_wp2_with fail
        refine wp_qall (by kernel_rfl) (by kernel_rfl) ?_
        intro hcg
        repeat (first | go_big_quiet_step (first | with_reducible exact Calls.reg (H8.out _) | with_reducible exact Calls.reg (H9.out _) | with_reducible exact Calls.reg (H10.out _) | with_reducible exact Calls.reg (H11a.out _) | with_reducible exact Calls.reg (H11b.out _)) | quiet_step (first | with_reducible exact Calls.reg (H8.out _) | with_reducible exact Calls.reg (H9.out _) | with_reducible exact Calls.reg (H10.out _) | with_reducible exact Calls.reg (H11a.out _) | with_reducible exact Calls.reg (H11b.out _)))
        refine wpQuiet_nil ?_
        intro wq hbwq hcwq hfwq
        clear hcg
        have HBq : Hid (Below w.heap.size w wq) := Below.go (by have h := HBwh.out; have hs := h.size; go_grown) hbwq (by have h := HBwh.out.size; go_size)
        clear hbwq hcwq hfwq
        go_wp2
        go_ret
        exact ⟨rfl, HBq.out⟩
    · skip
      go_wp2_with fail
      refine (H4.out _).mono ?_
      rintro e wf ⟨rfl, hb⟩
      obtain ⟨hcwf, hfwf⟩ := bcell hb
      have HBwf : Hid (Below w.heap.size w wf) := Below.go (by have hpre := HBwe.out; have hps := hpre.size; go_grown) hb (by have hpre := HBwe.out; have hps := hpre.size; go_size)
      have hzwf0 : w.heap.size < wf.heap.size := by have := hb.size; (try simp at this); omega
      have hzwf1 : w.heap.size + 1 < wf.heap.size := by have := hb.size; (try simp at this); omega
      have hzwfwa : wa.heap.size < wf.heap.size := by have := hb.size; (try simp at this); omega
      have HEwf := Lib.hid hb
      clear hb
      cases b
      · skip
        go_wp2_with fail
        refine (H5.out _).mono ?_
        rintro e wg ⟨rfl, hb⟩
        obtain ⟨hcwg, hfwg⟩ := bcell hb
        have HBwg : Hid (Below w.heap.size w wg) := Below.go (by have hpre := HBwf.out; have hps := hpre.size; go_grown) hb (by have hpre := HBwf.out; have hps := hpre.size; go_size)
        have hzwg0 : w.heap.size < wg.heap.size := by have := hb.size; (try simp at this); omega
        have hzwg1 : w.heap.size + 1 < wg.heap.size := by have := hb.size; (try simp at this); omega
        have HEwg := Lib.hid hb
        clear hb
        go_wp2_with fail
        refine (H7.out _).mono ?_
        rintro e wh ⟨rfl, hb⟩
        obtain ⟨hcwh, hfwh⟩ := bcell hb
        have HBwh : Hid (Below w.heap.size w wh) := Below.go (by have hpre := HBwg.out; have hps := hpre.size; go_grown) hb (by have hpre := HBwg.out; have hps := hpre.size; go_size)
        have hzwh0 : w.heap.size < wh.heap.size := by have := hb.size; (try simp at this); omega
        have hzwh1 : w.heap.size + 1 < wh.heap.size := by have := hb.size; (try simp at this); omega
        have HEwh := Lib.hid hb
        clear hb
        clear hcwa hfwa hcwb hfwb hcwc hfwc hcwd hfwd hcwe hfwe hcwf hfwf hcwg hfwg
        rcases Nat.eq_zero_or_pos k.size with hk0 | hk0
        · go_wp2_with fail
          refine wp_qall (by kernel_rfl) (by kernel_rfl) ?_
          intro hcg
          repeat (first | go_big_quiet_step (first | with_reducible exact Calls.reg (H8.out _) | with_reducible exact Calls.reg (H9.out _) | with_reducible exact Calls.reg (H10.out _)) | quiet_step (first | with_reducible exact Calls.reg (H8.out _) | with_reducible exact Calls.reg (H9.out _) | with_reducible exact Calls.reg (H10.out _)))
          refine wpQuiet_nil ?_
          intro wq hbwq hcwq hfwq
          clear hcg
          have HBq : Hid (Below w.heap.size w wq) := Below.go (by have h := HBwh.out; have hs := h.size; go_grown) hbwq (by have h := HBwh.out.size; go_size)
          clear hbwq hcwq hfwq
          go_wp2
          go_ret
          exact ⟨rfl, HBq.out⟩
        · have hr := HPR.out hk0
          have h11 := H11.out
          have h11' := H11.out
          rw [HP.out] at h11 h11'
          rw [show k.size - 1 = ((k.size : Int) - 1).toNat by omega] at h11'
          have H11a := Lib.hid h11
          have H11b := Lib.hid h11'
          clear h11 h11'
          have hd1 : ((k.size : Int) == 0) = false := by rw [beq_eq_false_iff_ne]; omega
          have hd2 : decide ((k.size : Int) = 0) = false := decide_eq_false (by omega)
          go_wp2_with fail
          refine wp_qall (by kernel_rfl) (by kernel_rfl) ?_
          intro hcg
          repeat (first | go_big_quiet_step (first | with_reducible exact Calls.reg (H8.out _) | with_reducible exact Calls.reg (H9.out _) | with_reducible exact Calls.reg (H10.out _) | with_reducible exact Calls.reg (H11a.out _) | with_reducible exact Calls.reg (H11b.out _)) | quiet_step (first | with_reducible exact Calls.reg (H8.out _) | with_reducible exact Calls.reg (H9.out _) | with_reducible exact Calls.reg (H10.out _) | with_reducible exact Calls.reg (H11a.out _) | with_reducible exact Calls.reg (H11b.out _)))
          refine wpQuiet_nil ?_
          intro wq hbwq hcwq hfwq
          clear hcg
          have HBq : Hid (Below w.heap.size w wq) := Below.go (by have h := HBwh.out; have hs := h.size; go_grown) hbwq (by have h := HBwh.out.size; go_size)
          clear hbwq hcwq hfwq
          go_wp2
          go_ret
          exact ⟨rfl, HBq.out⟩
      · skip
        go_wp2_with fail
        refine (H5.out _).mono ?_
        rintro e wg ⟨rfl, hb⟩
        obtain ⟨hcwg, hfwg⟩ := bcell hb
        have HBwg : Hid (Below w.heap.size w wg) := Below.go (by have hpre := HBwf.out; have hps := hpre.size; go_grown) hb (by have hpre := HBwf.out; have hps := hpre.size; go_size)
        have hzwg0 : w.heap.size < wg.heap.size := by have := hb.size; (try simp at this); omega
        have hzwg1 : w.heap.size + 1 < wg.heap.size := by have := hb.size; (try simp at this); omega
        have HEwg := Lib.hid hb
        clear hb
        go_wp2_with fail
        refine (H7.out _).mono ?_
        rintro e wh ⟨rfl, hb⟩
        obtain ⟨hcwh, hfwh⟩ := bcell hb
        have HBwh : Hid (Below w.heap.size w wh) := Below.go (by have hpre := HBwg.out; have hps := hpre.size; go_grown) hb (by have hpre := HBwg.out; have hps := hpre.size; go_size)
        have hzwh0 : w.heap.size < wh.heap.size := by have := hb.size; (try simp at this); omega
        have hzwh1 : w.heap.size + 1 < wh.heap.size := by have := hb.size; (try simp at this); omega
        have HEwh := Lib.hid hb
        clear hb
        clear hcwa hfwa hcwb hfwb hcwc hfwc hcwd hfwd hcwe hfwe hcwf hfwf hcwg hfwg
        rcases Nat.eq_zero_or_pos k.size with hk0 | hk0
        · go_wp2_with fail
          refine wp_qall (by kernel_rfl) (by kernel_rfl) ?_
          intro hcg
          repeat (first | go_big_quiet_step (first | with_reducible exact Calls.reg (H8.out _) | with_reducible exact Calls.reg (H9.out _) | with_reducible exact Calls.reg (H10.out _)) | quiet_step (first | with_reducible exact Calls.reg (H8.out _) | with_reducible exact Calls.reg (H9.out _) | with_reducible exact Calls.reg (H10.out _)))
          refine wpQuiet_nil ?_
          intro wq hbwq hcwq hfwq
          clear hcg
          have HBq : Hid (Below w.heap.size w wq) := Below.go (by have h := HBwh.out; have hs := h.size; go_grown) hbwq (by have h := HBwh.out.size; go_size)
          clear hbwq hcwq hfwq
          go_wp2
          go_ret
          exact ⟨rfl, HBq.out⟩
        · have hr := HPR.out hk0
          have h11 := H11.out
          have h11' := H11.out
          rw [HP.out] at h11 h11'
          rw [show k.size - 1 = ((k.size : Int) - 1).toNat by omega] at h11'
          have H11a := Lib.hid h11
          have H11b := Lib.hid h11'
          clear h11 h11'
          have hd1 : ((k.size : Int) == 0) = false := by rw [beq_eq_false_iff_ne]; omega
          have hd2 : decide ((k.size : Int) = 0) = false := decide_eq_false (by omega)
          go_wp2_with fail
          refine wp_qall (by kernel_rfl) (by kernel_rfl) ?_
          intro hcg
          repeat (first | go_big_quiet_step (first | with_reducible exact Calls.reg (H8.out _) | with_reducible exact Calls.reg (H9.out _) | with_reducible exact Calls.reg (H10.out _) | with_reducible exact Calls.reg (H11a.out _) | with_reducible exact Calls.reg (H11b.out _)) | quiet_step (first | with_reducible exact Calls.reg (H8.out _) | with_reducible exact Calls.reg (H9.out _) | with_reducible exact Calls.reg (H10.out _) | with_reducible exact Calls.reg (H11a.out _) | with_reducible exact Calls.reg (H11b.out _)))
          refine wpQuiet_nil ?_
          intro wq hbwq hcwq hfwq
          clear hcg
          have HBq : Hid (Below w.heap.size w wq) := Below.go (by have h := HBwh.out; have hs := h.size; go_grown) hbwq (by have h := HBwh.out.size; go_size)
          clear hbwq hcwq hfwq
          go_wp2
          go_ret
          exact ⟨rfl, HBq.out⟩
  · simp only [if_true, Bool.not_true] at h1 h2
    have H1 := Lib.hid h1; have H2 := Lib.hid h2; have H6 := Lib.hid hz; have H12 := Lib.hid (h12 rfl)
    clear h1 h2 h6 hz h12
    go_enter Try.func10, Try.ntmps10
    go_wp2_with fail
    refine (H1.out _).mono ?_
    rintro e wa ⟨rfl, hb⟩
    obtain ⟨hcwa, hfwa⟩ := bcell hb
    have HBwa : Hid (Below w.heap.size w wa) := Below.go (by go_grown) hb (by go_size)
    have hzwa0 : w.heap.size < wa.heap.size := by have := hb.size; (try simp at this); omega
    have hzwa1 : w.heap.size + 1 < wa.heap.size := by have := hb.size; (try simp at this); omega
    have HEwa := Lib.hid hb
    clear hb
    go_wp2_with fail
    refine (H2.out _).mono ?_
    rintro e wb ⟨rfl, hb⟩
    obtain ⟨hcwb, hfwb⟩ := bcell hb
    have HBwb : Hid (Below w.heap.size w wb) := Below.go (by have hpre := HBwa.out; have hps := hpre.size; go_grown) hb (by have hpre := HBwa.out; have hps := hpre.size; go_size)
    have hzwb0 : w.heap.size < wb.heap.size := by have := hb.size; (try simp at this); omega
    have hzwb1 : w.heap.size + 1 < wb.heap.size := by have := hb.size; (try simp at this); omega
    have hzwbwa : wa.heap.size < wb.heap.size := by have := hb.size; (try simp at this); omega
    have HEwb := Lib.hid hb
    clear hb
    go_wp2_with fail
    refine (lives21_any _).mono ?_
    rintro e wc ⟨rfl, hb⟩
    obtain ⟨hcwc, hfwc⟩ := bcell hb
    have HBwc : Hid (Below w.heap.size w wc) := Below.go (by have hpre := HBwb.out; have hps := hpre.size; go_grown) hb (by have hpre := HBwb.out; have hps := hpre.size; go_size)
    have hzwc0 : w.heap.size < wc.heap.size := by have := hb.size; (try simp at this); omega
    have hzwc1 : w.heap.size + 1 < wc.heap.size := by have := hb.size; (try simp at this); omega
    have hzwcwa : wa.heap.size < wc.heap.size := by have := hb.size; (try simp at this); omega
    have hzwcwb : wb.heap.size < wc.heap.size := by have := hb.size; (try simp at this); omega
    have HEwc := Lib.hid hb
    clear hb
    go_wp2_with fail
    refine (H6.out _).mono ?_
    rintro e wd ⟨rfl, hb⟩
    obtain ⟨hcwd, hfwd⟩ := bcell hb
    have HBwd : Hid (Below w.heap.size w wd) := Below.go (by have hpre := HBwc.out; have hps := hpre.size; go_grown) hb (by have hpre := HBwc.out; have hps := hpre.size; go_size)
    have hzwd0 : w.heap.size < wd.heap.size := by have := hb.size; (try simp at this); omega
    have hzwd1 : w.heap.size + 1 < wd.heap.size := by have := hb.size; (try simp at this); omega
    have hzwdwa : wa.heap.size < wd.heap.size := by have := hb.size; (try simp at this); omega
    have hzwdwb : wb.heap.size < wd.heap.size := by have := hb.size; (try simp at this); omega
    have HEwd := Lib.hid hb
    clear hb
    go_wp2_with fail
    refine (H3.out _).mono ?_
    rintro e we ⟨rfl, hb⟩
    obtain ⟨hcwe, hfwe⟩ := bcell hb
    have HBwe : Hid (Below w.heap.size w we) := Below.go (by have hpre := HBwd.out; have hps := hpre.size; go_grown) hb (by have hpre := HBwd.out; have hps := hpre.size; go_size)
    have hzwe0 : w.heap.size < we.heap.size := by have := hb.size; (try simp at this); omega
    have hzwe1 : w.heap.size + 1 < we.heap.size := by have := hb.size; (try simp at this); omega
    have hzwewa : wa.heap.size < we.heap.size := by have := hb.size; (try simp at this); omega
    have HEwe := Lib.hid hb
    clear hb
    cases a
    · skip
      go_wp2_with fail
      refine (H7.out _).mono ?_
      rintro e wh ⟨rfl, hb⟩
      obtain ⟨hcwh, hfwh⟩ := bcell hb
      have HBwh : Hid (Below w.heap.size w wh) := Below.go (by have hpre := HBwe.out; have hps := hpre.size; go_grown) hb (by have hpre := HBwe.out; have hps := hpre.size; go_size)
      have hzwh0 : w.heap.size < wh.heap.size := by have := hb.size; (try simp at this); omega
      have hzwh1 : w.heap.size + 1 < wh.heap.size := by have := hb.size; (try simp at this); omega
      have HEwh := Lib.hid hb
      clear hb
      clear hcwa hfwa hcwb hfwb hcwc hfwc hcwd hfwd hcwe hfwe
      rcases Nat.eq_zero_or_pos k.size with hk0 | hk0
      · go_wp2_with fail
        refine wp_qall (by kernel_rfl) (by kernel_rfl) ?_
        intro hcg
        repeat (first | go_big_quiet_step (first | with_reducible exact Calls.reg (H8.out _) | with_reducible exact Calls.reg (H9.out _) | with_reducible exact Calls.reg (H10.out _)) | quiet_step (first | with_reducible exact Calls.reg (H8.out _) | with_reducible exact Calls.reg (H9.out _) | with_reducible exact Calls.reg (H10.out _)))
        refine wpQuiet_nil ?_
        intro wq hbwq hcwq hfwq
        clear hcg
        have HBq : Hid (Below w.heap.size w wq) := Below.go (by have h := HBwh.out; have hs := h.size; go_grown) hbwq (by have h := HBwh.out.size; go_size)
        clear hbwq hcwq hfwq
        go_wp2
        go_ret
        exact ⟨rfl, HBq.out⟩
      · have hr := HPR.out hk0
        have h11 := H11.out
        have h11' := H11.out
        rw [HP.out] at h11 h11'
        rw [show k.size - 1 = ((k.size : Int) - 1).toNat by omega] at h11'
        have H11a := Lib.hid h11
        have H11b := Lib.hid h11'
        clear h11 h11'
        have hd1 : ((k.size : Int) == 0) = false := by rw [beq_eq_false_iff_ne]; omega
        have hd2 : decide ((k.size : Int) = 0) = false := decide_eq_false (by omega)
        go_wp2_with fail
        refine wp_qall (by kernel_rfl) (by kernel_rfl) ?_
        intro hcg
        repeat (first | go_big_quiet_step (first | with_reducible exact Calls.reg (H8.out _) | with_reducible exact Calls.reg (H9.out _) | with_reducible exact Calls.reg (H10.out _) | with_reducible exact Calls.reg (H11a.out _) | with_reducible exact Calls.reg (H11b.out _)) | quiet_step (first | with_reducible exact Calls.reg (H8.out _) | with_reducible exact Calls.reg (H9.out _) | with_reducible exact Calls.reg (H10.out _) | with_reducible exact Calls.reg (H11a.out _) | with_reducible exact Calls.reg (H11b.out _)))
        refine wpQuiet_nil ?_
        intro wq hbwq hcwq hfwq
        clear hcg
        have HBq : Hid (Below w.heap.size w wq) := Below.go (by have h := HBwh.out; have hs := h.size; go_grown) hbwq (by have h := HBwh.out.size; go_size)
        clear hbwq hcwq hfwq
        go_wp2
        go_ret
        exact ⟨rfl, HBq.out⟩
    · skip
      go_wp2_with fail
      refine (H4.out _).mono ?_
      rintro e wf ⟨rfl, hb⟩
      obtain ⟨hcwf, hfwf⟩ := bcell hb
      have HBwf : Hid (Below w.heap.size w wf) := Below.go (by have hpre := HBwe.out; have hps := hpre.size; go_grown) hb (by have hpre := HBwe.out; have hps := hpre.size; go_size)
      have hzwf0 : w.heap.size < wf.heap.size := by have := hb.size; (try simp at this); omega
      have hzwf1 : w.heap.size + 1 < wf.heap.size := by have := hb.size; (try simp at this); omega
      have hzwfwa : wa.heap.size < wf.heap.size := by have := hb.size; (try simp at this); omega
      have HEwf := Lib.hid hb
      clear hb
      have hb0 := H12.out
      simp only [Bool.true_and] at hb0
      subst hb0
      go_wp2_with fail
      refine (H7.out _).mono ?_
      rintro e wh ⟨rfl, hb⟩
      obtain ⟨hcwh, hfwh⟩ := bcell hb
      have HBwh : Hid (Below w.heap.size w wh) := Below.go (by have hpre := HBwf.out; have hps := hpre.size; go_grown) hb (by have hpre := HBwf.out; have hps := hpre.size; go_size)
      have hzwh0 : w.heap.size < wh.heap.size := by have := hb.size; (try simp at this); omega
      have hzwh1 : w.heap.size + 1 < wh.heap.size := by have := hb.size; (try simp at this); omega
      have HEwh := Lib.hid hb
      clear hb
      clear hcwa hfwa hcwb hfwb hcwc hfwc hcwd hfwd hcwe hfwe hcwf hfwf
      rcases Nat.eq_zero_or_pos k.size with hk0 | hk0
      · go_wp2_with fail
        refine wp_qall (by kernel_rfl) (by kernel_rfl) ?_
        intro hcg
        repeat (first | go_big_quiet_step (first | with_reducible exact Calls.reg (H8.out _) | with_reducible exact Calls.reg (H9.out _) | with_reducible exact Calls.reg (H10.out _)) | quiet_step (first | with_reducible exact Calls.reg (H8.out _) | with_reducible exact Calls.reg (H9.out _) | with_reducible exact Calls.reg (H10.out _)))
        refine wpQuiet_nil ?_
        intro wq hbwq hcwq hfwq
        clear hcg
        have HBq : Hid (Below w.heap.size w wq) := Below.go (by have h := HBwh.out; have hs := h.size; go_grown) hbwq (by have h := HBwh.out.size; go_size)
        clear hbwq hcwq hfwq
        go_wp2
        go_ret
        exact ⟨rfl, HBq.out⟩
      · have hr := HPR.out hk0
        have h11 := H11.out
        have h11' := H11.out
        rw [HP.out] at h11 h11'
        rw [show k.size - 1 = ((k.size : Int) - 1).toNat by omega] at h11'
        have H11a := Lib.hid h11
        have H11b := Lib.hid h11'
        clear h11 h11'
        have hd1 : ((k.size : Int) == 0) = false := by rw [beq_eq_false_iff_ne]; omega
        have hd2 : decide ((k.size : Int) = 0) = false := decide_eq_false (by omega)
        go_wp2_with fail
        refine wp_qall (by kernel_rfl) (by kernel_rfl) ?_
        intro hcg
        repeat (first | go_big_quiet_step (first | with_reducible exact Calls.reg (H8.out _) | with_reducible exact Calls.reg (H9.out _) | with_reducible exact Calls.reg (H10.out _) | with_reducible exact Calls.reg (H11a.out _) | with_reducible exact Calls.reg (H11b.out _)) | quiet_step (first | with_reducible exact Calls.reg (H8.out _) | with_reducible exact Calls.reg (H9.out _) | with_reducible exact Calls.reg (H10.out _) | with_reducible exact Calls.reg (H11a.out _) | with_reducible exact Calls.reg (H11b.out _)))
        refine wpQuiet_nil ?_
        intro wq hbwq hcwq hfwq
        clear hcg
        have HBq : Hid (Below w.heap.size w wq) := Below.go (by have h := HBwh.out; have hs := h.size; go_grown) hbwq (by have h := HBwh.out.size; go_size)
        clear hbwq hcwq hfwq
        go_wp2
        go_ret
        exact ⟨rfl, HBq.out⟩
end Go.Proofs.Ytlpdihcgdgkkbaa
