/- Walks: two records looked at, by the document. -/
import Derived.Test.YthigmjcepbgljaaVe2
namespace Go.Proofs.Ythigmjcepbgljaa
open Go.RowKit Go.St
set_option linter.unusedVariables false
set_option linter.unusedSimpArgs false
set_option maxRecDepth 100000
theorem rboth_any (r x : Rec) (hl : fit r) (hx : fit x) (B : Nat) (w : World) (hr : Rd w B r.A (sv r.l)) (hrx : Rd w B x.A (sv x.l)) (hB : B ≤ w.heap.size) :
    Calls Try.prog 74 #[r.v, x.v] w fun e w' => e = .returned (.int .i64 (bothE r x)) ∧ Below w.heap.size w w' := by
  have H1 := Lib.hid (fun W (h : Below w.heap.size w W) => rreccheck_any r hl B W (hr.below (h.mono hB)) (Nat.le_trans hB h.size))
  have H2 := Lib.hid (fun W (h : Below w.heap.size w W) => rreccheck_any x hx B W (hrx.below (h.mono hB)) (Nat.le_trans hB h.size))
  have hE : bothE r x = if chkR r ≠ 0 then chkR r else chkR x := rfl
  rw [hE]
  clear hl hx hr hrx hE
  generalize chkR r = a at *
  generalize chkR x = b at *
  obtain ⟨nd, nu, st, ⟨aw, al, ag⟩, A, n, c, l, beat, ⟨pw, pl, pg⟩⟩ := r
  obtain ⟨nd2, nu2, st2, ⟨aw2, al2, ag2⟩, A2, n2, c2, l2, beat2, ⟨pw2, pl2, pg2⟩⟩ := x
  unfold Rec.v at *
  simp only at H1 H2 ⊢
  by_cases ha : a = 0
  · subst ha
    rw [if_neg (fun h => h rfl)]
    go_enter Try.func74, Try.ntmps74
    go_wp2_with fail
    refine (H1.out _ (by go_grown)).mono ?_
    rintro e w1 ⟨rfl, hb⟩
    obtain ⟨hcw1, hfw1⟩ := bcell hb
    have HBw1 : Hid (Below w.heap.size w w1) := Below.go (by go_grown) hb (by go_size)
    have hzw10 : w.heap.size < w1.heap.size := by have := hb.size; (try simp at this); omega
    have hzw11 : w.heap.size + 1 < w1.heap.size := by have := hb.size; (try simp at this); omega
    have HEw1 := Lib.hid hb
    clear hb
    go_wp2_with fail
    refine (H2.out _ HBw1.out).mono ?_
    rintro e w2 ⟨rfl, hb⟩
    obtain ⟨hcw2, hfw2⟩ := bcell hb
    have HBw2 : Hid (Below w.heap.size w w2) := Below.go (by have hpre := HBw1.out; have hps := hpre.size; go_grown) hb (by have hpre := HBw1.out; have hps := hpre.size; go_size)
    have hzw20 : w.heap.size < w2.heap.size := by have := hb.size; (try simp at this); omega
    have hzw21 : w.heap.size + 1 < w2.heap.size := by have := hb.size; (try simp at this); omega
    have HEw2 := Lib.hid hb
    clear hb
    go_wp2
    go_ret
    exact ⟨rfl, HBw2.out⟩
  · rw [if_pos ha]
    have hne : (a == 0) = false := by simpa using ha
    have hne2 : (a != 0) = true := by rw [bne, hne]; rfl
    clear ha
    go_enter Try.func74, Try.ntmps74
    go_wp2_with fail
    refine (H1.out _ (by go_grown)).mono ?_
    rintro e w1 ⟨rfl, hb⟩
    obtain ⟨hcw1, hfw1⟩ := bcell hb
    have HBw1 : Hid (Below w.heap.size w w1) := Below.go (by go_grown) hb (by go_size)
    have hzw10 : w.heap.size < w1.heap.size := by have := hb.size; (try simp at this); omega
    have hzw11 : w.heap.size + 1 < w1.heap.size := by have := hb.size; (try simp at this); omega
    have HEw1 := Lib.hid hb
    clear hb
    go_wp2
    go_ret
    exact ⟨rfl, HBw1.out⟩

end Go.Proofs.Ythigmjcepbgljaa
