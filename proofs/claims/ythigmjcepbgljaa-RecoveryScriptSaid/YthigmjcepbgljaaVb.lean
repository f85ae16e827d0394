/- Walks: keys copied into new memory; which status refuses; two records looked at; lists of keys compared. -/
import Derived.Test.YthigmjcepbgljaaVa
namespace Go.Proofs.Ythigmjcepbgljaa
open Go.RowKit Go.St
set_option linter.unusedVariables false
set_option linter.unusedSimpArgs false
set_option maxRecDepth 100000

theorem own_rdn {w : World} {base : Nat} {e : TypeId} {v : Value} {n : Nat} {xs : List Value} (h : w.ownsRow base e 1 v n xs) : ∃ A c, v = .slice A n c ∧ RdN w base A xs := by
  obtain ⟨A, c, rfl, hr⟩ := own_rd h
  refine ⟨A, c, rfl, fun hn => ?_⟩
  have hlen := h.1
  have h0 : 0 < n := by
    rcases Nat.eq_zero_or_pos n with h0 | h0
    · subst h0
      exact absurd (List.eq_nil_of_length_eq_zero (by simpa using hlen)) hn
    · exact h0
  obtain ⟨g, c', e0, _, _, hb, hlt⟩ := own_blk h h0
  obtain ⟨b, off, e2, hb2, hc⟩ := hr hn
  injection e0 with e1
  rw [e1] at e2
  injection e2 with e3
  injection e3 with e4 e5
  subst e4 e5
  exact ⟨g, 0, e1, hb, hb2, hc⟩

/-- A list of keys is told that lies in new memory. -/
def OutS (n : Nat) (l : List ByteArray) (w : World) (e : Ending) (w' : World) : Prop := ∃ A c, e = .returned (.slice A n c) ∧ RdN w' w.heap.size A (sv l) ∧ Below w.heap.size w w'
set_option maxHeartbeats 800000 in
theorem cloneN_any (A : Option Addr) (n c B : Nat) (l : List ByteArray) (hl : l.length = n) (hn : n * 16 ≤ 140737488355328) (w : World) (hr : Rd w B A (sv l)) (hB : B ≤ w.heap.size) :
    Calls Try.prog 83 #[.slice A n c] w (OutS n l w) := by
  cases A with
  | none =>
    have h0 : n = 0 := by
      rcases Nat.eq_zero_or_pos n with h | h
      · exact h
      · obtain ⟨_, _, e, _⟩ := hr.at_ (sv_get l 0 (by omega))
        cases e
    subst h0
    obtain rfl : l = [] := List.eq_nil_of_length_eq_zero hl
    have hq := fun W => Lib.run_eql_slice_nil (P := Try.prog) W 28 9 none 0 c 0 0 Try.underlying28
    clear hr hl
    go_enter Try.func83, Try.ntmps83
    go_wp2
    go_ret
    exact ⟨none, 0, rfl, RdN.nil, Below.refl _ _⟩
  | some a =>
    have HR := Lib.hid hr; have HL := Lib.hid hl
    have hq := fun W => Lib.run_eql_slice_nil (P := Try.prog) W 28 9 (some a) n c 0 0 Try.underlying28
    clear hr hl
    go_enter Try.func83, Try.ntmps83
    go_wp2_with (at_builtin; refine wpList_app sty55 (.tmp 5) (.tmp 6) rfl rfl w.heap.size (World.ownsRow_lit w #[] 0 (Nat.le_refl _) (by decide) rfl) rfl n c (HR.out.alloc hB _) rfl (by rw [sv_length, HL.out]; omega) (sv_one _) (by unfold maxLen; omega) (by omega) (by simp) ?_; intro v1 w1 own1 gr1 nil1 at1)
    have hb1 : Hid (Below w.heap.size w w1) := ((Below.refl _ _).alloc (Nat.le_refl _) _).grown gr1 (by simp) (by simp [Value.ownBlock])
    obtain ⟨A', c', rfl, hrn⟩ := own_rdn own1
    have HRN := Lib.hid hrn; clear hrn own1
    go_ret
    exact ⟨A', c', by simp, by simpa using HRN.out, hb1.out⟩

def SomeIdx (l : List Int) (k : Int) (w : World) (e : Ending) (w' : World) : Prop := ∃ z : Int, e = .returned (.int .i64 z) ∧ decide (0 ≤ z) = decide (k ∈ l) ∧ w = w'
set_option maxHeartbeats 400000 in
theorem sindex_any (A : Option Addr) (n c B : Nat) (l : List Int) (hl : l.length = n) (hn : n ≤ 1000000) (k : Int) (w : World) (hr : Rd w B A (iv l)) :
    Calls Try.prog 89 #[.slice A n c, .int .u8 k] w (SomeIdx l k w) := by
  have HL := Lib.hid hl; clear hl
  have HR := Lib.hid hr; clear hr
  go_enter Try.func89, Try.ntmps89
  go_wp2_with fail
  go_loop [8] (fun i => ∃ j : Nat, j ≤ n ∧ k ∉ l.take j ∧ i = .int .i64 j) (fun i => n - (intOf i).toNat)
  case atStart => exact ⟨0, Nat.zero_le _, by simp, rfl⟩
  case round =>
    obtain ⟨j, hj, hk, rfl⟩ := hrel
    by_cases hlt : j < n
    · have hjl : j < l.length := by rw [HL.out]; exact hlt
      obtain ⟨b, off, rfl, hb, hcell⟩ := HR.out.at_ (iv_get l j hjl)
      have hts := take_snoc l j hjl
      have hmm := List.getElem_mem hjl
      have hsnoc : k ≠ l[j] → k ∉ l.take (j + 1) := fun h => by
        rw [hts, List.mem_append]
        rintro (h1 | h1)
        · exact hk h1
        · exact h (by simpa using h1)
      have HS := Lib.hid hsnoc
      have HM := Lib.hid hmm
      clear hts hsnoc hmm hk
      generalize l[j] = s at *
      by_cases he : k = s
      · subst he
        go_wp2
        go_ret
        exact ⟨(j : Int), rfl, by rw [decide_eq_true (show (0 : Int) ≤ j by omega), decide_eq_true HM.out], rfl⟩
      · have e0 : (k == s) = false := by simpa using he
        have HE := Lib.hid he; clear he
        go_wp2
        exact ⟨⟨j + 1, by omega, HS.out HE.out, by go_num⟩, by simp [intOf]; omega⟩
    · obtain rfl : n = j := by omega
      have hk2 : k ∉ l := by rwa [List.take_of_length_le (by rw [HL.out]; omega)] at hk
      have HK := Lib.hid hk2
      clear hk hk2
      go_wp2
      go_ret
      exact ⟨-1, rfl, by rw [decide_eq_false HK.out]; rfl, rfl⟩
theorem scontains_any (A : Option Addr) (n c B : Nat) (l : List Int) (hl : l.length = n) (hn : n ≤ 1000000) (k : Int) (w : World) (hr : Rd w B A (iv l)) :
    Calls Try.prog 85 #[.slice A n c, .int .u8 k] w fun e w' => e = .returned (.bool (decide (k ∈ l))) ∧ w = w' := by
  have H := Lib.hid (sindex_any A n c B l hl hn k w hr); clear hr hl
  go_enter Try.func85, Try.ntmps85
  go_wp2_with fail
  refine H.out.mono ?_
  rintro e w' ⟨z, rfl, hz, rfl⟩
  have HZ := Lib.hid hz; clear hz
  go_wp2
  go_ret
  exact ⟨ret_bool HZ.out, rfl⟩
def refE (st : Int) (l : List Int) : Int := if st ∈ l then (if st = 3 then 320 else if st = 4 then 14 else 321) else 0
theorem refused_any (r : Rec) (A : Option Addr) (n c B : Nat) (l : List Int) (hl : l.length = n) (hn : n ≤ 1000000) (w : World) (hr : Rd w B A (iv l)) (hB : B ≤ w.heap.size) :
    Calls Try.prog 65 #[r.v, .slice A n c] w fun e w' => e = .returned (.int .i64 (refE r.st l)) ∧ Below w.heap.size w w' := by
  by_cases hk : r.st ∈ l
  case neg =>
    have h := refused_no r A n c B l hl hn hk w hr hB
    unfold refE
    rw [if_neg hk]
    exact h
  have H0 := fun W (h : Rd W B A (iv l)) => scontains_any A n c B l hl hn r.st W h
  rw [decide_eq_true hk] at H0
  have hE : refE r.st l = if r.st = 3 then 320 else if r.st = 4 then 14 else 321 := by unfold refE; rw [if_pos hk]
  rw [hE]
  clear hE hk
  obtain ⟨nd, nu, st, ⟨aw, al, ag⟩, A0, n0, c0, l0, beat, ⟨pw, pl, pg⟩⟩ := r
  unfold Rec.v
  simp only at H0 ⊢
  have H := Lib.hid (H0 _ (hr.alloc hB (.cells #[.int .i32 nd, .int .i32 nu, .int .u8 st, .int .i64 aw, .int .i32 al, .int .i32 ag, .slice A0 n0 c0, .int .i64 beat, .int .i64 pw, .int .i32 pl, .int .i32 pg] 30)))
  clear hr hl H0
  by_cases h3 : st = 3
  · subst h3
    go_enter Try.func65, Try.ntmps65
    go_wp2_with fail
    refine H.out.mono ?_
    rintro e w' ⟨rfl, rfl⟩
    go_wp2
    go_ret
    exact ⟨rfl, (Below.refl _ _).alloc (Nat.le_refl _) _⟩
  by_cases h4 : st = 4
  · subst h4
    go_enter Try.func65, Try.ntmps65
    go_wp2_with fail
    refine H.out.mono ?_
    rintro e w' ⟨rfl, rfl⟩
    go_wp2
    go_ret
    exact ⟨rfl, (Below.refl _ _).alloc (Nat.le_refl _) _⟩
  have e3 : (st == 3) = false := by simpa using h3
  have e4 : (st == 4) = false := by simpa using h4
  go_enter Try.func65, Try.ntmps65
  go_wp2_with fail
  refine H.out.mono ?_
  rintro e w' ⟨rfl, rfl⟩
  go_wp2
  go_ret
  exact ⟨rfl, (Below.refl _ _).alloc (Nat.le_refl _) _⟩

theorem both_any (r x : Rec) (hl : fit r) (hx : fit x) (B : Nat) (w : World) (hr : Rd w B r.A (sv r.l)) (hrx : Rd w B x.A (sv x.l)) (hB : B ≤ w.heap.size) :
    Calls Try.prog 68 #[r.v, x.v] w fun e w' => e = .returned (.int .i64 (bothE r x)) ∧ Below w.heap.size w w' := by
  have H1 := Lib.hid (fun W (h : Below w.heap.size w W) => reccheck_any r hl B W (hr.below (h.mono hB)) (Nat.le_trans hB h.size))
  have H2 := Lib.hid (fun W (h : Below w.heap.size w W) => reccheck_any x hx B W (hrx.below (h.mono hB)) (Nat.le_trans hB h.size))
  have hE : bothE r x = if chkR r ≠ 0 then chkR r else chkR x := rfl
  rw [hE]
  clear hl hx hr hrx hE
  generalize chkR r = a at *
  generalize chkR x = b at *
  obtain ⟨nd, nu, st, ⟨aw, al, ag⟩, A, n, c, l, beat, ⟨pw, pl, pg⟩⟩ := r
  obtain ⟨nd2, nu2, st2, ⟨aw2, al2, ag2⟩, A2, n2, c2, l2, beat2, ⟨pw2, pl2, pg2⟩⟩ := x
  unfold Rec.v at *
  simp only at H1 H2 ⊢
  by_cases ha : a = 0
  · subst ha
    rw [if_neg (fun h => h rfl)]
    go_enter Try.func68, Try.ntmps68
    go_wp2_with fail
    refine (H1.out _ (by go_grown)).mono ?_
    rintro e w1 ⟨rfl, hb⟩
    obtain ⟨hcw1, hfw1⟩ := bcell hb
    have HBw1 : Hid (Below w.heap.size w w1) := Below.go (by go_grown) hb (by go_size)
    have hzw10 : w.heap.size < w1.heap.size := by have := hb.size; (try simp at this); omega
    have hzw11 : w.heap.size + 1 < w1.heap.size := by have := hb.size; (try simp at this); omega
    have HEw1 := Lib.hid hb
    clear hb
    go_wp2_with fail
    refine (H2.out _ HBw1.out).mono ?_
    rintro e w2 ⟨rfl, hb⟩
    obtain ⟨hcw2, hfw2⟩ := bcell hb
    have HBw2 : Hid (Below w.heap.size w w2) := Below.go (by have hpre := HBw1.out; have hps := hpre.size; go_grown) hb (by have hpre := HBw1.out; have hps := hpre.size; go_size)
    have hzw20 : w.heap.size < w2.heap.size := by have := hb.size; (try simp at this); omega
    have hzw21 : w.heap.size + 1 < w2.heap.size := by have := hb.size; (try simp at this); omega
    have HEw2 := Lib.hid hb
    clear hb
    go_wp2
    go_ret
    exact ⟨rfl, HBw2.out⟩
  · rw [if_pos ha]
    have hne : (a == 0) = false := by simpa using ha
    have hne2 : (a != 0) = true := by rw [bne, hne]; rfl
    clear ha
    go_enter Try.func68, Try.ntmps68
    go_wp2_with fail
    refine (H1.out _ (by go_grown)).mono ?_
    rintro e w1 ⟨rfl, hb⟩
    obtain ⟨hcw1, hfw1⟩ := bcell hb
    have HBw1 : Hid (Below w.heap.size w w1) := Below.go (by go_grown) hb (by go_size)
    have hzw10 : w.heap.size < w1.heap.size := by have := hb.size; (try simp at this); omega
    have hzw11 : w.heap.size + 1 < w1.heap.size := by have := hb.size; (try simp at this); omega
    have HEw1 := Lib.hid hb
    clear hb
    go_wp2
    go_ret
    exact ⟨rfl, HBw1.out⟩

theorem pushed_any (r : Rec) (a : Stp) (w : World) : Calls Try.prog 70 #[r.v, stv a] w fun e w' => e = .returned (.bool (!less r.pu a)) ∧ Below w.heap.size w w' := by
  have e : decide (0 ≤ cmpS r.pu a) = !less r.pu a := by
    have := cmp_neg r.pu a
    cases h : less r.pu a
    · rw [h] at this; exact decide_eq_true (by have : ¬ cmpS r.pu a < 0 := fun h2 => by simp at this; omega
                                               omega)
    · rw [h] at this; exact decide_eq_false (by have := this.2 rfl; omega)
  rw [← e]
  clear e
  have H := Lib.hid (fun W => hcompare_any r.pu a W)
  obtain ⟨nd, nu, st, ⟨aw, al, ag⟩, A, n, c, l, beat, ⟨pw, pl, pg⟩⟩ := r
  obtain ⟨bw, bl, bg⟩ := a
  unfold Rec.v stv at *
  simp only at H ⊢
  generalize cmpS ⟨pw, pl, pg⟩ ⟨bw, bl, bg⟩ = z at *
  go_enter Try.func70, Try.ntmps70
  go_wp2_with fail
  refine (H.out _).mono ?_
  rintro e w1 ⟨rfl, hb⟩
  obtain ⟨hcw1, hfw1⟩ := bcell hb
  have HBw1 : Hid (Below w.heap.size w w1) := Below.go (by go_grown) hb (by go_size)
  have hzw10 : w.heap.size < w1.heap.size := by have := hb.size; (try simp at this); omega
  have hzw11 : w.heap.size + 1 < w1.heap.size := by have := hb.size; (try simp at this); omega
  have HEw1 := Lib.hid hb
  clear hb
  go_wp2
  go_ret
  exact ⟨rfl, HBw1.out⟩
end Go.Proofs.Ythigmjcepbgljaa
