/- Plain: what a step makes of a record. -/
import Derived.Test.YthigmjcepbgljaaVe2
import Derived.Test.YthigmjcepbgljaaOstep
namespace Go.Proofs.Ythigmjcepbgljaa
open Go.RowKit Go.St
set_option linter.unusedVariables false
set_option linter.unusedSimpArgs false
set_option maxRecDepth 100000

def stepE (r : Rec) (s : StepL) : Int :=
  if s.k % 7 = 0 then stageE r s.a s.n s.l s.wl else if s.k % 7 = 1 then commitE r s.a s.n s.l else if s.k % 7 = 2 then abortE r else if s.k % 7 = 3 then killE r else
  if s.k % 7 = 4 then pushE r s.a else if s.k % 7 = 5 then settleE r s.a else beatE r s.wl
def stepO (r : Rec) (s : StepL) : Rec :=
  if s.k % 7 = 0 then stageO r s.a s.n s.l s.wl else if s.k % 7 = 1 then commitO r s.a s.n s.l else if s.k % 7 = 2 then abortO r else if s.k % 7 = 3 then killO r else
  if s.k % 7 = 4 then pushO r s.a else if s.k % 7 = 5 then settleO r s.a (s.wl.tmod 2 == 0) else beatO r s.wl

theorem chkR_zero {r : Rec} (h : chkR r = 0) : r.n ≤ 24 ∧ okR r = true := by
  unfold chkR at h
  split at h
  · omega
  · split at h
    · exact ⟨by omega, by assumption⟩
    · omega
theorem okR_parts {r : Rec} (h : okR r = true) : ¬ tagBad r.nd r.nu ∧ (0 ≤ r.beat ∧ r.beat ≤ 1099511627776) ∧ okS r.pu = true ∧
    (((r.st = 1 ∨ r.st = 4) ∧ r.at_ = ⟨0, 0, 0⟩ ∧ r.n = 0) ∨ ((r.st = 2 ∨ r.st = 3) ∧ okS r.at_ = true ∧ r.at_.tag = tagV r.nd r.nu ∧ 0 < r.n ∧ riseB r.l = true)) := by
  unfold okR at h
  simp only [Bool.and_eq_true, decide_eq_true_eq] at h
  obtain ⟨⟨⟨h1, h2⟩, h3⟩, h4⟩ := h
  refine ⟨h1, h2, h3, ?_⟩
  split at h4
  · rename_i hs
    have := of_decide_eq_true h4
    exact .inl ⟨hs, stp_ext this.1.1 this.1.2.1 this.1.2.2, this.2⟩
  · split at h4
    · rename_i hs
      simp only [Bool.and_eq_true, decide_eq_true_eq] at h4
      exact .inr ⟨hs, h4.1.1.1, h4.1.1.2, h4.1.2, h4.2⟩
    · cases h4
theorem okR_flat {r : Rec} (h1 : ¬ tagBad r.nd r.nu) (h2 : 0 ≤ r.beat ∧ r.beat ≤ 1099511627776) (h3 : okS r.pu = true) (hs : r.st = 1 ∨ r.st = 4) (ha : r.at_ = ⟨0, 0, 0⟩) (hn : r.n = 0) : chkR r = 0 := by
  refine chkR_ok (by omega) ?_
  unfold okR
  rw [if_pos hs, ha, hn, h3]
  simp [h1, h2]
theorem okR_keys {r : Rec} (h1 : ¬ tagBad r.nd r.nu) (h2 : 0 ≤ r.beat ∧ r.beat ≤ 1099511627776) (h3 : okS r.pu = true) (hs : r.st = 2 ∨ r.st = 3) (ha : okS r.at_ = true) (ht : r.at_.tag = tagV r.nd r.nu) (hn : 0 < r.n) (h24 : r.n ≤ 24) (hr : riseB r.l = true) : chkR r = 0 := by
  refine chkR_ok (by omega) ?_
  unfold okR
  rw [if_neg (by omega), if_pos hs, ha, h3, hr]
  simp [h1, h2, ht, hn]
theorem okS_max {a b : Stp} (ha : okS a = true) (hb : okS b = true) : okS (maxS a b) = true := by
  unfold maxS; split <;> assumption

/-- What is told of a step that was taken. -/
structure StepOk (r : Rec) (s : StepL) (q : Rec) : Prop where
  chk : chkR q = 0
  fit : fit q
  nd : q.nd = r.nd
  nu : q.nu = r.nu
  done : (r.st = 3 ∨ r.st = 4) → q = r.to none 0
  com : r.st ≠ 3 → r.st ≠ 4 → q.st = 3 → less q.pu q.at_ = true
  stg : q.st = 2 → less q.pu q.at_ = true
  left : r.st = 2 → q.st ≠ 2 → s.k % 7 ≠ 3 ∧ s.k % 7 ≠ 4 ∧ s.k % 7 ≠ 6 ∧ (s.k % 7 = 5 → s.a = r.at_)

theorem both_zero {r x : Rec} (h : bothE r x = 0) : chkR r = 0 ∧ chkR x = 0 := by
  unfold bothE at h
  split at h
  · contradiction
  · exact ⟨by omega, h⟩

theorem fact_stage (r : Rec) (s : StepL) (hst : r.st = 2 → less r.pu r.at_ = true) (hn : s.l.length = s.n) (hk : s.k % 7 = 0) :
    (stageE r s.a s.n s.l s.wl ≠ 0 ∧ stageO r s.a s.n s.l s.wl = zeR) ∨ (stageE r s.a s.n s.l s.wl = 0 ∧ StepOk r s (stageO r s.a s.n s.l s.wl)) := by
  rcases stage_cases r s.a s.n s.l s.wl with ⟨h0, he, ho⟩ | ⟨_, _, he, ho⟩ | ⟨_, _, he, ho⟩ | ⟨_, _, _, he, ho⟩ | ⟨_, _, _, _, he, ho⟩ | ⟨hb, h2, ha, hq, he, ho⟩ | ⟨_, _, _, he, ho⟩ | ⟨hb, h1, hl, he, ho⟩
  all_goals rw [he, ho]
  · exact .inl ⟨h0, rfl⟩
  · exact .inl ⟨by decide, rfl⟩
  · exact .inl ⟨by decide, rfl⟩
  · exact .inl ⟨by decide, rfl⟩
  · exact .inl ⟨by decide, rfl⟩
  · exact .inr ⟨rfl, { chk := (both_zero hb).2, fit := hn, nd := rfl, nu := rfl, done := fun h => by omega, com := fun _ _ h => absurd h (by decide : (2 : Int) ≠ 3), stg := fun _ => by (show less r.pu s.a = true); rw [← ha]; exact hst h2, left := fun _ h => absurd rfl h }⟩
  · exact .inl ⟨by decide, rfl⟩
  · exact .inr ⟨rfl, { chk := (both_zero hb).2, fit := hn, nd := rfl, nu := rfl, done := fun h => by omega, com := fun _ _ h => absurd h (by decide : (2 : Int) ≠ 3), stg := fun _ => hl, left := fun _ h => absurd rfl h }⟩
theorem end_is {r : Rec} {a : Stp} {n : Nat} {l : List ByteArray} (hf : fit r) (hs : r.st = 3) (ha : r.at_ = a) (hl : r.l = l) (hn : l.length = n) : endR r 3 a n l = r.to none 0 := by
  unfold fit at hf
  obtain ⟨nd, nu, st, at_, A, m, c, l', beat, pu⟩ := r
  simp only at hf hs ha hl
  subst hs ha hl
  unfold endR Rec.to
  simp only [Rec.mk.injEq]
  simp
  omega
theorem fact_commit (r : Rec) (s : StepL) (hf : fit r) (hst : r.st = 2 → less r.pu r.at_ = true) (hn : s.l.length = s.n) (hk : s.k % 7 = 1) :
    (commitE r s.a s.n s.l ≠ 0 ∧ commitO r s.a s.n s.l = zeR) ∨ (commitE r s.a s.n s.l = 0 ∧ StepOk r s (commitO r s.a s.n s.l)) := by
  rcases commit_cases r s.a s.n s.l with ⟨h0, he, ho⟩ | ⟨_, _, _, he, ho⟩ | ⟨_, _, _, _, he, ho⟩ | ⟨hb, h3, ha, hq, he, ho⟩ | ⟨_, _, he, ho⟩ | ⟨_, _, _, he, ho⟩ | ⟨hb, h1, hl, he, ho⟩ | ⟨_, _, _, he, ho⟩ | ⟨_, _, _, _, he, ho⟩ | ⟨hb, h2, hl, hq, he, ho⟩
  all_goals rw [he, ho]
  · exact .inl ⟨h0, rfl⟩
  · exact .inl ⟨by decide, rfl⟩
  · exact .inl ⟨by decide, rfl⟩
  · exact .inr ⟨rfl, { chk := (both_zero hb).2, fit := hn, nd := rfl, nu := rfl, done := fun _ => end_is hf h3 ha (eqL_iff.1 hq) hn, com := fun h => absurd h3 h, stg := fun h => absurd h (by decide : (3 : Int) ≠ 2), left := fun h => by omega }⟩
  · exact .inl ⟨by decide, rfl⟩
  · exact .inl ⟨by decide, rfl⟩
  · exact .inr ⟨rfl, { chk := (both_zero hb).2, fit := hn, nd := rfl, nu := rfl, done := fun h => by omega, com := fun _ _ _ => hl, stg := fun h => absurd h (by decide : (3 : Int) ≠ 2), left := fun h => by omega }⟩
  · exact .inl ⟨by decide, rfl⟩
  · exact .inl ⟨by decide, rfl⟩
  · refine .inr ⟨rfl, { chk := (both_zero hb).2, fit := hn, nd := rfl, nu := rfl, done := fun h => by omega, com := fun _ _ _ => ?_, stg := fun h => absurd h (by decide : (3 : Int) ≠ 2), left := fun _ _ => by omega }⟩
    have h := hst h2
    show less r.pu s.a = true
    rw [less_iff] at *
    rw [less_no] at hl
    omega
theorem over_is {r : Rec} (hf : fit r) (hs : r.st = 4) (ha : r.at_ = ⟨0, 0, 0⟩) (hn : r.n = 0) : overO r = r.to none 0 := by
  unfold fit at hf
  obtain ⟨nd, nu, st, at_, A, m, c, l', beat, pu⟩ := r
  simp only at hf hs ha hn
  subst hs ha hn
  have : l' = [] := List.eq_nil_of_length_eq_zero hf
  subst this
  rfl
theorem fact_abort (r : Rec) (s : StepL) (hf : fit r) (hc : chkR r = 0) (hk : s.k % 7 = 2) : (abortE r ≠ 0 ∧ abortO r = zeR) ∨ (abortE r = 0 ∧ StepOk r s (abortO r)) := by
  obtain ⟨h24, hok⟩ := chkR_zero hc
  obtain ⟨p1, p2, p3, p4⟩ := okR_parts hok
  have hq : chkR (overO r) = 0 := okR_flat p1 p2 p3 (.inr rfl) rfl rfl
  rcases abort_cases r with ⟨h0, he, ho⟩ | ⟨_, _, he, ho⟩ | ⟨_, h1, he, ho⟩ | ⟨_, h1, he, ho⟩ | ⟨_, h1, he, ho⟩
  all_goals rw [he, ho]
  · exact .inl ⟨h0, rfl⟩
  · exact .inl ⟨by decide, rfl⟩
  · exact .inr ⟨rfl, { chk := hq, fit := rfl, nd := rfl, nu := rfl, done := fun h => by omega, com := fun _ _ h => absurd h (by decide : (4 : Int) ≠ 3), stg := fun h => absurd h (by decide : (4 : Int) ≠ 2), left := fun _ _ => by omega }⟩
  · exact .inr ⟨rfl, { chk := hq, fit := rfl, nd := rfl, nu := rfl, done := fun h => by omega, com := fun _ _ h => absurd h (by decide : (4 : Int) ≠ 3), stg := fun h => absurd h (by decide : (4 : Int) ≠ 2), left := fun _ _ => by omega }⟩
  · refine .inr ⟨rfl, { chk := hq, fit := rfl, nd := rfl, nu := rfl, done := fun h => ?_, com := fun _ _ h => absurd h (by decide : (4 : Int) ≠ 3), stg := fun h => absurd h (by decide : (4 : Int) ≠ 2), left := fun _ _ => by omega }⟩
    rcases p4 with ⟨_, a, b⟩ | ⟨a, _⟩
    · exact over_is hf h1 a b
    · omega
theorem fact_kill (r : Rec) (s : StepL) (hf : fit r) (hc : chkR r = 0) (hk : s.k % 7 = 3) : (killE r ≠ 0 ∧ killO r = zeR) ∨ (killE r = 0 ∧ StepOk r s (killO r)) := by
  obtain ⟨h24, hok⟩ := chkR_zero hc
  obtain ⟨p1, p2, p3, p4⟩ := okR_parts hok
  have hq : chkR (overO r) = 0 := okR_flat p1 p2 p3 (.inr rfl) rfl rfl
  rcases kill_cases r with ⟨h0, he, ho⟩ | ⟨_, _, he, ho⟩ | ⟨_, _, he, ho⟩ | ⟨_, h1, he, ho⟩ | ⟨_, h1, he, ho⟩
  all_goals rw [he, ho]
  · exact .inl ⟨h0, rfl⟩
  · exact .inl ⟨by decide, rfl⟩
  · exact .inl ⟨by decide, rfl⟩
  · exact .inr ⟨rfl, { chk := hq, fit := rfl, nd := rfl, nu := rfl, done := fun h => by omega, com := fun _ _ h => absurd h (by decide : (4 : Int) ≠ 3), stg := fun h => absurd h (by decide : (4 : Int) ≠ 2), left := fun _ _ => by omega }⟩
  · refine .inr ⟨rfl, { chk := hq, fit := rfl, nd := rfl, nu := rfl, done := fun h => ?_, com := fun _ _ h => absurd h (by decide : (4 : Int) ≠ 3), stg := fun h => absurd h (by decide : (4 : Int) ≠ 2), left := fun _ _ => by omega }⟩
    rcases p4 with ⟨_, a, b⟩ | ⟨a, _⟩
    · exact over_is hf h1 a b
    · omega
theorem fact_settle (r : Rec) (s : StepL) (wh : Bool) (hf : fit r) (hc : chkR r = 0) (hst : r.st = 2 → less r.pu r.at_ = true) (hk : s.k % 7 = 5) : (settleE r s.a ≠ 0 ∧ settleO r s.a wh = zeR) ∨ (settleE r s.a = 0 ∧ StepOk r s (settleO r s.a wh)) := by
  obtain ⟨h24, hok⟩ := chkR_zero hc
  obtain ⟨p1, p2, p3, p4⟩ := okR_parts hok
  have hq : chkR (overO r) = 0 := okR_flat p1 p2 p3 (.inr rfl) rfl rfl
  rcases settle_cases r s.a wh with ⟨h0, he, ho⟩ | ⟨_, _, he, ho⟩ | ⟨_, _, he, ho⟩ | ⟨_, _, he, ho⟩ | ⟨_, _, _, he, ho⟩ | ⟨_, h2, ha, _, he, ho⟩ | ⟨_, h2, ha, _, he, ho⟩
  all_goals rw [he, ho]
  · exact .inl ⟨h0, rfl⟩
  · exact .inl ⟨by decide, rfl⟩
  · exact .inl ⟨by decide, rfl⟩
  · exact .inl ⟨by decide, rfl⟩
  · exact .inl ⟨by decide, rfl⟩
  · rcases p4 with ⟨h, _⟩ | ⟨_, q1, q2, q3, q4⟩
    · omega
    · exact .inr ⟨rfl, { chk := okR_keys (r := endR r 3 r.at_ r.n r.l) p1 p2 p3 (.inr rfl) q1 q2 q3 h24 q4, fit := hf, nd := rfl, nu := rfl, done := fun h => by omega, com := fun _ _ _ => hst h2, stg := fun h => absurd h (by decide : (3 : Int) ≠ 2), left := fun _ _ => ⟨by omega, by omega, by omega, fun _ => ha.symm⟩ }⟩
  · exact .inr ⟨rfl, { chk := hq, fit := rfl, nd := rfl, nu := rfl, done := fun h => by omega, com := fun _ _ h => absurd h (by decide : (4 : Int) ≠ 3), stg := fun h => absurd h (by decide : (4 : Int) ≠ 2), left := fun _ _ => ⟨by omega, by omega, by omega, fun _ => ha.symm⟩ }⟩
theorem fact_push (r : Rec) (s : StepL) (hf : fit r) (hc : chkR r = 0) (hk : s.k % 7 = 4) : (pushE r s.a ≠ 0 ∧ pushO r s.a = zeR) ∨ (pushE r s.a = 0 ∧ StepOk r s (pushO r s.a)) := by
  obtain ⟨h24, hok⟩ := chkR_zero hc
  obtain ⟨p1, p2, p3, p4⟩ := okR_parts hok
  rcases push_cases r s.a with ⟨h0, he, ho⟩ | ⟨_, h0, he, ho⟩ | ⟨_, _, _, he, ho⟩ | ⟨_, _, _, he, ho⟩ | ⟨_, _, _, he, ho⟩ | ⟨_, hca, h1, he, ho⟩
  all_goals rw [he, ho]
  · exact .inl ⟨h0, rfl⟩
  · exact .inl ⟨h0, rfl⟩
  · exact .inl ⟨by decide, rfl⟩
  · exact .inl ⟨by decide, rfl⟩
  · exact .inl ⟨by decide, rfl⟩
  · have ha : okS s.a = true := by
      cases h : okS s.a
      · rw [chk_no h] at hca; cases hca
      · rfl
    rcases p4 with ⟨_, a, b⟩ | ⟨a, _⟩
    · exact .inr ⟨rfl, { chk := okR_flat (r := ⟨r.nd, r.nu, r.st, r.at_, none, r.n, 0, r.l, r.beat, maxS r.pu s.a⟩) p1 p2 (okS_max p3 ha) (.inl h1) a b, fit := hf, nd := rfl, nu := rfl, done := fun h => by omega, com := fun _ _ h => absurd (h1.symm.trans h) (by decide : (1 : Int) ≠ 3), stg := fun h => absurd (h1.symm.trans h) (by decide : (1 : Int) ≠ 2), left := fun h => by omega }⟩
    · omega
theorem fact_beat (r : Rec) (s : StepL) (hf : fit r) (hc : chkR r = 0) (hst : r.st = 2 → less r.pu r.at_ = true) (hk : s.k % 7 = 6) : (beatE r s.wl ≠ 0 ∧ beatO r s.wl = zeR) ∨ (beatE r s.wl = 0 ∧ StepOk r s (beatO r s.wl)) := by
  obtain ⟨h24, hok⟩ := chkR_zero hc
  obtain ⟨p1, p2, p3, p4⟩ := okR_parts hok
  rcases beat_cases r s.wl with ⟨h0, he, ho⟩ | ⟨_, _, he, ho⟩ | ⟨_, _, he, ho⟩ | ⟨_, _, _, _, he, ho⟩ | ⟨_, _, _, _, he, ho⟩ | ⟨_, g1, g2, h1, he, ho⟩ | ⟨_, g1, g2, h1, he, ho⟩
  all_goals rw [he, ho]
  · exact .inl ⟨h0, rfl⟩
  · exact .inl ⟨by decide, rfl⟩
  · exact .inl ⟨by decide, rfl⟩
  · exact .inl ⟨by decide, rfl⟩
  · exact .inl ⟨by decide, rfl⟩
  · rcases p4 with ⟨_, a, b⟩ | ⟨a, _⟩
    · exact .inr ⟨rfl, { chk := okR_flat (r := ⟨r.nd, r.nu, r.st, r.at_, none, r.n, 0, r.l, max r.beat s.wl, r.pu⟩) p1 (by simp only; omega) p3 (.inl h1) a b, fit := hf, nd := rfl, nu := rfl, done := fun h => by omega, com := fun _ _ h => absurd (h1.symm.trans h) (by decide : (1 : Int) ≠ 3), stg := fun h => absurd (h1.symm.trans h) (by decide : (1 : Int) ≠ 2), left := fun h => by omega }⟩
    · omega
  · rcases p4 with ⟨h, _⟩ | ⟨_, q1, q2, q3, q4⟩
    · omega
    · exact .inr ⟨rfl, { chk := okR_keys (r := ⟨r.nd, r.nu, r.st, r.at_, none, r.n, 0, r.l, max r.beat s.wl, r.pu⟩) p1 (by simp only; omega) p3 (.inl h1) q1 q2 q3 h24 q4, fit := hf, nd := rfl, nu := rfl, done := fun h => by omega, com := fun _ _ h => absurd (h1.symm.trans h) (by decide : (2 : Int) ≠ 3), stg := fun h => hst h1, left := fun _ h => absurd h1 h }⟩
theorem step_facts (r : Rec) (s : StepL) (hf : fit r) (hc : chkR r = 0) (hst : r.st = 2 → less r.pu r.at_ = true) (hn : s.l.length = s.n) :
    (stepE r s ≠ 0 ∧ stepO r s = zeR) ∨ (stepE r s = 0 ∧ StepOk r s (stepO r s)) := by
  unfold stepE stepO
  by_cases k0 : s.k % 7 = 0
  · rw [if_pos k0, if_pos k0]
    exact fact_stage r s hst hn k0
  rw [if_neg k0, if_neg k0]
  by_cases k1 : s.k % 7 = 1
  · rw [if_pos k1, if_pos k1]
    exact fact_commit r s hf hst hn k1
  rw [if_neg k1, if_neg k1]
  by_cases k2 : s.k % 7 = 2
  · rw [if_pos k2, if_pos k2]
    exact fact_abort r s hf hc k2
  rw [if_neg k2, if_neg k2]
  by_cases k3 : s.k % 7 = 3
  · rw [if_pos k3, if_pos k3]
    exact fact_kill r s hf hc k3
  rw [if_neg k3, if_neg k3]
  by_cases k4 : s.k % 7 = 4
  · rw [if_pos k4, if_pos k4]
    exact fact_push r s hf hc k4
  rw [if_neg k4, if_neg k4]
  by_cases k5 : s.k % 7 = 5
  · rw [if_pos k5, if_pos k5]
    exact fact_settle r s _ hf hc hst k5
  rw [if_neg k5, if_neg k5]
  exact fact_beat r s hf hc hst (by omega)
end Go.Proofs.Ythigmjcepbgljaa
