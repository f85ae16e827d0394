/- Stamps in plain Lean: which may be, their order, the greater one, the next one. -/
namespace Go.St

structure Stp where
  wall : Int
  logic : Int
  tag : Int
deriving DecidableEq

def okS (s : Stp) : Bool := decide (0 ≤ s.wall ∧ s.wall ≤ 1099511627776 ∧ 0 ≤ s.logic ∧ s.logic ≤ 1048576 ∧ 0 ≤ s.tag ∧ s.tag ≤ 1048576)
def chk (s : Stp) : Int := if okS s then 0 else 2
def less (a b : Stp) : Bool := decide (a.wall < b.wall ∨ a.wall = b.wall ∧ (a.logic < b.logic ∨ a.logic = b.logic ∧ a.tag < b.tag))
def cmpS (a b : Stp) : Int := if less a b then -1 else if less b a then 1 else 0
def maxS (a b : Stp) : Stp := if less a b then b else a
def zeroS : Stp := ⟨0, 0, 0⟩
def nextE (s : Stp) (tag : Int) : Int := if okS s = false then 2 else if tag < 0 ∨ 1048576 < tag then 2 else if s.tag < tag then 0 else if s.logic = 1048576 then 8 else 0
def nextS (s : Stp) (tag : Int) : Stp := if nextE s tag = 0 then (if s.tag < tag then ⟨s.wall, s.logic, tag⟩ else ⟨s.wall, s.logic + 1, tag⟩) else zeroS

theorem okS_iff (s : Stp) : okS s = true ↔ 0 ≤ s.wall ∧ s.wall ≤ 1099511627776 ∧ 0 ≤ s.logic ∧ s.logic ≤ 1048576 ∧ 0 ≤ s.tag ∧ s.tag ≤ 1048576 := by simp [okS]
theorem chk_ok {s : Stp} (h : okS s = true) : chk s = 0 := by simp [chk, h]
theorem chk_no {s : Stp} (h : okS s = false) : chk s = 2 := by simp [chk, h]
theorem stp_ext {a b : Stp} (h1 : a.wall = b.wall) (h2 : a.logic = b.logic) (h3 : a.tag = b.tag) : a = b := by
  cases a; cases b; simp_all
theorem less_irrefl (a : Stp) : less a a = false := by simp [less]
theorem less_iff (a b : Stp) : less a b = true ↔ (a.wall < b.wall ∨ a.wall = b.wall ∧ (a.logic < b.logic ∨ a.logic = b.logic ∧ a.tag < b.tag)) := by simp [less]
theorem less_no (a b : Stp) : less a b = false ↔ ¬ (a.wall < b.wall ∨ a.wall = b.wall ∧ (a.logic < b.logic ∨ a.logic = b.logic ∧ a.tag < b.tag)) := by
  rw [← less_iff, Bool.not_eq_true]
theorem less_asymm {a b : Stp} (h : less a b = true) : less b a = false := by
  rw [less_iff] at h; rw [less_no]; omega
theorem less_trans {a b c : Stp} (h : less a b = true) (k : less b c = true) : less a c = true := by
  rw [less_iff] at *; omega
theorem less_tri {a b : Stp} (h : less a b = false) (k : less b a = false) : a = b := by
  rw [less_no] at *; exact stp_ext (by omega) (by omega) (by omega)
theorem cmp_lt {a b : Stp} (h : less a b = true) : cmpS a b = -1 := by simp [cmpS, h]
theorem cmp_gt {a b : Stp} (h : less b a = true) : cmpS a b = 1 := by simp [cmpS, h, less_asymm h]
theorem cmp_eq (a : Stp) : cmpS a a = 0 := by simp [cmpS, less_irrefl]
theorem cmp_neg (a b : Stp) : cmpS a b < 0 ↔ less a b = true := by
  unfold cmpS
  by_cases h : less a b = true
  · simp [h]
  · by_cases k : less b a = true <;> simp [h, k]
theorem cmp_anti (a b : Stp) : cmpS a b = - cmpS b a := by
  unfold cmpS
  by_cases h : less a b = true
  · simp [h, less_asymm h]
  · by_cases k : less b a = true <;> simp [h, k]
theorem cmp_bd (a b : Stp) : -1 ≤ cmpS a b ∧ cmpS a b ≤ 1 := by
  unfold cmpS
  split
  · decide
  · split <;> decide
theorem cmp_zero (a b : Stp) : cmpS a b = 0 ↔ a = b := by
  constructor
  · intro h
    unfold cmpS at h
    by_cases h1 : less a b = true
    · simp [h1] at h
    · by_cases h2 : less b a = true
      · simp [h1, h2] at h
      · exact less_tri (by simpa using h1) (by simpa using h2)
  · rintro rfl
    exact cmp_eq a
theorem max_or (a b : Stp) : maxS a b = a ∨ maxS a b = b := by
  unfold maxS; split <;> simp
theorem next_zero {s : Stp} {tag : Int} (h : nextE s tag ≠ 0) : nextS s tag = zeroS := by simp [nextS, h]
theorem nextE_ok {s : Stp} {tag : Int} (h : nextE s tag = 0) : okS s = true ∧ 0 ≤ tag ∧ tag ≤ 1048576 ∧ (s.tag < tag ∨ s.logic < 1048576) := by
  unfold nextE at h
  by_cases h1 : okS s = true
  · have := (okS_iff s).1 h1
    simp only [h1, Bool.true_eq_false, if_false] at h
    by_cases h2 : tag < 0 ∨ 1048576 < tag
    · simp [h2] at h
    · rw [if_neg h2] at h
      by_cases h3 : s.tag < tag
      · exact ⟨h1, by omega, by omega, .inl h3⟩
      · rw [if_neg h3] at h
        by_cases h4 : s.logic = 1048576
        · simp [h4] at h
        · exact ⟨h1, by omega, by omega, .inr (by omega)⟩
  · simp [h1] at h
theorem next_ok {s : Stp} {tag : Int} (h : nextE s tag = 0) : okS (nextS s tag) = true ∧ less s (nextS s tag) = true ∧ (nextS s tag).tag = tag := by
  obtain ⟨h1, h2, h3, h4⟩ := nextE_ok h
  rw [okS_iff] at h1
  unfold nextS
  rw [if_pos h, okS_iff, less_iff]
  split
  · exact ⟨⟨h1.1, h1.2.1, h1.2.2.1, h1.2.2.2.1, h2, h3⟩, .inr ⟨rfl, .inr ⟨rfl, by assumption⟩⟩, rfl⟩
  · refine ⟨⟨h1.1, h1.2.1, ?_, ?_, h2, h3⟩, .inr ⟨rfl, .inl ?_⟩, rfl⟩ <;> dsimp only <;> omega
theorem next_least {s b : Stp} {tag : Int} (h : nextE s tag = 0) (hb : b.tag = tag) (hl : less s b = true) : less b (nextS s tag) = false := by
  obtain ⟨h1, h2, h3, h4⟩ := nextE_ok h
  rw [less_iff] at hl
  rw [less_no]
  unfold nextS
  rw [if_pos h]
  split
  · simp only; omega
  · simp only; omega
theorem next_apart {s : Stp} {one two : Int} (h : nextE s one = 0) (k : nextE s two = 0) (hn : one ≠ two) : nextS s one ≠ nextS s two := by
  intro e
  exact hn (by rw [← (next_ok h).2.2, ← (next_ok k).2.2, e])

def newE (o : Int) (low : Stp) : Int := if o < 0 ∨ 1099511627776 < o then 2 else chk low
def nowE (l : Stp) (t : Int) : Int := if t < 0 ∨ 1099511627776 < t then 2 else if l.wall < t then 0 else if l.logic = 1048576 then 8 else 0
def nowS (l : Stp) (t : Int) : Stp := if nowE l t = 0 then (if l.wall < t then ⟨t, 0, 0⟩ else ⟨l.wall, l.logic + 1, 0⟩) else zeroS
def nowL (l : Stp) (t : Int) : Stp := if nowE l t = 0 then nowS l t else l
def hearE (o : Int) (s : Stp) (t : Int) : Int := if okS s = false then 2 else if t < 0 ∨ 1099511627776 < t then 2 else if o < s.wall - t then 19 else 0
def hearL (o : Int) (l s : Stp) (t : Int) : Stp := if hearE o s t = 0 then maxS (maxS l ⟨s.wall, s.logic, 0⟩) ⟨t, 0, 0⟩ else l
theorem max_right {a b : Stp} (h : less a b = true) : maxS a b = b := by simp [maxS, h]
theorem max_zero {s : Stp} (h : okS s = true) : maxS zeroS ⟨s.wall, s.logic, 0⟩ = ⟨s.wall, s.logic, 0⟩ := by
  rw [okS_iff] at h
  unfold maxS
  split
  · rfl
  · rename_i hn
    rw [less_iff] at hn
    unfold zeroS at *
    simp only at hn
    refine stp_ext ?_ ?_ rfl <;> simp only <;> omega
theorem ok_untag {s : Stp} (h : okS s = true) : okS ⟨s.wall, s.logic, 0⟩ = true := by
  rw [okS_iff] at *
  simp only
  omega
theorem ok_max {a b : Stp} (h : okS a = true) (k : okS b = true) : okS (maxS a b) = true := by unfold maxS; split <;> assumption
theorem now_cases (l : Stp) (t : Int) : ((t < 0 ∨ 1099511627776 < t) ∧ nowE l t = 2 ∧ nowS l t = zeroS ∧ nowL l t = l) ∨ (0 ≤ t ∧ t ≤ 1099511627776 ∧ l.wall < t ∧ nowE l t = 0 ∧ nowS l t = ⟨t, 0, 0⟩ ∧ nowL l t = ⟨t, 0, 0⟩) ∨
    (0 ≤ t ∧ t ≤ 1099511627776 ∧ t ≤ l.wall ∧ l.logic = 1048576 ∧ nowE l t = 8 ∧ nowS l t = zeroS ∧ nowL l t = l) ∨
    (0 ≤ t ∧ t ≤ 1099511627776 ∧ t ≤ l.wall ∧ l.logic ≠ 1048576 ∧ nowE l t = 0 ∧ nowS l t = ⟨l.wall, l.logic + 1, 0⟩ ∧ nowL l t = ⟨l.wall, l.logic + 1, 0⟩) := by
  by_cases h1 : t < 0 ∨ 1099511627776 < t
  · exact .inl ⟨h1, by simp [nowE, h1], by simp [nowS, nowE, h1], by simp [nowL, nowE, h1]⟩
  · by_cases h2 : l.wall < t
    · exact .inr (.inl ⟨by omega, by omega, h2, by simp [nowE, h1, h2], by simp [nowS, nowE, h1, h2], by simp [nowL, nowS, nowE, h1, h2]⟩)
    · by_cases h3 : l.logic = 1048576
      · exact .inr (.inr (.inl ⟨by omega, by omega, by omega, h3, by simp [nowE, h1, h2, h3], by simp [nowS, nowE, h1, h2, h3], by simp [nowL, nowE, h1, h2, h3]⟩))
      · exact .inr (.inr (.inr ⟨by omega, by omega, by omega, h3, by simp [nowE, h1, h2, h3], by simp [nowS, nowE, h1, h2, h3], by simp [nowL, nowS, nowE, h1, h2, h3]⟩))
end Go.St
