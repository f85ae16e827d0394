/- Plain law: a write is never laid at or below a read of its key, a version of it, or another's stamp. -/
import Derived.Test.YtgikaglmeeeplaaIh
namespace Go.Proofs.Ytgikaglmeeeplaa
open Go.RowKit Go.St
set_option linter.unusedVariables false
set_option linter.unusedSimpArgs false

theorem wr_err {cs : List Cel} {is : List Itt} {x : Itt} {fl : Stp} (h : (wrT cs is x fl).2.2 ≠ 0) : (wrT cs is x fl).1 = zeroS ∧ (wrT cs is x fl).2.1 = false := by
  revert h
  unfold wrT
  split
  · split
    · split
      · split
        · intro h; exact absurd rfl h
        · intro h; exact absurd rfl h
      · split
        · intro h; exact absurd rfl h
        · intro h; exact ⟨next_zero h, rfl⟩
    · intro _; exact ⟨rfl, rfl⟩
  · intro _; exact ⟨rfl, rfl⟩
/-- Of intents in order the one of a key is the one that stands at it. -/
theorem atK_of {is : List Itt} (hs : risI is) {i : Nat} {y : Itt} (hy : is[i]? = some y) : atK is y.key = some y := by
  refine atK_some (i := i) (fun j a hj ha e => ?_) hy rfl
  have hlt : ∀ (d j : Nat) (a b : Itt), is[j]? = some a → is[j + d + 1]? = some b → klt a.key b.key = true := by
    intro d
    induction d with
    | zero => intro j a b ha hb; exact hs j a b ha hb
    | succ d ih =>
      intro j a b ha hb
      have hl := (List.getElem?_eq_some_iff.1 hb).1
      have hc : is[j + d + 1]? = some is[j + d + 1] := List.getElem?_eq_getElem (by omega)
      exact klt_tr (ih j a _ ha hc) (hs _ _ _ hc hb)
  have := hlt (i - j - 1) j a y ha (by rwa [show j + (i - j - 1) + 1 = i by omega])
  rw [e, klt_irr] at this
  cases this
theorem wr_at {cs : List Cel} {is : List Itt} {x : Itt} {fl : Stp} (h : (wrT cs is x fl).2.2 = 0) (ho : chkdE cs is [fl] = 0 → chkI x = 0 → True) {y : Itt} (hs : risI is) {i : Nat} (hy : is[i]? = some y) (hk : y.key = x.key) (hc : chkdE cs is [fl] = 0) (hx : chkI x = 0) :
    wrT cs is x fl = if y.nd = x.nd ∧ y.nu = x.nu then (y.at_, false, 0) else (zeroS, true, 0) := by
  unfold wrT
  rw [if_pos hc, if_pos hx, ← hk, atK_of hs hy]
theorem wr_zero {cs : List Cel} {is : List Itt} {x : Itt} {fl : Stp} (h : (wrT cs is x fl).2.2 = 0) : chkdE cs is [fl] = 0 ∧ chkI x = 0 := by
  by_cases h1 : chkdE cs is [fl] = 0
  · refine ⟨h1, ?_⟩
    by_cases h2 : chkI x = 0
    · exact h2
    · unfold wrT at h
      rw [if_pos h1, if_neg h2] at h
      exact h
  · unfold wrT at h
    rw [if_neg h1] at h
    exact absurd h h1
theorem wr_none {cs : List Cel} {is : List Itt} {x : Itt} {fl : Stp} (h : (wrT cs is x fl).2.2 = 0) (hn : noK is x.key is.length) : wrT cs is x fl = if less (flF cs x.key fl cs.length) x.at_ then (x.at_, false, 0) else (nextS (flF cs x.key fl cs.length) x.at_.tag, false, nextE (flF cs x.key fl cs.length) x.at_.tag) := by
  obtain ⟨h1, h2⟩ := wr_zero h
  unfold wrT
  rw [if_pos h1, if_pos h2, atK_none hn (Nat.le_refl _)]
theorem max_ge (a b : Stp) : less (maxS a b) a = false ∧ less (maxS a b) b = false := by
  unfold maxS
  cases h : less a b
  · exact ⟨less_irrefl a, h⟩
  · exact ⟨less_asymm h, less_irrefl b⟩
/-- Not below, and below. -/
theorem lt_of_le {a b c : Stp} (h : less b a = false) (k : less b c = true) : less a c = true := by
  cases q : less a b
  · rw [less_tri q h]; exact k
  · exact less_trans q k
theorem le_tr {a b c : Stp} (h : less b a = false) (k : less c b = false) : less c a = false := by
  cases q : less c a
  · rfl
  · rw [lt_of_le k q] at h; cases h
theorem fold_ge : ∀ (l : List Cel) (fl : Stp), less (l.foldl (fun b c => maxS b c.at_) fl) fl = false ∧ ∀ c ∈ l, less (l.foldl (fun b c => maxS b c.at_) fl) c.at_ = false
  | [], fl => ⟨less_irrefl fl, fun c h => by simp at h⟩
  | c :: r, fl => by
    obtain ⟨h1, h2⟩ := fold_ge r (maxS fl c.at_)
    obtain ⟨m1, m2⟩ := max_ge fl c.at_
    refine ⟨le_tr m1 h1, fun d hd => ?_⟩
    rcases List.mem_cons.1 hd with rfl | hd
    · exact le_tr m2 h1
    · exact h2 d hd
theorem fl_ge (cs : List Cel) (k : ByteArray) (fl : Stp) : less (flF cs k fl cs.length) fl = false ∧ ∀ (i : Nat) (c : Cel), cs[i]? = some c → c.key = k → less (flF cs k fl cs.length) c.at_ = false := by
  unfold flF
  rw [List.take_length]
  obtain ⟨h1, h2⟩ := fold_ge (cs.filter (fun c => decide (c.key = k))) fl
  exact ⟨h1, fun i c hc hk => h2 c (List.mem_filter.2 ⟨List.mem_of_getElem? hc, by simpa using hk⟩)⟩
/-- What is told where no intent stands at the key. -/
theorem wr_free {cs : List Cel} {is : List Itt} {x : Itt} {fl : Stp} (h : (wrT cs is x fl).2.2 = 0) (hn : noK is x.key is.length) :
    (wrT cs is x fl).2.1 = false ∧ (wrT cs is x fl).1.tag = x.at_.tag ∧ less (wrT cs is x fl).1 x.at_ = false ∧ less fl (wrT cs is x fl).1 = true ∧ ∀ (i : Nat) (c : Cel), cs[i]? = some c → c.key = x.key → less c.at_ (wrT cs is x fl).1 = true := by
  have e := wr_none h hn
  obtain ⟨f1, f2⟩ := fl_ge cs x.key fl
  rw [e] at h ⊢
  generalize flF cs x.key fl cs.length = f at *
  by_cases q : less f x.at_ = true
  · rw [if_pos q]
    exact ⟨rfl, rfl, less_irrefl _, lt_of_le f1 q, fun i c hc hk => lt_of_le (f2 i c hc hk) q⟩
  · rw [if_neg q] at h ⊢
    obtain ⟨n1, n2, n3⟩ := next_ok h
    have q' : less f x.at_ = false := by simpa using q
    refine ⟨rfl, n3, less_asymm (lt_of_le q' n2), lt_of_le f1 n2, fun i c hc hk => lt_of_le (f2 i c hc hk) n2⟩
theorem wr_met {cs : List Cel} {is : List Itt} {x : Itt} {fl : Stp} (h : (wrT cs is x fl).2.1 = true) : ¬ noK is x.key is.length := fun hn => by
  by_cases e : (wrT cs is x fl).2.2 = 0
  · rw [(wr_free e hn).1] at h
    cases h
  · rw [(wr_err e).2] at h
    cases h
theorem mov_ok {x : Itt} {t : Stp} (h : movE x t = 0) : (movM x t) = ⟨x.key, x.nd, x.nu, x.bg, x.anc, (movM x t).at_, x.val, x.del⟩ ∧ less t (movM x t).at_ = true ∧ less (movM x t).at_ x.at_ = false ∧ (movM x t).at_.tag = x.at_.tag := by
  have h' := h
  unfold movE at h'
  have hx : chkI x = 0 := by
    by_cases q : chkI x = 0
    · exact q
    · rw [if_neg q] at h'; exact absurd h' q
  rw [if_pos hx] at h'
  have ht : chk t = 0 := by
    by_cases q : chk t = 0
    · exact q
    · rw [if_neg q] at h'; exact absurd h' q
  rw [if_pos ht] at h'
  unfold movM
  rw [if_pos h]
  by_cases q : less t x.at_ = true
  · rw [if_pos q]
    exact ⟨rfl, q, less_irrefl _, rfl⟩
  · rw [if_neg q] at h' ⊢
    obtain ⟨n1, n2, n3⟩ := next_ok h'
    have q' : less t x.at_ = false := by simpa using q
    exact ⟨rfl, n2, less_asymm (lt_of_le q' n2), n3⟩
theorem mov_err {x : Itt} {t : Stp} (h : movE x t ≠ 0) : movM x t = ittZ := by unfold movM; rw [if_neg h]
end Go.Proofs.Ytgikaglmeeeplaa
