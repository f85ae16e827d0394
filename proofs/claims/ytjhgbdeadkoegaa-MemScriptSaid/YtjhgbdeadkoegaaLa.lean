/- Towers: a list of nodes with lanes, as cells; the search along the lanes; a node put in, lane by lane. -/
import Derived.Test.YtjhgbdeadkoegaaEm
import Derived.Test.YtjhgbdeadkoegaaBox
namespace Go.Proofs.Ytjhgbdeadkoegaa
open Go.RowKit Go.St
set_option linter.unusedVariables false
set_option linter.unusedSimpArgs false

/-- A node: its block, its entry, its tower, how many lanes it is in. -/
structure Nd where
  g : Nat
  e : Ent
  t : Nat
  u : Nat
def ptr (g : Nat) : Value := .pointer (some ⟨g, 0, none⟩)
/-- The first one of a lane. -/
def nxv (h : Nat) : List Nd → Value
  | [] => .pointer none
  | n :: r => if h < n.u then ptr n.g else nxv h r
def lnk (u h : Nat) (r : List Nd) : Value := if h < u then nxv h r else .pointer none
def lnc (u : Nat) (r : List Nd) : List Value := (List.range 12).map (fun h => lnk u h r)
def ndc (n : Nd) (r : List Nd) : List Value := n.e.c ++ [.int .i64 (n.t : Int)] ++ lnc n.u r
def tbc (A : Option Addr) (k c : Nat) (N : List Nd) (ln sz : Int) (mk : Bool) : List Value := Ent.z.c ++ [.int .i64 0] ++ lnc 12 N ++ [.slice A k c, .int .i64 ln, .int .i64 sz, .bool mk]
theorem lnc_len (u : Nat) (r : List Nd) : (lnc u r).length = 12 := by simp [lnc]
theorem lnc_get (u : Nat) (r : List Nd) {h : Nat} (hh : h < 12) : (lnc u r)[h]? = some (lnk u h r) := by simp [lnc, hh]
theorem ndc_len (n : Nd) (r : List Nd) : (ndc n r).length = 17 := by simp [ndc, lnc_len, Ent.c]
theorem ndc_get (n : Nd) (r : List Nd) {h : Nat} (hh : h < 12) : (ndc n r)[5 + h]? = some (lnk n.u h r) := by
  unfold ndc
  rw [List.getElem?_append_right (by simp [Ent.c])]
  rw [show 5 + h - (n.e.c ++ [Value.int .i64 (n.t : Int)]).length = h by simp [Ent.c]]
  exact lnc_get _ _ hh
theorem tbc_get (A : Option Addr) (k c : Nat) (N : List Nd) (ln sz : Int) (mk : Bool) {h : Nat} (hh : h < 12) : (tbc A k c N ln sz mk)[5 + h]? = some (nxv h N) := by
  unfold tbc
  rw [List.getElem?_append_left (by simp [Ent.c, lnc_len]; omega), List.getElem?_append_right (by simp [Ent.c])]
  rw [show 5 + h - (Ent.z.c ++ [Value.int .i64 0]).length = h by simp [Ent.c]]
  rw [lnc_get _ _ hh]
  unfold lnk
  rw [if_pos hh]

/-- One lane gone along: where it ends, what is behind, how many were looked at. -/
def wlk (e : Ent) (h : Nat) : Nat → List Nd → List Nd → Nat × List Nd × Nat
  | a, R0, [] => (a, R0, 0)
  | a, R0, n :: r => if h < n.u then (if ltE n.e e = true then ((wlk e h n.g r r).1, (wlk e h n.g r r).2.1, (wlk e h n.g r r).2.2 + 1) else (a, R0, 1)) else wlk e h a R0 r
/-- All lanes, from above: the last one ahead of each; how many were looked at. -/
def fnd (e : Ent) : Nat → Nat → List Nd → List Nat × Nat
  | 0, _, _ => ([], 0)
  | h + 1, a, R => ((fnd e h (wlk e h a R R).1 (wlk e h a R R).2.1).1 ++ [(wlk e h a R R).1], (wlk e h a R R).2.2 + (fnd e h (wlk e h a R R).1 (wlk e h a R R).2.1).2)
theorem fnd_len (e : Ent) : ∀ (h a : Nat) (R : List Nd), (fnd e h a R).1.length = h
  | 0, _, _ => rfl
  | h + 1, a, R => by rw [fnd, List.length_append, fnd_len e h]; rfl
theorem nx_cases (h : Nat) : ∀ (R : List Nd), (nxv h R = .pointer none ∧ ∀ e a R0, wlk e h a R0 R = (a, R0, 0)) ∨
    ∃ i n, R[i]? = some n ∧ h < n.u ∧ nxv h R = ptr n.g ∧ ∀ e a R0, wlk e h a R0 R = if ltE n.e e = true then ((wlk e h n.g (R.drop (i + 1)) (R.drop (i + 1))).1, (wlk e h n.g (R.drop (i + 1)) (R.drop (i + 1))).2.1, (wlk e h n.g (R.drop (i + 1)) (R.drop (i + 1))).2.2 + 1) else (a, R0, 1)
  | [] => .inl ⟨rfl, fun _ _ _ => rfl⟩
  | m :: r => by
    by_cases hm : h < m.u
    · refine .inr ⟨0, m, rfl, hm, by rw [nxv, if_pos hm], fun e a R0 => ?_⟩
      rw [wlk, if_pos hm]
      rfl
    · rcases nx_cases h r with ⟨h1, h2⟩ | ⟨i, n, h1, h2, h3, h4⟩
      · exact .inl ⟨by rw [nxv, if_neg hm, h1], fun e a R0 => by rw [wlk, if_neg hm, h2]⟩
      · exact .inr ⟨i + 1, n, h1, h2, by rw [nxv, if_neg hm, h3], fun e a R0 => by rw [wlk, if_neg hm, h4]; rfl⟩
theorem wlk_suf (e : Ent) (h : Nat) : ∀ (R : List Nd) (a : Nat) (R0 : List Nd), (∃ j, R = R0.drop j) → ∃ j, (wlk e h a R0 R).2.1 = R0.drop j
  | [], _, _, _ => ⟨0, rfl⟩
  | n :: r, a, R0, ⟨j, hj⟩ => by
    have hr : r = R0.drop (j + 1) := by rw [← List.drop_drop, ← hj]; rfl
    rw [wlk]
    split
    · split
      · obtain ⟨k, hk⟩ := wlk_suf e h r n.g r ⟨0, rfl⟩
        exact ⟨j + 1 + k, by rw [hk, hr, List.drop_drop]⟩
      · exact ⟨0, rfl⟩
    · exact wlk_suf e h r a R0 ⟨j + 1, hr⟩
theorem wlk_cost (e : Ent) (h : Nat) : ∀ (R : List Nd) (a : Nat) (R0 : List Nd), R.length ≤ R0.length → (wlk e h a R0 R).2.2 + (wlk e h a R0 R).2.1.length ≤ R0.length + 1
  | [], _, _, _ => by simp [wlk]
  | n :: r, a, R0, hl => by
    rw [List.length_cons] at hl
    rw [wlk]
    split
    · split
      · have := wlk_cost e h r n.g r (Nat.le_refl _)
        dsimp only
        omega
      · dsimp only
        omega
    · exact wlk_cost e h r a R0 (by omega)
/-- No search looks at more than what there is, and once more for each lane. -/
theorem fnd_cost (e : Ent) : ∀ (h a : Nat) (R : List Nd), (fnd e h a R).2 ≤ R.length + h
  | 0, _, _ => Nat.zero_le _
  | h + 1, a, R => by
    have h1 := wlk_cost e h R a R (Nat.le_refl _)
    have h2 := fnd_cost e h (wlk e h a R R).1 (wlk e h a R R).2.1
    rw [fnd]
    dsimp only
    omega

/-- The last one of a lane. -/
def lst (h : Nat) : Nat → List Nd → Nat
  | a, [] => a
  | a, m :: r => lst h (if h < m.u then m.g else a) r
def rst (h : Nat) : List Nd → List Nd → List Nd
  | R0, [] => R0
  | R0, m :: r => if h < m.u then rst h r r else rst h R0 r
theorem lst_app (h : Nat) : ∀ (P Q : List Nd) (a : Nat), lst h a (P ++ Q) = lst h (lst h a P) Q
  | [], _, _ => rfl
  | m :: r, Q, a => by rw [List.cons_append, lst, lst_app h r Q, lst]
theorem lst_none (h : Nat) : ∀ (P : List Nd) (a : Nat), (∀ m ∈ P, ¬ h < m.u) → lst h a P = a
  | [], _, _ => rfl
  | m :: r, a, hp => by rw [lst, if_neg (hp m (List.mem_cons_self ..)), lst_none h r a (fun n hn => hp n (List.mem_cons_of_mem _ hn))]
theorem lst_in (h : Nat) : ∀ (P : List Nd) (a : Nat), lst h a P = a ∨ ∃ m ∈ P, h < m.u ∧ lst h a P = m.g
  | [], _ => .inl rfl
  | m :: r, a => by
    rw [lst]
    split
    · rename_i hm
      rcases lst_in h r m.g with e | ⟨n, hn, h1, h2⟩
      · exact .inr ⟨m, List.mem_cons_self .., hm, e⟩
      · exact .inr ⟨n, List.mem_cons_of_mem _ hn, h1, h2⟩
    · rcases lst_in h r a with e | ⟨n, hn, h1, h2⟩
      · exact .inl e
      · exact .inr ⟨n, List.mem_cons_of_mem _ hn, h1, h2⟩
theorem rst_sub (h : Nat) : ∀ (P R0 : List Nd), (∃ j, P = R0.drop j) → ∃ j, rst h R0 P = R0.drop j
  | [], _, _ => ⟨0, rfl⟩
  | m :: r, R0, ⟨j, hj⟩ => by
    have hr : r = R0.drop (j + 1) := by rw [← List.drop_drop, ← hj]; rfl
    rw [rst]
    split
    · obtain ⟨k, hk⟩ := rst_sub h r r ⟨0, rfl⟩
      exact ⟨j + 1 + k, by rw [hk, hr, List.drop_drop]⟩
    · exact rst_sub h r R0 ⟨j + 1, hr⟩
theorem lst_rst (h h' : Nat) (hh : h' ≤ h) : ∀ (P : List Nd) (a : Nat) (pre R0 : List Nd), R0 = pre ++ P → (∀ m ∈ pre, ¬ h < m.u) → lst h' (lst h a P) (rst h R0 P) = lst h' a R0
  | [], a, pre, R0, e, _ => by rw [lst, rst]
  | m :: r, a, pre, R0, e, hp => by
    rw [lst, rst]
    by_cases hm : h < m.u
    · rw [if_pos hm, if_pos hm, lst_rst h h' hh r m.g [] r rfl (by simp), e, lst_app, lst, if_pos (by omega)]
    · rw [if_neg hm, if_neg hm]
      exact lst_rst h h' hh r a (pre ++ [m]) R0 (by rw [e]; simp) (fun n hn => by
        rcases List.mem_append.1 hn with h1 | h1
        · exact hp n h1
        · rw [List.mem_singleton.1 h1]; exact hm)
theorem wlk_split {e : Ent} (h : Nat) (Q : List Nd) (hQ : ∀ n r, Q = n :: r → ltE n.e e = false) (hQ2 : ∀ n ∈ Q, ltE n.e e = false) : ∀ (P : List Nd) (a : Nat) (R0 : List Nd), (∀ n ∈ P, ltE n.e e = true) → (wlk e h a (R0 ++ Q) (P ++ Q)).1 = lst h a P ∧ (wlk e h a (R0 ++ Q) (P ++ Q)).2.1 = rst h R0 P ++ Q
  | [], a, R0, _ => by
    rw [List.nil_append]
    have : ∀ (Q' : List Nd), (∀ n ∈ Q', ltE n.e e = false) → (wlk e h a (R0 ++ Q) Q').1 = a ∧ (wlk e h a (R0 ++ Q) Q').2.1 = R0 ++ Q := by
      intro Q' hq
      induction Q' with
      | nil => exact ⟨rfl, rfl⟩
      | cons n r ih =>
        rw [wlk]
        split
        · rw [hq n (List.mem_cons_self ..)]
          exact ⟨rfl, rfl⟩
        · exact ih (fun m hm => hq m (List.mem_cons_of_mem _ hm))
    exact this Q hQ2
  | m :: r, a, R0, hP => by
    have hm := hP m (List.mem_cons_self ..)
    have hr := fun n hn => hP n (List.mem_cons_of_mem _ hn)
    rw [List.cons_append, wlk, lst, rst]
    by_cases hu : h < m.u
    · rw [if_pos hu, if_pos hm, if_pos hu, if_pos hu]
      exact wlk_split h Q hQ hQ2 r m.g r hr
    · rw [if_neg hu, if_neg hu, if_neg hu]
      exact wlk_split h Q hQ hQ2 r a R0 hr
/-- What a search tells of each lane. -/
theorem fnd_split {e : Ent} (Q : List Nd) (hQ2 : ∀ n ∈ Q, ltE n.e e = false) : ∀ (H a : Nat) (P : List Nd), (∀ n ∈ P, ltE n.e e = true) → ∀ h, h < H → (fnd e H a (P ++ Q)).1[h]? = some (lst h a P)
  | 0, _, _, _, h, hh => by omega
  | H + 1, a, P, hP, h, hh => by
    have hw := wlk_split (e := e) H Q (fun n r he => hQ2 n (by rw [he]; exact List.mem_cons_self ..)) hQ2 P a P hP
    rw [fnd, hw.1, hw.2]
    rcases Nat.lt_or_ge h H with h1 | h1
    · rw [List.getElem?_append_left (by rw [fnd_len]; exact h1)]
      obtain ⟨j, hj⟩ := rst_sub H P P ⟨0, rfl⟩
      rw [fnd_split Q hQ2 H _ _ (fun n hn => hP n (by rw [hj] at hn; exact List.mem_of_mem_drop hn)) h h1, lst_rst H h (by omega) P a [] P rfl (by simp)]
    · have : h = H := by omega
      subst this
      rw [List.getElem?_append_right (by rw [fnd_len]; exact Nat.le_refl _), fnd_len, Nat.sub_self]
      rfl

/-- One lane more of a node that is put in. -/
theorem nxv_up (gn : Nat) (e : Ent) (t u h : Nat) (Q : List Nd) : ∀ P : List Nd, nxv h (P ++ ⟨gn, e, t, u + 1⟩ :: Q) = if h = u ∧ (∀ m ∈ P, ¬ h < m.u) then ptr gn else nxv h (P ++ ⟨gn, e, t, u⟩ :: Q)
  | [] => by
    rw [List.nil_append, List.nil_append, nxv, nxv]
    by_cases h1 : h = u
    · rw [if_pos (by show h < u + 1; omega), if_pos ⟨h1, by simp⟩]
    · by_cases h2 : h < u
      · rw [if_pos (by show h < u + 1; omega), if_neg (fun hh => h1 hh.1), if_pos h2]
      · rw [if_neg (by show ¬ h < u + 1; omega), if_neg (fun hh => h1 hh.1), if_neg h2]
  | m :: r => by
    rw [List.cons_append, List.cons_append, nxv, nxv]
    by_cases hm : h < m.u
    · rw [if_pos hm, if_pos hm, if_neg (fun hh => hh.2 m (List.mem_cons_self ..) hm)]
    · rw [if_neg hm, if_neg hm, nxv_up gn e t u h Q r]
      by_cases hc : h = u ∧ (∀ m ∈ r, ¬ h < m.u)
      · rw [if_pos hc, if_pos ⟨hc.1, fun n hn => by
          rcases List.mem_cons.1 hn with e1 | e1
          · rw [e1]; exact hm
          · exact hc.2 n e1⟩]
      · rw [if_neg hc, if_neg (fun hh => hc ⟨hh.1, fun n hn => hh.2 n (List.mem_cons_of_mem _ hn)⟩)]
theorem nxv_pass (h : Nat) (Q : List Nd) : ∀ P : List Nd, (∀ m ∈ P, ¬ h < m.u) → nxv h (P ++ Q) = nxv h Q
  | [], _ => rfl
  | m :: r, hp => by rw [List.cons_append, nxv, if_neg (hp m (List.mem_cons_self ..)), nxv_pass h Q r (fun n hn => hp n (List.mem_cons_of_mem _ hn))]
theorem nxv_zero (gn : Nat) (e : Ent) (t h : Nat) (Q : List Nd) : ∀ P : List Nd, nxv h (P ++ ⟨gn, e, t, 0⟩ :: Q) = nxv h (P ++ Q)
  | [] => by rw [List.nil_append, List.nil_append, nxv, if_neg (by show ¬ h < 0; omega)]
  | m :: r => by rw [List.cons_append, List.cons_append, nxv, nxv, nxv_zero gn e t h Q r]
theorem lnc_zero (gn : Nat) (e : Ent) (t u : Nat) (P Q : List Nd) : lnc u (P ++ ⟨gn, e, t, 0⟩ :: Q) = lnc u (P ++ Q) := by
  unfold lnc lnk
  apply List.map_congr_left
  intro h _
  rw [nxv_zero]
theorem lnc_none (r : List Nd) : lnc 0 r = List.replicate 12 (.pointer none) := by
  unfold lnc lnk
  apply List.ext_getElem?
  intro i
  rw [List.getElem?_map, List.getElem?_replicate]
  by_cases hi : i < 12
  · rw [List.getElem?_range hi, if_pos hi]
    rfl
  · rw [List.getElem?_eq_none (by simp; omega), if_neg hi]
    rfl
theorem map_set12 {f f' : Nat → Value} {k : Nat} {v : Value} (hk : k < 12) (h : ∀ i, i < 12 → f' i = if i = k then v else f i) : (List.range 12).map f' = ((List.range 12).map f).set k v := by
  apply List.ext_getElem?
  intro i
  by_cases hi : i < 12
  · rw [List.getElem?_map, List.getElem?_range hi, Option.map_some, h i hi]
    by_cases e : i = k
    · subst e
      rw [List.getElem?_set_self (by simp; exact hi), if_pos rfl]
    · rw [List.getElem?_set_ne (fun h => e h.symm), List.getElem?_map, List.getElem?_range hi, if_neg e]
      rfl
  · rw [List.getElem?_eq_none (by simp; omega), List.getElem?_eq_none (by simp; omega)]
/-- The lanes of one ahead of the node: changed where it is the last one of the lane, else not. -/
theorem lnc_up_hit (gn : Nat) (e : Ent) (t u : Nat) (Q P : List Nd) {au : Nat} (hu : u < 12) (ha : u < au) (hp : ∀ m ∈ P, ¬ u < m.u) : lnc au (P ++ ⟨gn, e, t, u + 1⟩ :: Q) = (lnc au (P ++ ⟨gn, e, t, u⟩ :: Q)).set u (ptr gn) := by
  unfold lnc
  refine map_set12 hu (fun i hi => ?_)
  unfold lnk
  rw [nxv_up]
  by_cases e1 : i = u
  · subst e1
    rw [if_pos ha, if_pos ⟨rfl, hp⟩, if_pos rfl]
  · rw [if_neg (show ¬ (i = u ∧ ∀ m ∈ P, ¬ i < m.u) from fun h => e1 h.1), if_neg e1]
theorem lnc_up_miss (gn : Nat) (e : Ent) (t u : Nat) (Q P : List Nd) {au : Nat} (h : ¬ (u < au ∧ ∀ m ∈ P, ¬ u < m.u)) : lnc au (P ++ ⟨gn, e, t, u + 1⟩ :: Q) = lnc au (P ++ ⟨gn, e, t, u⟩ :: Q) := by
  unfold lnc
  apply List.map_congr_left
  intro i _
  unfold lnk
  rw [nxv_up]
  by_cases e1 : i = u ∧ ∀ m ∈ P, ¬ i < m.u
  · obtain ⟨rfl, e2⟩ := e1
    rw [if_neg (fun h1 => h ⟨h1, e2⟩), if_neg (fun h1 => h ⟨h1, e2⟩)]
  · rw [if_neg e1]
theorem lnc_own (u : Nat) (Q : List Nd) (hu : u < 12) : lnc (u + 1) Q = (lnc u Q).set u (nxv u Q) := by
  unfold lnc
  refine map_set12 hu (fun i hi => ?_)
  unfold lnk
  by_cases e1 : i = u
  · subst e1
    rw [if_pos (by omega), if_pos rfl]
  · rw [if_neg e1]
    by_cases e2 : i < u
    · rw [if_pos (by omega), if_pos e2]
    · rw [if_neg (by omega), if_neg e2]
/-- Who is the last one of a lane, told by its block. -/
theorem lst_hit (h : Nat) : ∀ (P : List Nd) (a i : Nat) (m : Nd), P[i]? = some m → h < m.u → (∀ n ∈ P.drop (i + 1), ¬ h < n.u) → lst h a P = m.g
  | [], _, _, _, hi, _, _ => by simp at hi
  | n :: r, a, 0, m, hi, hm, hr => by
    have : n = m := by simpa using hi
    subst this
    rw [lst, if_pos hm]
    exact lst_none h r _ hr
  | n :: r, a, i + 1, m, hi, hm, hr => by
    rw [lst]
    exact lst_hit h r _ i m (by simpa using hi) hm hr
theorem lst_only (h : Nat) : ∀ (P : List Nd) (a i : Nat) (m : Nd), (a :: P.map Nd.g).Nodup → P[i]? = some m → lst h a P = m.g → h < m.u ∧ ∀ n ∈ P.drop (i + 1), ¬ h < n.u
  | [], _, _, _, _, hi, _ => by simp at hi
  | n :: r, a, 0, m, hd, hi, he => by
    have : n = m := by simpa using hi
    subst this
    rw [List.map_cons, List.nodup_cons, List.nodup_cons] at hd
    rw [lst] at he
    have hno : ∀ x, x = n.g ∨ x = a → lst h x r = n.g → x = n.g ∧ ∀ k ∈ r, ¬ h < k.u := by
      intro x hx he2
      rcases lst_in h r x with h1 | ⟨k, hk, h1, h2⟩
      · refine ⟨h1.symm.trans he2, ?_⟩
        intro k hk hku
        obtain ⟨j, hj⟩ := List.mem_iff_getElem?.1 hk
        -- the last one of the lane in r is in r, so x would be in r
        have : ∃ m ∈ r, h < m.u ∧ lst h x r = m.g := by
          clear he2 h1 hx
          have aux : ∀ (r : List Nd) (x : Nat), (∃ k ∈ r, h < k.u) → ∃ m ∈ r, h < m.u ∧ lst h x r = m.g := by
            intro r
            induction r with
            | nil => rintro x ⟨k, hk, _⟩; cases hk
            | cons y s ih =>
              rintro x ⟨k, hk, hku⟩
              rw [lst]
              by_cases hs : ∃ k ∈ s, h < k.u
              · obtain ⟨m, h1, h2, h3⟩ := ih (if h < y.u then y.g else x) hs
                exact ⟨m, List.mem_cons_of_mem _ h1, h2, h3⟩
              · rcases List.mem_cons.1 hk with e | e
                · subst e
                  rw [if_pos hku, lst_none h s _ (fun z hz hzu => hs ⟨z, hz, hzu⟩)]
                  exact ⟨k, List.mem_cons_self .., hku, rfl⟩
                · exact absurd ⟨k, e, hku⟩ hs
          exact aux r x ⟨k, hk, hku⟩
        obtain ⟨m', hm', _, h5⟩ := this
        have h6 : m'.g = n.g := by rw [← h5]; exact he2
        exact hd.2.1 (List.mem_map.2 ⟨m', hm', h6⟩)
      · have h6 : k.g = n.g := by rw [← h2]; exact he2
        exact absurd (List.mem_map.2 ⟨k, hk, h6⟩) hd.2.1
    by_cases hn : h < n.u
    · rw [if_pos hn] at he
      exact ⟨hn, (hno n.g (.inl rfl) he).2⟩
    · rw [if_neg hn] at he
      have := (hno a (.inr rfl) he).1
      exact absurd (by rw [this]; exact List.mem_cons_self ..) hd.1
  | n :: r, a, i + 1, m, hd, hi, he => by
    rw [lst] at he
    rw [List.map_cons, List.nodup_cons, List.nodup_cons] at hd
    refine lst_only h r _ i m ?_ (by simpa using hi) he
    rw [List.nodup_cons]
    refine ⟨?_, hd.2.2⟩
    split
    · exact hd.2.1
    · exact fun hh => hd.1 (List.mem_cons_of_mem _ hh)
theorem lst_head (h : Nat) (P : List Nd) (a : Nat) (hd : (a :: P.map Nd.g).Nodup) (he : lst h a P = a) : ∀ m ∈ P, ¬ h < m.u := by
  intro m hm hu
  have aux : ∀ (r : List Nd) (x : Nat), (∃ k ∈ r, h < k.u) → ∃ m ∈ r, h < m.u ∧ lst h x r = m.g := by
    intro r
    induction r with
    | nil => rintro x ⟨k, hk, _⟩; cases hk
    | cons y s ih =>
      rintro x ⟨k, hk, hku⟩
      rw [lst]
      by_cases hs : ∃ k ∈ s, h < k.u
      · obtain ⟨m, h1, h2, h3⟩ := ih (if h < y.u then y.g else x) hs
        exact ⟨m, List.mem_cons_of_mem _ h1, h2, h3⟩
      · rcases List.mem_cons.1 hk with e | e
        · subst e
          rw [if_pos hku, lst_none h s _ (fun z hz hzu => hs ⟨z, hz, hzu⟩)]
          exact ⟨k, List.mem_cons_self .., hku, rfl⟩
        · exact absurd ⟨k, e, hku⟩ hs
  obtain ⟨k, hk, _, h2⟩ := aux P a ⟨m, hm, hu⟩
  rw [List.nodup_cons] at hd
  exact hd.1 (List.mem_map.2 ⟨k, hk, h2.symm.trans he⟩)
end Go.Proofs.Ytjhgbdeadkoegaa
