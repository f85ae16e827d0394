/- Plain law: entries with their towers, in order; one put in. -/
import Derived.Test.YtjhgbdeadkoegaaLl
namespace Go.Proofs.Ytjhgbdeadkoegaa
open Go.RowKit Go.St Go.Shelf Go.Maps
set_option linter.unusedVariables false
set_option linter.unusedSimpArgs false
set_option maxRecDepth 100000

/-- An entry with its tower. -/
abbrev Ld := Ent × Nat
def nds (N : List Nd) : List Ld := N.map (fun n => (n.e, n.t))
def aP (e : Ent) (L : List Ld) : List Ld := L.takeWhile (fun x => ltE x.1 e)
def aQ (e : Ent) (L : List Ld) : List Ld := L.dropWhile (fun x => ltE x.1 e)
def thL (e : Ent) (L : List Ld) : Bool := (aQ e L).head?.any (fun x => decide (x.1.key = e.key) && decide (x.1.seq = e.seq))
def ordL (L : List Ld) : Prop := L.Pairwise (fun a b => ltE a.1 b.1 = true)
def addC (e : Ent) (L : List Ld) : Int := if okE e = true then (if thL e L = true then 9 else 0) else 2
def addL (hs : List Int) (e : Ent) (L : List Ld) : List Ld := if okE e = true ∧ thL e L = false then aP e L ++ (e, towN hs L.length) :: aQ e L else L
def szL (L : List Ld) : Int := (L.map (fun x => (x.1.key.size : Int) + (x.1.val.size : Int))).sum
def lnJ (h : Int) : Nat → List Ld → List Int
  | _, [] => []
  | i, x :: r => if h ≤ (x.2 : Int) then (i : Int) :: lnJ h (i + 1) r else lnJ h (i + 1) r
def lnL (h : Int) (L : List Ld) : List Int := if 1 ≤ h ∧ h ≤ 12 then lnJ h 0 L else []
def rwN (L : List Ld) : List Nd := L.map (fun x => ⟨0, x.1, x.2, x.2⟩)
def cst (key : ByteArray) (seq : Int) (L : List Ld) : Nat := (fnd ⟨key, zB, seq, false⟩ 12 0 (rwN L)).2
theorem nds_len (N : List Nd) : (nds N).length = N.length := List.length_map _
theorem nds_fst (N : List Nd) : (nds N).map Prod.fst = N.map Nd.e := by unfold nds; rw [List.map_map]; rfl
theorem nds_aP (e : Ent) (N : List Nd) : nds (aheadP e N) = aP e (nds N) := by
  unfold nds aheadP aP
  rw [List.takeWhile_map]
  rfl
theorem nds_aQ (e : Ent) (N : List Nd) : nds (aheadQ e N) = aQ e (nds N) := by
  unfold nds aheadQ aQ
  rw [List.dropWhile_map]
  rfl
theorem nds_th (e : Ent) (N : List Nd) : thN e N = thL e (nds N) := by
  unfold thN thL
  rw [← nds_aQ]
  unfold nds
  rw [List.head?_map]
  cases (aheadQ e N).head? <;> rfl
theorem nds_ord (N : List Nd) : ordL (nds N) ↔ ordN N := by
  unfold ordL ordN nds
  rw [List.pairwise_map]
theorem lnJ_nds (h : Int) : ∀ (N : List Nd) (i : Nat), lnJ h i (nds N) = lnI h i N
  | [], _ => rfl
  | n :: r, i => by
    show (if h ≤ (n.t : Int) then (i : Int) :: lnJ h (i + 1) (nds r) else lnJ h (i + 1) (nds r)) = _
    rw [lnJ_nds h r (i + 1), lnI]
theorem lnL_nds (h : Int) (N : List Nd) : lnL h (nds N) = lnV h N := by unfold lnL lnV; rw [lnJ_nds]
theorem wlk_map (f : Nd → Nd) (he : ∀ n, (f n).e = n.e) (hu : ∀ n, (f n).u = n.u) (e : Ent) (h : Nat) : ∀ (R : List Nd) (a a' : Nat) (R0 : List Nd), (wlk e h a' (R0.map f) (R.map f)).2 = ((wlk e h a R0 R).2.1.map f, (wlk e h a R0 R).2.2)
  | [], _, _, _ => rfl
  | n :: r, a, a', R0 => by
    rw [List.map_cons, wlk, wlk, hu, he]
    split
    · split
      · have h1 := wlk_map f he hu e h r n.g (f n).g r
        dsimp only
        rw [h1]
      · rfl
    · exact wlk_map f he hu e h r a a' R0
theorem fnd_map (f : Nd → Nd) (he : ∀ n, (f n).e = n.e) (hu : ∀ n, (f n).u = n.u) (e : Ent) : ∀ (h a a' : Nat) (R : List Nd), (fnd e h a' (R.map f)).2 = (fnd e h a R).2
  | 0, _, _, _ => rfl
  | h + 1, a, a', R => by
    have h1 := wlk_map f he hu e h R a a' R
    rw [fnd, fnd]
    dsimp only
    rw [h1]
    dsimp only
    rw [fnd_map f he hu e h (wlk e h a R R).1]
theorem cst_nds {N : List Nd} (hf : ∀ n ∈ N, n.u = n.t) (key : ByteArray) (seq : Int) (T : Nat) : (fnd ⟨key, zB, seq, false⟩ 12 T N).2 = cst key seq (nds N) := by
  unfold cst
  have e1 : rwN (nds N) = N.map (fun n => ⟨0, n.e, n.u, n.u⟩) := by
    unfold rwN nds
    rw [List.map_map]
    exact List.map_congr_left (fun n hn => by rw [hf n hn]; rfl)
  rw [e1, fnd_map (fun n => ⟨0, n.e, n.u, n.u⟩) (fun _ => rfl) (fun _ => rfl)]
theorem aPQ (e : Ent) (L : List Ld) : L = aP e L ++ aQ e L := (List.takeWhile_append_dropWhile).symm
theorem aP_all (e : Ent) (L : List Ld) : ∀ x ∈ aP e L, ltE x.1 e = true := fun x hx => by
  have := List.all_takeWhile (p := fun x : Ld => ltE x.1 e) (l := L)
  exact List.all_eq_true.1 this x hx
theorem aQ_head (e : Ent) : ∀ (L : List Ld) x r, aQ e L = x :: r → ltE x.1 e = false
  | [], x, r, h => by cases h
  | y :: l, x, r, h => by
    unfold aQ at h
    rw [List.dropWhile_cons] at h
    split at h
    · exact aQ_head e l x r h
    · rename_i hy
      injection h with h1
      rw [← h1]
      simpa using hy
theorem aQ_all {e : Ent} {L : List Ld} (ho : ordL L) (ht : thL e L = false) : ∀ x ∈ aQ e L, ltE e x.1 = true := by
  have h1 : (aQ e L).Pairwise (fun a b => ltE a.1 b.1 = true) := List.Pairwise.sublist (List.dropWhile_suffix _).sublist ho
  have hh := aQ_head e L
  unfold thL at ht
  cases hq : aQ e L with
  | nil => intro x hx; cases hx
  | cons m r =>
    rw [hq] at h1 ht
    have h2 := hh m r hq
    rw [List.pairwise_cons] at h1
    have h3 : ltE e m.1 = true := by
      cases h4 : ltE e m.1
      · obtain ⟨k1, k2⟩ := ltE_tri h2 h4
        simp [k1, k2] at ht
      · rfl
    intro x hx
    rcases List.mem_cons.1 hx with e1 | e1
    · rw [e1]; exact h3
    · exact ltE_tr h3 (h1.1 x e1)
theorem ord_ins {e : Ent} {t : Nat} {L : List Ld} (ho : ordL L) (ht : thL e L = false) : ordL (aP e L ++ (e, t) :: aQ e L) := by
  have hq := aQ_all ho ht
  have h1 := aPQ e L
  unfold ordL at ho ⊢
  rw [h1, List.pairwise_append] at ho
  obtain ⟨o1, o2, o3⟩ := ho
  rw [List.pairwise_append, List.pairwise_cons]
  refine ⟨o1, ⟨fun x hx => hq x hx, o2⟩, fun a ha b hb => ?_⟩
  rcases List.mem_cons.1 hb with e1 | e1
  · rw [e1]; exact aP_all e L a ha
  · exact o3 a ha b e1
theorem addL_ord {hs : List Int} {e : Ent} {L : List Ld} (ho : ordL L) : ordL (addL hs e L) := by
  unfold addL
  split
  · rename_i h
    exact ord_ins ho h.2
  · exact ho
theorem addL_len (hs : List Int) (e : Ent) (L : List Ld) : (addL hs e L).length ≤ L.length + 1 := by
  unfold addL
  split
  · have := congrArg List.length (aPQ e L)
    rw [List.length_append] at this
    rw [List.length_append, List.length_cons]
    omega
  · omega
theorem addL_mem {hs : List Int} {e : Ent} {L : List Ld} {x : Ld} (hx : x ∈ addL hs e L) : x ∈ L ∨ (x.1 = e ∧ okE e = true) := by
  unfold addL at hx
  split at hx
  · rename_i h
    rw [aPQ e L]
    rcases List.mem_append.1 hx with h1 | h1
    · exact .inl (List.mem_append_left _ h1)
    · rcases List.mem_cons.1 h1 with h2 | h2
      · exact .inr ⟨by rw [h2], h.1⟩
      · exact .inl (List.mem_append_right _ h2)
  · exact .inl hx
theorem addL_sub (hs : List Int) (e : Ent) (L : List Ld) {x : Ld} (hx : x ∈ L) : x ∈ addL hs e L := by
  unfold addL
  split
  · rw [aPQ e L] at hx
    rcases List.mem_append.1 hx with h1 | h1
    · exact List.mem_append_left _ h1
    · exact List.mem_append_right _ (List.mem_cons_of_mem _ h1)
  · exact hx
theorem szL_ins (e : Ent) (t : Nat) (L : List Ld) : szL (aP e L ++ (e, t) :: aQ e L) = szL L + (e.key.size : Int) + (e.val.size : Int) := by
  have h : szL L = szL (aP e L) + szL (aQ e L) := by
    conv => lhs; rw [aPQ e L]
    unfold szL
    rw [List.map_append, List.sum_append]
  rw [h]
  unfold szL
  rw [List.map_append, List.sum_append, List.map_cons, List.sum_cons]
  dsimp only
  omega
theorem szL_le : ∀ {L : List Ld}, (∀ x ∈ L, okE x.1 = true) → 0 ≤ szL L ∧ szL L ≤ (L.length : Int) * 4608
  | [], _ => by simp [szL]
  | x :: r, h => by
    have h1 := szL_le (L := r) (fun y hy => h y (List.mem_cons_of_mem _ hy))
    have h2 := h x (List.mem_cons_self ..)
    unfold okE at h2
    simp only [Bool.and_eq_true, decide_eq_true_eq] at h2
    unfold szL at h1 ⊢
    rw [List.map_cons, List.sum_cons, List.length_cons]
    have h3 := h2.1.1.2.2
    have h4 := h2.1.2
    omega
/-- There already: one of the same key and Seq. -/
theorem thL_iff {e : Ent} {L : List Ld} (ho : ordL L) : thL e L = true ↔ ∃ x ∈ L, x.1.key = e.key ∧ x.1.seq = e.seq := by
  constructor
  · intro h
    unfold thL at h
    cases hq : aQ e L with
    | nil => rw [hq] at h; cases h
    | cons m r =>
      rw [hq] at h
      simp at h
      refine ⟨m, ?_, h⟩
      rw [aPQ e L, hq]
      exact List.mem_append_right _ (List.mem_cons_self ..)
  · rintro ⟨x, hx, hk, hs⟩
    cases ht : thL e L with
    | true => rfl
    | false =>
      have hn : ltE x.1 e = false ∧ ltE e x.1 = false := by
        unfold ltE
        rw [hk, hs]
        simp [klt_irr]
      rw [aPQ e L] at hx
      rcases List.mem_append.1 hx with h1 | h1
      · rw [aP_all e L x h1] at hn; cases hn.1
      · rw [aQ_all ho ht x h1] at hn; cases hn.2
end Go.Proofs.Ytjhgbdeadkoegaa
