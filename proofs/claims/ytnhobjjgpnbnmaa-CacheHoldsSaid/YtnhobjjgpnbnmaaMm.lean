/- The plain law of a read cache: marks, its low mark, what it tells of a key. -/
import Derived.Test.YtnhobjjgpnbnmaaHmath
namespace Go.Proofs.Ytnhobjjgpnbnmaa
open Go.St
set_option linter.unusedVariables false
set_option linter.unusedSimpArgs false

/-- A mark. -/
structure Mk where
  f : ByteArray
  t : ByteArray
  a : Stp
  nd : Int
  nu : Int
/-- The first least of some marks: its place. -/
def minI : List Mk → Nat
  | [] => 0
  | [_] => 0
  | m :: x :: l => if (less ((x :: l).getD (minI (x :: l)) m).a m.a) then minI (x :: l) + 1 else 0
def minK (l : List Mk) (d : Mk) : Mk := l.getD (minI l) d
theorem le_refl' (a : Stp) : less a a = false := less_irrefl a
theorem nlt_trans {a b c : Stp} (h : less b a = false) (k : less c b = false) : less c a = false := by
  rw [less_no] at *; omega
theorem less_max_l (a b : Stp) : less (maxS a b) a = false := by
  unfold maxS; split
  · rename_i h; exact less_asymm h
  · exact less_irrefl a
theorem less_max_r (a b : Stp) : less (maxS a b) b = false := by
  unfold maxS; split
  · exact less_irrefl b
  · rename_i h; simpa using h
theorem max_le {a b c : Stp} (h : less c a = false) (k : less c b = false) : less c (maxS a b) = false := by
  unfold maxS; split <;> assumption
theorem minI_lt : ∀ (l : List Mk), l ≠ [] → minI l < l.length
  | [], h => absurd rfl h
  | [_], _ => by simp [minI]
  | m :: x :: l, _ => by
    unfold minI
    split
    · have := minI_lt (x :: l) (by simp); simpa using this
    · simp
/-- No mark is below the least. -/
theorem minI_le (d : Mk) : ∀ (l : List Mk) (m : Mk), m ∈ l → less m.a (minK l d).a = false
  | [], m, h => by simp at h
  | [y], m, h => by
    simp at h; subst h
    simp [minK, minI, less_irrefl]
  | y :: x :: l, m, h => by
    have hlt := minI_lt (x :: l) (by simp)
    have e : ∀ d', (x :: l).getD (minI (x :: l)) d' = minK (x :: l) d := fun d' => by
      unfold minK
      simp only [List.getD, List.getElem?_eq_getElem hlt, Option.getD_some]
    have ih := minI_le d (x :: l)
    unfold minK
    rw [minI]
    split
    · rename_i h1
      rw [e] at h1
      rw [List.getD_cons_succ, e]
      rcases List.mem_cons.1 h with h2 | h2
      · subst h2; exact less_asymm h1
      · exact ih m h2
    · rename_i h1
      rw [e] at h1
      have h1 : less (minK (x :: l) d).a y.a = false := by simpa using h1
      simp only [List.getD_cons_zero]
      rcases List.mem_cons.1 h with h2 | h2
      · subst h2; exact less_irrefl _
      · exact nlt_trans h1 (ih m h2)
/-- The marks ahead of the least are above it. -/
theorem minI_first (d : Mk) : ∀ (l : List Mk) (j : Nat), j < minI l → less (minK l d).a ((l.getD j d).a) = true
  | [], j, h => by simp [minI] at h
  | [y], j, h => by simp [minI] at h
  | y :: x :: l, j, h => by
    have hlt := minI_lt (x :: l) (by simp)
    have e : ∀ d', (x :: l).getD (minI (x :: l)) d' = minK (x :: l) d := fun d' => by
      unfold minK
      simp only [List.getD, List.getElem?_eq_getElem hlt, Option.getD_some]
    unfold minK
    rw [minI] at h ⊢
    split at h
    · rename_i h1
      rw [if_pos h1]
      rw [e] at h1
      rw [List.getD_cons_succ, e]
      cases j with
      | zero => simpa using h1
      | succ j =>
        rw [List.getD_cons_succ]
        exact minI_first d (x :: l) j (by omega)
    · omega
/-- What a cache tells: the low mark and the marks of a key by others. -/
def atF (p : Mk → Bool) (s : Stp) (l : List Mk) : Stp := l.foldl (fun acc m => if p m then maxS acc m.a else acc) s
theorem atF_snoc (p : Mk → Bool) (s : Stp) (l : List Mk) (m : Mk) : atF p s (l ++ [m]) = if p m then maxS (atF p s l) m.a else atF p s l := by
  simp [atF]
theorem atF_low (p : Mk → Bool) : ∀ (l : List Mk) (s : Stp), less (atF p s l) s = false
  | [], s => less_irrefl s
  | m :: l, s => by
    show less (atF p _ l) s = false
    refine nlt_trans (b := if p m then maxS s m.a else s) ?_ (atF_low p l _)
    split
    · exact less_max_l s m.a
    · exact less_irrefl s
theorem atF_mem (p : Mk → Bool) : ∀ (l : List Mk) (s : Stp) (m : Mk), m ∈ l → p m = true → less (atF p s l) m.a = false
  | [], _, _, h, _ => by simp at h
  | x :: l, s, m, h, hp => by
    show less (atF p _ l) m.a = false
    rcases List.mem_cons.1 h with h | h
    · subst h
      refine nlt_trans (b := if p m then maxS s m.a else s) ?_ (atF_low p l _)
      rw [if_pos hp]
      exact less_max_r s m.a
    · exact atF_mem p l _ m h hp
/-- The least that is not below the low mark and these marks. -/
theorem atF_le (p : Mk → Bool) : ∀ (l : List Mk) (s u : Stp), less u s = false → (∀ m ∈ l, p m = true → less u m.a = false) → less u (atF p s l) = false
  | [], _, _, h, _ => h
  | x :: l, s, u, h, hm => by
    show less u (atF p _ l) = false
    refine atF_le p l _ u ?_ (fun m h2 => hm m (List.mem_cons_of_mem _ h2))
    show less u (if p x then maxS s x.a else s) = false
    split
    · rename_i hp
      exact max_le h (hm x (List.mem_cons_self ..) hp)
    · exact h
/-- A cache: what a read of it is. -/
def most : Nat := 1024
def putL (s : Stp) (l : List Mk) (m : Mk) : List Mk := if l.length < 1024 then l ++ [m] else (l ++ [m]).eraseIdx (minI (l ++ [m]))
def putS (s : Stp) (l : List Mk) (m : Mk) : Stp := if l.length < 1024 then s else maxS s (minK (l ++ [m]) m).a
def dropL (s : Stp) (l : List Mk) : List Mk := l.filter (fun m => less s m.a)
theorem put_mono (p : Mk → Bool) (s : Stp) (l : List Mk) (m : Mk) : less (atF p (putS s l m) (putL s l m)) (atF p s l) = false := by
  refine atF_le p l s _ ?_ (fun x hx hp => ?_)
  · refine nlt_trans ?_ (atF_low ..)
    unfold putS
    split
    · exact less_irrefl s
    · exact less_max_l s _
  · unfold putS putL
    split
    · exact atF_mem p _ _ x (List.mem_append_left _ hx) hp
    · by_cases hx2 : x ∈ (l ++ [m]).eraseIdx (minI (l ++ [m]))
      · exact atF_mem p _ _ x hx2 hp
      · have hlt : minI (l ++ [m]) < (l ++ [m]).length := minI_lt _ (by simp)
        have he : x = minK (l ++ [m]) m := by
          have hm : x ∈ l ++ [m] := List.mem_append_left _ hx
          obtain ⟨i, hi, rfl⟩ := List.getElem_of_mem hm
          by_cases hii : i = minI (l ++ [m])
          · unfold minK
            simp only [List.getD, ← hii, List.getElem?_eq_getElem hi, Option.getD_some]
          · exact absurd (List.mem_eraseIdx_iff_getElem.2 ⟨i, hi, hii, rfl⟩) hx2
        refine nlt_trans ?_ (atF_low ..)
        rw [he]
        exact less_max_r s _
theorem put_has (p : Mk → Bool) (s : Stp) (l : List Mk) (m : Mk) (hp : p m = true) : less (atF p (putS s l m) (putL s l m)) m.a = false := by
  unfold putS putL
  split
  · exact atF_mem p _ _ m (by simp) hp
  · by_cases hx2 : m ∈ (l ++ [m]).eraseIdx (minI (l ++ [m]))
    · exact atF_mem p _ _ m hx2 hp
    · have hlt : minI (l ++ [m]) < (l ++ [m]).length := minI_lt _ (by simp)
      have he : m = minK (l ++ [m]) m := by
        by_cases hii : l.length = minI (l ++ [m])
        · unfold minK
          rw [← hii]
          simp [List.getD]
        · exact absurd (List.mem_eraseIdx_iff_getElem.2 ⟨l.length, by simp, hii, by simp⟩) hx2
      refine nlt_trans ?_ (atF_low ..)
      conv => lhs; rhs; rw [he]
      exact less_max_r s _
theorem drop_mono (p : Mk → Bool) {s s' : Stp} (l : List Mk) (h : less s' s = false) : less (atF p s' (dropL s' l)) (atF p s l) = false := by
  refine atF_le p l s _ (nlt_trans h (atF_low ..)) (fun x hx hp => ?_)
  by_cases hk : less s' x.a = true
  · exact atF_mem p _ _ x (List.mem_filter.2 ⟨hx, hk⟩) hp
  · exact nlt_trans (by simpa using hk) (atF_low ..)
/-- Nothing is above u. -/
def under (u s : Stp) (l : List Mk) : Prop := less u s = false ∧ ∀ m ∈ l, less u m.a = false
theorem under_at {u s : Stp} {l : List Mk} (h : under u s l) (p : Mk → Bool) : less u (atF p s l) = false := atF_le p l s u h.1 (fun m hm _ => h.2 m hm)
theorem under_put {u s : Stp} {l : List Mk} {m : Mk} (h : under u s l) : under (maxS u m.a) (putS s l m) (putL s l m) := by
  have h1 : ∀ x ∈ l ++ [m], less (maxS u m.a) x.a = false := fun x hx => by
    rcases List.mem_append.1 hx with h2 | h2
    · exact nlt_trans (h.2 x h2) (less_max_l u m.a)
    · simp at h2; subst h2; exact less_max_r u x.a
  have h0 : less (maxS u m.a) s = false := nlt_trans h.1 (less_max_l u m.a)
  unfold putS putL
  split
  · exact ⟨h0, h1⟩
  · refine ⟨max_le h0 ?_, fun x hx => h1 x (List.mem_of_mem_eraseIdx hx)⟩
    refine h1 _ ?_
    have hlt : minI (l ++ [m]) < (l ++ [m]).length := minI_lt _ (by simp)
    unfold minK
    simp only [List.getD, List.getElem?_eq_getElem hlt, Option.getD_some]
    exact List.getElem_mem hlt
theorem under_max {u s : Stp} {l : List Mk} (h : under u s l) (a : Stp) : under (maxS u a) s l := ⟨nlt_trans h.1 (less_max_l u a), fun m hm => nlt_trans (h.2 m hm) (less_max_l u a)⟩
theorem under_drop {u s : Stp} {l : List Mk} (h : under u s l) (a : Stp) : under (maxS u a) (maxS s a) (dropL (maxS s a) l) :=
  ⟨max_le (nlt_trans h.1 (less_max_l u a)) (less_max_r u a), fun m hm => nlt_trans (h.2 m (List.mem_filter.1 hm).1) (less_max_l u a)⟩
theorem put_len (s : Stp) (l : List Mk) (m : Mk) (h : l.length ≤ 1024) : (putL s l m).length ≤ 1024 := by
  have hlt : minI (l ++ [m]) < (l ++ [m]).length := minI_lt _ (by simp)
  unfold putL
  split
  · simp; omega
  · rw [List.length_eraseIdx, if_pos hlt]; simp; omega
end Go.Proofs.Ytnhobjjgpnbnmaa
