/- The two measures of what comes in: the form's own reach; the bulk of the second form. -/
import Derived.Test.YtjhgbdeadkoegaaOpen
import Derived.Test.YtjhgbdeadkoegaaRows
import Derived.SizedLaws
import Derived.Deep.CondSized
import Derived.JoinedCond
import Derived.ShutString
import Derived.ChangeOld
namespace Go.Proofs.Ytjhgbdeadkoegaa
open Go.RowKit Go.ChangeShapes Go.WideShapes Go.ChangeAt Go.St

theorem own_ : ownKnob Try.prog.godebug = none := by kernel_rfl
theorem laidOut_ : laidOutB Try.prog = true := by kernel_rfl

theorem bulk_mem {H : Type} {d : DataW H} {l : List (DataW H)} (h : d ∈ l) : Rows.uptoBulk d ≤ Rows.uptoBulkAll l := by
  induction l with
  | nil => cases h
  | cons x r ih =>
    simp only [Rows.uptoBulkAll]
    rcases List.mem_cons.1 h with e | e
    · subst e; omega
    · have := ih e; omega
theorem bulk_one {H : Type} (d : DataW H) : 1 ≤ Rows.uptoBulk d := by
  cases d with
  | lit l => cases l <;> simp [Rows.uptoBulk]
  | _ => simp [Rows.uptoBulk]
theorem bulk_len {H : Type} (l : List (DataW H)) : l.length ≤ Rows.uptoBulkAll l := by
  induction l with
  | nil => simp [Rows.uptoBulkAll]
  | cons x r ih => have := bulk_one x; simp only [Rows.uptoBulkAll, List.length_cons]; omega

theorem meas_upto (H : Type) : Meas Try.prog H 1048576 (fun _ d => Rows.uptoBulk d ≤ 1048576) where
  str := fun _ l h => by simp [Rows.uptoBulk] at h; omega
  sl := fun _ _ es sp _ _ h => by
    simp only [Rows.uptoBulk] at h
    have h1 := bulk_len es
    have h2 := bulk_len sp
    exact ⟨by omega, fun d hd => by have := bulk_mem hd; omega⟩
  st := fun _ _ parts _ h i f d _ hd => by
    simp only [Rows.uptoBulk] at h
    have := bulk_mem (List.mem_of_getElem? hd)
    omega
  ar := fun _ _ _ parts _ h d hd => by
    simp only [Rows.uptoBulk] at h
    have := bulk_mem hd
    omega

theorem weights_all {H : Type} {P : Program} {e : TypeId} {l : List (DataW H)} {d : DataW H} (h : d ∈ l) : ∀ n ∈ d.weights P e, n ∈ DataW.weightsAll P e l := by
  induction l with
  | nil => cases h
  | cons x r ih =>
    intro n hn
    rw [DataW.weightsAll]
    rcases List.mem_cons.1 h with e | e
    · subst e; exact List.mem_append_left _ hn
    · exact List.mem_append_right _ (ih e n hn)

theorem meas_reach (H : Type) : Meas Try.prog H 140737488351232 (fun t d => ∀ n ∈ DataW.weights Try.prog t d, n ≤ 140737488351232) where
  str := fun _ l h => by
    have := h l.length (by simp [DataW.weights])
    exact this
  sl := fun t e es sp hu hpos h => by
    have hw : DataW.weights Try.prog t (.slice es sp) = (es.length + sp.length) * Try.prog.bytesOf e :: (DataW.weightsAll Try.prog e es ++ DataW.weightsAll Try.prog e sp) := by
      rw [DataW.weights, hu]
    rw [hw] at h
    have h1 := h _ (List.mem_cons_self ..)
    have h2 := Nat.le_mul_of_pos_right (es.length + sp.length) hpos
    exact ⟨by omega, fun d hd n hn => h n (List.mem_cons_of_mem _ (List.mem_append_left _ (weights_all hd n hn)))⟩
  st := fun t fs parts hu h i f d hf hd n hn => by
    have hw : DataW.weights Try.prog t (.agg parts) = DataW.weightsEach Try.prog (fs.toList.map (·.type)) parts := by
      rw [DataW.weights, hu]
    rw [hw] at h
    refine h n (DataW.weights_mem_each (j := i) (t := f.type) (d := d) ?_ hd n hn)
    rw [List.getElem?_map, Array.getElem?_toList, hf]
    rfl
  ar := fun t k e parts hu h d hd n hn => by
    have hw : DataW.weights Try.prog t (.agg parts) = DataW.weightsAll Try.prog e parts := by
      rw [DataW.weights, hu]
    rw [hw] at h
    exact h n (weights_all hd n hn)

end Go.Proofs.Ytjhgbdeadkoegaa
