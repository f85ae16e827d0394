/- Plain law: what two spans have in common; the span of one key. -/
import Derived.Test.YtlpdihcgdgkkbaaRi
namespace Go.Proofs.Ytlpdihcgdgkkbaa
open Go.RowKit Go.St
set_option linter.unusedVariables false
set_option linter.unusedSimpArgs false

theorem zE_list : zE.toList = [] := by rw [Lib.toList_data]; rfl
theorem isE_iff (t : ByteArray) : t.toList.isEmpty = true ↔ t = zE := by
  constructor
  · intro h; exact toList_inj (by rw [List.isEmpty_iff.1 h, zE_list])
  · rintro rfl; rw [zE_list]; rfl
theorem klt_zE (t : ByteArray) : klt t zE = false := by
  rw [klt_false]; exact fun h => by rw [zE_list] at h; exact List.not_lt_nil _ h
theorem kmax_comm (a b : ByteArray) : kmax a b = kmax b a := by
  unfold kmax
  cases h : klt a b <;> cases h' : klt b a
  · simpa using klt_total h' h |>.symm
  · simp
  · simp
  · have := klt_asymm h; rw [h'] at this; cases this
theorem meetT_comm (a b : ByteArray) : meetT a b = meetT b a := by
  unfold meetT
  cases ha : a.toList.isEmpty <;> cases hb : b.toList.isEmpty <;> cases h : klt b a <;> cases h' : klt a b <;> simp_all
  · exact klt_total h' h
  · have := klt_asymm h; rw [h'] at this; cases this
  all_goals
    have ha' := (isE_iff a).1 (by simpa using ha)
    have hb' := (isE_iff b).1 (by simpa using hb)
    rw [ha', hb']
theorem meetE_comm (f1 t1 f2 t2 : ByteArray) : meetE f2 t2 f1 t1 = meetE f1 t1 f2 t2 := by
  unfold meetE; rw [kmax_comm, meetT_comm]
theorem meetV_comm (f1 t1 f2 t2 : ByteArray) : meetV f2 t2 f1 t1 = meetV f1 t1 f2 t2 := by
  unfold meetV; rw [meetE_comm, kmax_comm f2, meetT_comm t2]
theorem klt_kmax (k a b : ByteArray) : klt k (kmax a b) = (klt k a || klt k b) := by
  unfold kmax
  cases h : klt a b
  · cases h1 : klt k a <;> cases h2 : klt k b <;> simp [h1, h2]
    have := klt_of_lt_le h2 h; rw [h1] at this; cases this
  · cases h1 : klt k a <;> cases h2 : klt k b <;> simp [h1, h2]
    have := klt_trans h1 h; rw [h2] at this; cases this
def ltEnd (k t : ByteArray) : Bool := t.toList.isEmpty || klt k t
theorem ltEnd_meet (k a b : ByteArray) : ltEnd k (meetT a b) = (ltEnd k a && ltEnd k b) := by
  unfold meetT ltEnd
  cases ha : a.toList.isEmpty <;> cases hb : b.toList.isEmpty <;> cases h : klt b a <;> simp [ha, hb]
  · cases h1 : klt k a <;> cases h2 : klt k b <;> simp [h1, h2]
    have := klt_of_lt_le h1 h; rw [h2] at this; cases this
  · cases h1 : klt k a <;> cases h2 : klt k b <;> simp [h1, h2]
    have := klt_trans h2 h; rw [h1] at this; cases this
theorem has_meet (f1 t1 f2 t2 k : ByteArray) : sHas (kmax f1 f2) (meetT t1 t2) k = (sHas f1 t1 k && sHas f2 t2 k) := by
  have h := ltEnd_meet k t1 t2
  unfold ltEnd at h
  unfold sHas
  rw [klt_kmax, h]
  cases klt k f1 <;> cases klt k f2 <;> simp
theorem emp_has {f t : ByteArray} (h : sEmp f t = true) (k : ByteArray) : sHas f t k = false := by
  unfold sEmp at h
  unfold sHas
  cases ht : t.toList.isEmpty
  · rw [ht] at h
    simp at h ⊢
    intro hk
    rcases h with h | h
    · cases h2 : klt k t
      · rfl
      · have := klt_trans h2 h; rw [hk] at this; cases this
    · rw [toList_inj h, hk]
  · rw [ht] at h; simp at h
/-- Not both have it where they do not meet. -/
theorem meet_none {f1 t1 f2 t2 : ByteArray} (h : meetE f1 t1 f2 t2 = true) (k : ByteArray) : (sHas f1 t1 k && sHas f2 t2 k) = false := by
  rw [← has_meet]; exact emp_has h k

theorem lt_app : ∀ (a b : List UInt8), b ≠ [] → a < a ++ b
  | [], [], h => absurd rfl h
  | [], x :: b, _ => by simp
  | x :: a, b, h => by
    rw [List.cons_append, List.cons_lt_cons_iff]
    exact .inr ⟨rfl, lt_app a b h⟩
def k0 (k : ByteArray) : ByteArray := k ++ ⟨#[0]⟩
theorem k0_list (k : ByteArray) : (k0 k).toList = k.toList ++ [0] := by
  unfold k0
  rw [Lib.toList_data, Lib.toList_data, ByteArray.data_append, Array.toList_append]
theorem klt_k0 (k : ByteArray) : klt k (k0 k) = true := by
  rw [klt_iff, k0_list]; exact lt_app _ _ (by simp)
theorem one_has (k : ByteArray) : sHas k (k0 k) k = true := by
  unfold sHas; rw [klt_irrefl, klt_k0]; simp
theorem one_next (k : ByteArray) : sHas k (k0 k) (k0 k) = false := by
  unfold sHas; rw [klt_irrefl, k0_list]; simp
theorem one_full (k : ByteArray) : sEmp k (k0 k) = false := by
  have h := klt_asymm (klt_k0 k)
  have h2 : (k0 k).toList ≠ k.toList := by rw [k0_list]; simp
  unfold sEmp; rw [h]; simp; intro _ e; exact h2 e
theorem one_pre {k p : ByteArray} (h : klt p k = true) : sHas k (k0 k) p = false := by
  unfold sHas; rw [h]; rfl
theorem pre_lt (k : ByteArray) (h : 0 < k.size) : klt (k.extract 0 (k.size - 1)) k = true := by
  rw [klt_iff]
  have e : (k.extract 0 (k.size - 1)).toList = k.toList.take (k.size - 1) := by
    rw [Lib.toList_data, Lib.toList_data, ByteArray.data_extract]
    rw [Array.toList_extract, List.extract_eq_take_drop]
    simp only [List.drop_zero, Nat.sub_zero]
  rw [e]
  have hl : k.toList.length = k.size := by rw [Lib.toList_data]; exact rfl
  have := lt_app (k.toList.take (k.size - 1)) (k.toList.drop (k.size - 1)) (by
    intro e
    have := congrArg List.length e
    simp at this
    omega)
  rwa [List.take_append_drop] at this
end Go.Proofs.Ytlpdihcgdgkkbaa
