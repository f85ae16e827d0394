/- Plain law: a read at a stamp never sees what is written later, nor misses what was swept away. -/
import Derived.Test.YtgikaglmeeeplaaIq
import Derived.Test.YtgikaglmeeeplaaIr
import Derived.Test.YtgikaglmeeeplaaIk
namespace Go.Proofs.Ytgikaglmeeeplaa
open Go.RowKit Go.St
set_option linter.unusedVariables false
set_option linter.unusedSimpArgs false

def Srt (l : List Cel) : Prop := l.Pairwise (fun a b => ltC a b = true)
theorem srt_of {l : List Cel} (h : risC l) : Srt l := by
  rw [Srt, List.pairwise_iff_getElem]
  intro i j hi hj hij
  exact risC_le h hij (List.getElem?_eq_getElem hi) (List.getElem?_eq_getElem hj)
theorem ris_of {l : List Cel} (h : Srt l) : risC l := fun j a b ha hb => by
  obtain ⟨hj, rfl⟩ := List.getElem?_eq_some_iff.1 ha
  obtain ⟨hj', rfl⟩ := List.getElem?_eq_some_iff.1 hb
  rw [Srt, List.pairwise_iff_getElem] at h
  exact h j (j + 1) hj hj' (by omega)
theorem ltC_irr (a : Cel) : ltC a a = false := by
  unfold ltC
  rw [klt_irr, less_irrefl]
  simp
/-- The cells that stay where those that no read sees are taken away. -/
def keepA (thr : Stp) : ByteArray → List Cel → List Cel
  | _, [] => []
  | k, c :: r => if le c.at_ thr = true then (if c.key = k ∨ c.del = true then [] else [c]) ++ keepA thr c.key r else c :: keepA thr k r
theorem keepA_yes {thr : Stp} {k : ByteArray} {c : Cel} {r : List Cel} (h : le c.at_ thr = true) : keepA thr k (c :: r) = (if c.key = k ∨ c.del = true then [] else [c]) ++ keepA thr c.key r := by rw [keepA, if_pos h]
theorem keepA_no {thr : Stp} {k : ByteArray} {c : Cel} {r : List Cel} (h : ¬ le c.at_ thr = true) : keepA thr k (c :: r) = c :: keepA thr k r := by rw [keepA, if_neg h]
theorem keepA_sub (thr : Stp) : ∀ (l : List Cel) (k : ByteArray), (keepA thr k l).Sublist l
  | [], _ => List.Sublist.refl _
  | c :: r, k => by
    by_cases h : le c.at_ thr = true
    · rw [keepA_yes h]
      by_cases q : c.key = k ∨ c.del = true
      · rw [if_pos q]
        exact (keepA_sub thr r c.key).cons c
      · rw [if_neg q]
        exact (keepA_sub thr r c.key).cons_cons c
    · rw [keepA_no h]
      exact (keepA_sub thr r k).cons_cons c
theorem goneA_sub (thr : Stp) : ∀ (l : List Cel) (k : ByteArray), (goneA thr k l).Sublist l
  | [], _ => List.Sublist.refl _
  | c :: r, k => by
    by_cases h : le c.at_ thr = true
    · rw [goneA_yes h]
      by_cases q : c.key = k ∨ c.del = true
      · rw [if_pos q]
        exact (goneA_sub thr r c.key).cons_cons c
      · rw [if_neg q]
        exact (goneA_sub thr r c.key).cons c
    · rw [goneA_no h]
      exact (goneA_sub thr r k).cons c
theorem gone_le (thr : Stp) : ∀ (l : List Cel) (k : ByteArray) (g : Cel), g ∈ goneA thr k l → le g.at_ thr = true
  | [], _, g, h => by simp [goneA] at h
  | c :: r, k, g, h => by
    by_cases q : le c.at_ thr = true
    · rw [goneA_yes q, List.mem_append] at h
      rcases h with h | h
      · by_cases p : c.key = k ∨ c.del = true
        · rw [if_pos p] at h
          have e : g = c := by simpa using h
          rw [e]
          exact q
        · rw [if_neg p] at h
          simp at h
      · exact gone_le thr r c.key g h
    · rw [goneA_no q] at h
      exact gone_le thr r k g h
/-- Cells without some, one by one. -/
def withoutM : List Cel → List Cel → List Cel
  | [], _ => []
  | c :: r, [] => c :: withoutM r []
  | c :: r, g :: gs => if c = g then withoutM r gs else c :: withoutM r (g :: gs)
theorem withoutM_nil : ∀ (l : List Cel), withoutM l [] = l
  | [] => rfl
  | c :: r => by rw [withoutM, withoutM_nil r]
theorem without_ne {c : Cel} {r gs : List Cel} (h : ∀ g ∈ gs, g ≠ c) : withoutM (c :: r) gs = c :: withoutM r gs := by
  cases gs with
  | nil => rfl
  | cons g gs => rw [withoutM, if_neg (fun e => h g (by simp) e.symm)]
theorem without_keep (thr : Stp) : ∀ (l : List Cel) (k : ByteArray), Srt l → withoutM l (goneA thr k l) = keepA thr k l
  | [], _, _ => rfl
  | c :: r, k, h => by
    have hr := (List.pairwise_cons.1 h).2
    have hc : ∀ g ∈ r, g ≠ c := fun g hg e => by
      have := (List.pairwise_cons.1 h).1 g hg
      rw [e, ltC_irr] at this
      cases this
    by_cases q : le c.at_ thr = true
    · rw [goneA_yes q, keepA_yes q]
      by_cases p : c.key = k ∨ c.del = true
      · rw [if_pos p, if_pos p]
        show withoutM (c :: r) (c :: goneA thr c.key r) = _
        rw [withoutM, if_pos rfl]
        exact without_keep thr r c.key hr
      · rw [if_neg p, if_neg p]
        show withoutM (c :: r) (goneA thr c.key r) = c :: keepA thr c.key r
        rw [without_ne (fun g hg => hc g ((goneA_sub thr r c.key).subset hg)), without_keep thr r c.key hr]
    · rw [goneA_no q, keepA_no q, without_ne (fun g hg => hc g ((goneA_sub thr r k).subset hg)), without_keep thr r k hr]
/-- A key is not above all keys of a list. -/
def kle (a b : ByteArray) : Prop := a = b ∨ klt a b = true
theorem kle_tr {a b c : ByteArray} (h : kle a b) (k : kle b c) : kle a c := by
  rcases h with rfl | h
  · exact k
  · rcases k with rfl | k
    · exact .inr h
    · exact .inr (klt_tr h k)
theorem kle_zE (k : ByteArray) : kle zE k := by
  cases h : klt zE k
  · refine .inl (klt_tri h ?_)
    unfold klt
    rw [bytesLess_eq]
    refine decide_eq_false ?_
    rw [show zE.toList = [] by rw [Lib.toList_data]; rfl]
    exact List.not_lt_nil _
  · exact .inr h
theorem rows_keep (at_ : Stp) : ∀ (l : List Cel) (K K' : ByteArray), Srt l → (∀ c ∈ l, kle K c.key) → kle K' K → rowsA at_ K' (keepA at_ K l) = rowsA at_ K l
  | [], _, _, _, _, _ => rfl
  | c :: r, K, K', h, hK, hK' => by
    have hr := (List.pairwise_cons.1 h).2
    have hc := (List.pairwise_cons.1 h).1
    have hrc : ∀ d ∈ r, kle c.key d.key := fun d hd => by
      rcases ltC_key (hc d hd) with q | q
      · exact .inr q
      · exact .inl q.1
    by_cases q : le c.at_ at_ = true
    · rw [keepA_yes q]
      by_cases e : c.key = K
      · rw [if_pos (.inl e), rowsA_no (fun x => x.1 e), e]
        exact rows_keep at_ r K K' hr (fun d hd => hK d (by simp [hd])) hK'
      · have hlt : klt K c.key = true := by
          rcases hK c (by simp) with x | x
          · exact absurd x.symm e
          · exact x
        rw [rowsA_yes ⟨e, q⟩]
        cases d : c.del
        · rw [if_neg (by simp [e])]
          have hne : c.key ≠ K' := fun x => by
            rcases hK' with y | y
            · exact e (x.trans y)
            · have := klt_tr y hlt
              rw [x, klt_irr] at this
              cases this
          show rowsA at_ K' (c :: keepA at_ c.key r) = _
          rw [rowsA_yes ⟨hne, q⟩, d, rows_keep at_ r c.key c.key hr hrc (.inl rfl)]
        · rw [if_pos (.inr rfl)]
          show rowsA at_ K' (keepA at_ c.key r) = _
          rw [rows_keep at_ r c.key K' hr hrc (kle_tr hK' (.inr hlt))]
          rfl
    · rw [keepA_no q, rowsA_no (fun x => q x.2), rowsA_no (fun x => q x.2)]
      exact rows_keep at_ r K K' hr (fun d hd => hK d (by simp [hd])) hK'
theorem le_trans' {a b c : Stp} (h : le a b = true) (k : le b c = true) : le a c = true := by
  unfold le at *
  rw [Bool.not_eq_true'] at *
  exact le_tr h k
theorem rows_upto {at_ to' : Stp} (ht : le at_ to' = true) : ∀ (l : List Cel) (K : ByteArray), rowsA at_ K (l.filter (fun c => le c.at_ to')) = rowsA at_ K l
  | [], _ => rfl
  | c :: r, K => by
    by_cases q : le c.at_ to' = true
    · rw [List.filter_cons_of_pos (by simpa using q)]
      by_cases e : c.key ≠ K ∧ le c.at_ at_ = true
      · rw [rowsA_yes e, rowsA_yes e, rows_upto ht r]
      · rw [rowsA_no e, rowsA_no e, rows_upto ht r]
    · rw [List.filter_cons_of_neg (by simpa using q), rowsA_no (fun x => q (le_trans' x.2 ht))]
      exact rows_upto ht r K
theorem btw_keep (fr to' : Stp) : ∀ (l : List Cel) (K : ByteArray), (keepA fr K l).filter (btw fr to') = l.filter (btw fr to')
  | [], _ => rfl
  | c :: r, K => by
    by_cases q : le c.at_ fr = true
    · have hb : btw fr to' c = false := by
        unfold btw
        unfold le at q
        rw [Bool.not_eq_true'] at q
        rw [q]
        rfl
      rw [keepA_yes q, List.filter_cons_of_neg (by simp [hb]), List.filter_append, btw_keep fr to' r]
      by_cases p : c.key = K ∨ c.del = true
      · rw [if_pos p]; rfl
      · rw [if_neg p]
        simp [hb]
    · rw [keepA_no q, List.filter_cons, List.filter_cons, btw_keep fr to' r]
theorem btw_upto (fr to' : Stp) (l : List Cel) : (l.filter (fun c => le c.at_ to')).filter (btw fr to') = l.filter (btw fr to') := by
  rw [List.filter_filter]
  congr 1
  funext c
  unfold btw
  cases le c.at_ to' <;> simp
theorem okCI_sub {cs cs' : List Cel} {is : List Itt} (h : okCI cs is) (hs : cs'.Sublist cs) : okCI cs' is :=
  ⟨fun c hc => h.1 c (hs.subset hc), h.2.1, ris_of ((srt_of h.2.2.1).sublist hs), h.2.2.2⟩
theorem okCI_nil {cs : List Cel} {is : List Itt} (h : okCI cs is) : okCI cs [] := ⟨h.1, fun i hi => by simp at hi, h.2.2.1, fun j a b ha => by simp at ha⟩
theorem scanE_ok {cs : List Cel} {is : List Itt} {s t : Stp} (h : okCI cs is) (hs : okS s = true) (ht : okS t = true) (hl : less t s = false) : scanE cs is s t = 0 := by
  unfold scanE
  rw [if_pos (chkdE_ok.2 ⟨h, fun x hx => by
    simp only [List.mem_cons, List.not_mem_nil, or_false] at hx
    rcases hx with rfl | rfl
    · exact hs
    · exact ht⟩), hl]
  rfl
/-- Lists of cells that say the same at a stamp, up to a limit. -/
theorem scan_same {cs cs' : List Cel} {is : List Itt} {s t : Stp} {b : Int × Int} {kn : List (Int × Int)} (h : scanE cs is s t = 0) (h' : scanE cs' is s t = 0) (hb : cs'.filter (btw s t) = cs.filter (btw s t)) (hr : rowsL cs' s = rowsL cs s) : scanM cs' is s t b kn = scanM cs is s t b kn := by
  unfold scanM
  rw [h, h', hb, hr]
  unfold late
  rw [hb]
theorem scan_upto {cs : List Cel} {is : List Itt} {s t : Stp} (b : Int × Int) (kn : List (Int × Int)) (h : okCI cs is) (hs : okS s = true) (ht : okS t = true) (hl : less t s = false) :
    scanE (cs.filter (fun c => le c.at_ t)) is s t = 0 ∧ scanM (cs.filter (fun c => le c.at_ t)) is s t b kn = scanM cs is s t b kn := by
  have h' := scanE_ok (okCI_sub h (List.filter_sublist (p := fun c => le c.at_ t))) hs ht hl
  refine ⟨h', scan_same (scanE_ok h hs ht hl) h' (btw_upto s t cs) (rows_upto ?_ cs zE)⟩
  unfold le
  rw [hl]
  rfl
theorem scan_keep {cs : List Cel} {is : List Itt} {s t : Stp} (b : Int × Int) (kn : List (Int × Int)) (h : okCI cs is) (hs : okS s = true) (ht : okS t = true) (hl : less t s = false) :
    scanE (withoutM cs (goneL cs s)) is s t = 0 ∧ scanM (withoutM cs (goneL cs s)) is s t b kn = scanM cs is s t b kn := by
  have hsr := srt_of h.2.2.1
  unfold goneL
  rw [without_keep s cs zE hsr]
  have h' := scanE_ok (okCI_sub h (keepA_sub s cs zE)) hs ht hl
  exact ⟨h', scan_same (scanE_ok h hs ht hl) h' (btw_keep s t cs zE) (rows_keep s cs zE zE hsr (fun c _ => kle_zE _) (.inl rfl))⟩
theorem rows_none {s t : Stp} (hl : le s t = true) : ∀ (l : List Cel) (K : ByteArray), (∀ c ∈ l, btw s t c = false) → rowsA t K l = rowsA s K l
  | [], _, _ => rfl
  | c :: r, K, h => by
    have h0 := h c (by simp)
    have hr := fun d hd => h d (List.mem_cons_of_mem _ hd)
    have he : le c.at_ t = le c.at_ s := by
      cases q : le c.at_ s
      · unfold le at q
        rw [Bool.not_eq_false'] at q
        unfold btw at h0
        rw [q] at h0
        simpa using h0
      · exact le_trans' q hl
    by_cases e : c.key ≠ K ∧ le c.at_ s = true
    · rw [rowsA_yes e, rowsA_yes ⟨e.1, by rw [he]; exact e.2⟩, rows_none hl r c.key hr]
    · rw [rowsA_no e, rowsA_no (fun x => e ⟨x.1, by rw [← he]; exact x.2⟩), rows_none hl r K hr]
theorem heed_nil (s t : Stp) (b : Int × Int) (kn : List (Int × Int)) : heed [] s t b kn = [] := rfl
theorem btw_self (s : Stp) (l : List Cel) : l.filter (btw s s) = [] := by
  rw [List.filter_eq_nil_iff]
  intro c _
  unfold btw le
  cases less s c.at_ <;> simp
/-- Where nothing came between two stamps. -/
theorem scan_ref {cs : List Cel} {is : List Itt} {s t : Stp} (b : Int × Int) (kn : List (Int × Int)) (h : okCI cs is) (hs : okS s = true) (ht : okS t = true) (hl : less t s = false) (hr : refM cs is s t b = true) :
    scanM cs is s t b kn = ⟨1, rowsL cs s, [], zeroS⟩ ∧ (scanE cs [] s s = 0 ∧ scanM cs [] s s b [] = ⟨1, rowsL cs s, [], zeroS⟩) ∧ (scanE cs [] t t = 0 ∧ scanM cs [] t t b [] = ⟨1, rowsL cs s, [], zeroS⟩) := by
  have hE := scanE_ok h hs ht hl
  have hn := okCI_nil h
  unfold refM at hr
  rw [if_pos hE] at hr
  unfold refB at hr
  rw [Bool.and_eq_true, Bool.not_eq_true', Bool.not_eq_true', List.any_eq_false, List.any_eq_false] at hr
  obtain ⟨hc, hi⟩ := hr
  have hf : cs.filter (btw s t) = [] := List.filter_eq_nil_iff.2 hc
  have hlt : le s t = true := by unfold le; rw [hl]; rfl
  have hh : heed is s t b kn = [] := by
    unfold heed
    rw [List.filter_eq_nil_iff]
    intro i hx q
    have h1 := hi i hx
    unfold heedF at q
    rw [Bool.and_eq_true, Bool.or_eq_true, Bool.and_eq_true] at q
    refine h1 ?_
    rw [Bool.and_eq_true]
    refine ⟨q.1, ?_⟩
    rcases q.2 with x | x
    · exact le_trans' x hlt
    · exact x.1
  have e1 := scanE_ok hn hs hs (less_irrefl s)
  have e2 := scanE_ok hn ht ht (less_irrefl t)
  refine ⟨?_, ⟨e1, ?_⟩, e2, ?_⟩
  · exact scan_rows hE (by rw [hh]; rfl) (by rw [hf]; rfl)
  · exact scan_rows e1 rfl (by rw [btw_self]; rfl)
  · rw [scan_rows (b := b) (kn := []) e2 rfl (by rw [btw_self]; rfl)]
    unfold rowsL
    rw [rows_none hlt cs zE (fun c hx => by have := hc c hx; simpa using this)]
end Go.Proofs.Ytgikaglmeeeplaa
