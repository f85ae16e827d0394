/- Walks: cells, intents and stamps checked; is a transaction one of some? -/
import Derived.Test.YtgikaglmeeeplaaIb
namespace Go.Proofs.Ytgikaglmeeeplaa
open Go.RowKit Go.St
set_option linter.unusedVariables false
set_option linter.unusedSimpArgs false
set_option maxRecDepth 100000

def spc (s : Stp) : List Value := [.int .i64 s.wall, .int .i32 s.logic, .int .i32 s.tag]
def spv (l : List Stp) : List Value := (l.map spc).flatten
theorem sp_at {w : World} {B : Nat} {A : Option Addr} {l : List Stp} (h : Rd w B A (spv l)) {i : Nat} {s : Stp} (hi : l[i]? = some s) : ∃ b off, A = some ⟨b, off, none⟩ ∧ b < B ∧ w.cell? ⟨b, off + i * 3, none⟩ = some (.int .i64 s.wall) ∧ w.cell? ⟨b, off + i * 3 + 1, none⟩ = some (.int .i32 s.logic) ∧ w.cell? ⟨b, off + i * 3 + 2, none⟩ = some (.int .i32 s.tag) := by
  have hf : ∀ j v, (spc s)[j]? = some v → (spv l)[i * 3 + j]? = some v := fun j v hv => by
    clear h
    induction l generalizing i with
    | nil => simp at hi
    | cons x r ih =>
      cases i with
      | zero =>
        have e : x = s := by simpa using hi
        subst e
        simp only [spv, List.map_cons, List.flatten_cons]
        rw [List.getElem?_append_left (by rw [Nat.zero_mul, Nat.zero_add]; exact (List.getElem?_eq_some_iff.1 hv).1), Nat.zero_mul, Nat.zero_add]
        exact hv
      | succ i =>
        simp only [spv, List.map_cons, List.flatten_cons]
        rw [List.getElem?_append_right (by simp [spc]; omega), show (i + 1) * 3 + j - (spc x).length = i * 3 + j by simp [spc]; omega]
        exact ih (by simpa using hi)
  obtain ⟨b, off, e, hb, hc⟩ := h (by
    intro e
    have := hf 0 _ rfl
    rw [e] at this
    cases this)
  refine ⟨b, off, e, hb, hc _ _ (hf 0 _ rfl), ?_, ?_⟩
  · rw [Nat.add_assoc]; exact hc _ _ (hf 1 _ rfl)
  · rw [Nat.add_assoc]; exact hc _ _ (hf 2 _ rfl)
def chkdE (cs : List Cel) (is : List Itt) (l : List Stp) : Int := if chkCI cs is = 0 then (if l.all okS then 0 else 2) else chkCI cs is
theorem chkdE_ok {cs : List Cel} {is : List Itt} {l : List Stp} : chkdE cs is l = 0 ↔ okCI cs is ∧ ∀ s ∈ l, okS s = true := by
  unfold chkdE
  by_cases h : chkCI cs is = 0
  · rw [if_pos h]
    have h1 := chkCI_ok.1 h
    by_cases k : l.all okS = true
    · rw [if_pos k]
      rw [List.all_eq_true] at k
      exact ⟨fun _ => ⟨h1, k⟩, fun _ => rfl⟩
    · rw [if_neg k]
      rw [List.all_eq_true] at k
      exact ⟨fun e => (by cases e), fun e => absurd e.2 k⟩
  · rw [if_neg h]
    exact ⟨fun e => absurd e h, fun e => absurd (chkCI_ok.2 e.1) h⟩

set_option maxHeartbeats 3200000 in
theorem checked24_any (A : Option Addr) (n c : Nat) (cs : List Cel) (hl : cs.length = n) (hn : n ≤ 140737488351232) (A2 : Option Addr) (m c2 : Nat) (is : List Itt) (hl2 : is.length = m) (hm : m ≤ 140737488351232) (A3 : Option Addr) (q c3 : Nat) (ss : List Stp) (hl3 : ss.length = q) (hq : q ≤ 140737488351232) (B : Nat) (w : World) (hr : Rd w B A (cev cs)) (hr2 : Rd w B A2 (itv is)) (hr3 : Rd w B A3 (spv ss)) (hB : B ≤ w.heap.size) :
    Calls Try.prog 35 #[.slice A n c, .slice A2 m c2, .slice A3 q c3] w fun e w' => e = .returned (.int .i64 (chkdE cs is ss)) ∧ Below w.heap.size w w' := by
  have HC := Lib.hid (check24_any A n c cs hl hn A2 m c2 is hl2 hm B w hr hr2 hB)
  have HL3 := Lib.hid hl3
  have HR3 := Lib.hid hr3
  clear hr hr2 hr3 hl hl2 hl3
  obtain ⟨E, hE⟩ : ∃ E, E = chkdE cs is ss := ⟨_, rfl⟩
  rw [← hE]
  have HE := Lib.hid hE
  clear hE
  by_cases h0 : chkCI cs is = 0
  · have hE1 : E = if ss.all okS then 0 else 2 := by rw [HE.out]; unfold chkdE; rw [if_pos h0]
    have HE1 := Lib.hid hE1
    rw [h0] at HC
    clear hE1 HE h0
    go_enter Try.func35, Try.ntmps35
    go_wp2_with fail
    refine HC.out.mono ?_
    rintro e w1 ⟨rfl, hb1⟩
    have B1 := Lib.hid hb1
    clear hb1 HC
    go_wp2_with fail
    go_loopw [19] (fun s19 wr => ∃ i : Nat, s19 = .int .i64 (i : Int) ∧ i ≤ q ∧ Hid (allTo okS ss i) ∧ Hid (Below w.heap.size w wr)) (fun s19 _ => q - (intOf s19).toNat)
    case atStart => exact ⟨0, rfl, Nat.zero_le _, Lib.hid (fun j a h => by omega), B1⟩
    case round =>
      obtain ⟨i, rfl, hi, hU, hB1⟩ := hrel
      clear B1
      obtain ⟨w2, rfl⟩ : ∃ x, x = wr := ⟨_, rfl⟩
      by_cases hlt : i < q
      · obtain ⟨x, hx⟩ : ∃ x, ss[i]? = some x := ⟨_, List.getElem?_eq_getElem (by rw [HL3.out]; exact hlt)⟩
        obtain ⟨b, off, rfl, hb, d0, d1, d2⟩ := sp_at HR3.out hx
        have e0 := (hB1.out.cell (p := ⟨b, off + i * 3, none⟩) (Nat.lt_of_lt_of_le hb hB)).trans d0
        have e1 := (hB1.out.cell (p := ⟨b, off + i * 3 + 1, none⟩) (Nat.lt_of_lt_of_le hb hB)).trans d1
        have e2 := (hB1.out.cell (p := ⟨b, off + i * 3 + 2, none⟩) (Nat.lt_of_lt_of_le hb hB)).trans d2
        have HX := Lib.hid hx
        have i1 : (i : Int) < (q : Int) := by omega
        clear d0 d1 d2 hx
        go_wp2_with fail
        refine (hcheck_any x _).mono ?_
        rintro e w3 ⟨rfl, hb3⟩
        have B3 : Hid (Below w.heap.size w w3) := Lib.hid ((hB1.out.alloc hB1.out.size _).trans (hb3.mono (by have := hB1.out.size; simp; omega)))
        clear hb3 e0 e1 e2 hB1
        cases hok : okS x
        · rw [chk_no hok]
          have e1 : E = 2 := by rw [HE1.out, if_neg (by rw [List.all_eq_true]; exact fun h => by rw [h x (List.mem_of_getElem? HX.out)] at hok; cases hok)]
          have HE2 := Lib.hid e1
          clear e1 hok
          go_wp2_with fail
          go_ret
          exact ⟨ret_int HE2.out.symm, B3.out⟩
        · rw [chk_ok hok]
          have HU := Lib.hid (allTo_succ hU.out HX.out hok)
          clear hok
          go_wp2_with fail
          go_roundw
          case rel => exact ⟨i + 1, by go_num, by omega, HU, B3⟩
          case measure => simp [intOf]; omega
      · have i1 : ¬ (i : Int) < (q : Int) := by omega
        have e1 : E = 0 := by rw [HE1.out, if_pos (by rw [List.all_eq_true]; exact allTo_all hU.out (by rw [HL3.out]; omega))]
        have HE2 := Lib.hid e1
        clear e1 hU hlt
        go_wp2_with fail
        go_ret
        exact ⟨ret_int HE2.out.symm, hB1.out⟩
  · have hE1 : E = chkCI cs is := by rw [HE.out]; unfold chkdE; rw [if_neg h0]
    rw [← hE1] at HC h0
    have e0 : (E == 0) = false := by simpa using h0
    have e1 : (E != 0) = true := by simpa using h0
    clear hE1 HE h0
    go_enter Try.func35, Try.ntmps35
    go_wp2_with fail
    refine HC.out.mono ?_
    rintro e w1 ⟨rfl, hb1⟩
    have B1 := Lib.hid hb1
    clear hb1 HC
    go_wp2_with fail
    go_ret
    exact ⟨rfl, B1.out⟩

def txv (l : List (Int × Int)) : List Value := (l.map fun p => [Value.int .i32 p.1, .int .i32 p.2]).flatten
theorem tx_at {w : World} {B : Nat} {A : Option Addr} {l : List (Int × Int)} (h : Rd w B A (txv l)) {i : Nat} {s : Int × Int} (hi : l[i]? = some s) : ∃ b off, A = some ⟨b, off, none⟩ ∧ b < B ∧ w.cell? ⟨b, off + i * 2, none⟩ = some (.int .i32 s.1) ∧ w.cell? ⟨b, off + i * 2 + 1, none⟩ = some (.int .i32 s.2) := by
  have hf : ∀ j v, [Value.int .i32 s.1, .int .i32 s.2][j]? = some v → (txv l)[i * 2 + j]? = some v := fun j v hv => by
    clear h
    induction l generalizing i with
    | nil => simp at hi
    | cons x r ih =>
      cases i with
      | zero =>
        have e : x = s := by simpa using hi
        subst e
        simp only [txv, List.map_cons, List.flatten_cons]
        rw [List.getElem?_append_left (by rw [Nat.zero_mul, Nat.zero_add]; exact (List.getElem?_eq_some_iff.1 hv).1), Nat.zero_mul, Nat.zero_add]
        exact hv
      | succ i =>
        simp only [txv, List.map_cons, List.flatten_cons]
        rw [List.getElem?_append_right (by simp; omega), show (i + 1) * 2 + j - [Value.int .i32 x.1, .int .i32 x.2].length = i * 2 + j by simp; omega]
        exact ih (by simpa using hi)
  obtain ⟨b, off, e, hb, hc⟩ := h (by
    intro e
    have := hf 0 _ rfl
    rw [e] at this
    cases this)
  refine ⟨b, off, e, hb, hc _ _ (hf 0 _ rfl), ?_⟩
  rw [Nat.add_assoc]; exact hc _ _ (hf 1 _ rfl)
def notTo (l : List (Int × Int)) (t : Int × Int) (i : Nat) : Prop := ∀ j a, j < i → l[j]? = some a → a ≠ t
theorem notTo_all {l : List (Int × Int)} {t : Int × Int} {i : Nat} (h : notTo l t i) (hi : l.length ≤ i) : ¬ t ∈ l := fun ha => by
  obtain ⟨j, hj, e⟩ := List.getElem_of_mem ha
  exact h j _ (by omega) (List.getElem?_eq_getElem hj) e
theorem notTo_succ {l : List (Int × Int)} {t a : Int × Int} {i : Nat} (h : notTo l t i) (ha : l[i]? = some a) (k : a ≠ t) : notTo l t (i + 1) := fun j x hj hx => by
  rcases Nat.lt_or_ge j i with h1 | h1
  · exact h j x h1 hx
  · have e : j = i := by omega
    subst e
    rw [ha] at hx
    injection hx with hx
    rw [← hx]
    exact k

set_option maxHeartbeats 1600000 in
theorem known_any (A : Option Addr) (n c : Nat) (l : List (Int × Int)) (hl : l.length = n) (hn : n ≤ 140737488351232) (t : Int × Int) (B : Nat) (w : World) (hr : Rd w B A (txv l)) (hB : B ≤ w.heap.size) :
    Calls Try.prog 39 #[.slice A n c, .agg #[.int .i32 t.1, .int .i32 t.2]] w fun e w' => e = .returned (.bool (decide (t ∈ l))) ∧ Below w.heap.size w w' := by
  obtain ⟨t1, t2⟩ := t
  have HL := Lib.hid hl
  have HR := Lib.hid hr
  clear hr hl
  obtain ⟨E, hE⟩ : ∃ E, E = decide ((t1, t2) ∈ l) := ⟨_, rfl⟩
  rw [← hE]
  have HE := Lib.hid hE
  clear hE
  simp only
  go_enter Try.func39, Try.ntmps39
  go_wp2_with fail
  go_loopw [9] (fun s9 wr => ∃ i : Nat, s9 = .int .i64 (i : Int) ∧ i ≤ n ∧ Hid (notTo l (t1, t2) i) ∧ Hid (Below w.heap.size w wr) ∧ w.heap.size < wr.heap.size ∧ wr.cell? ⟨w.heap.size, 0, none⟩ = some (.int .i32 t1) ∧ wr.cell? ⟨w.heap.size, 1, none⟩ = some (.int .i32 t2)) (fun s9 _ => n - (intOf s9).toNat)
  case atStart => exact ⟨0, rfl, Nat.zero_le _, Lib.hid (fun j a h => by omega), Lib.hid ((Below.refl _ _).alloc (Nat.le_refl _) _), by simp, by go_simp, by go_simp⟩
  case round =>
    obtain ⟨i, rfl, hi, hU, hB1, hs, z0, z1⟩ := hrel
    obtain ⟨w2, rfl⟩ : ∃ x, x = wr := ⟨_, rfl⟩
    by_cases hlt : i < n
    · obtain ⟨x, hx⟩ : ∃ x, l[i]? = some x := ⟨_, List.getElem?_eq_getElem (by rw [HL.out]; exact hlt)⟩
      obtain ⟨b, off, rfl, hb, d0, d1⟩ := tx_at HR.out hx
      obtain ⟨x1, x2⟩ := x
      have e0 := (hB1.out.cell (p := ⟨b, off + i * 2, none⟩) (Nat.lt_of_lt_of_le hb hB)).trans d0
      have e1 := (hB1.out.cell (p := ⟨b, off + i * 2 + 1, none⟩) (Nat.lt_of_lt_of_le hb hB)).trans d1
      have HX := Lib.hid hx
      have i1 : (i : Int) < (n : Int) := by omega
      have B3 : Hid (∀ o, Below w.heap.size w (w2.alloc o)) := Lib.hid (fun o => hB1.out.alloc hB1.out.size o)
      simp only at e0 e1
      clear d0 d1 hx hB1
      by_cases q1 : x1 = t1
      · by_cases q2 : x2 = t2
        · have hyes : E = true := by rw [HE.out]; exact decide_eq_true (by rw [← q1, ← q2]; exact List.mem_of_getElem? HX.out)
          have HY := Lib.hid hyes
          have g1 : (x1 == t1) = true := by simpa using q1
          have g2 : (x2 == t2) = true := by simpa using q2
          clear q1 q2 hyes
          go_wp2_with fail
          go_ret
          exact ⟨ret_bool HY.out.symm, B3.out _⟩
        · have HU := Lib.hid (notTo_succ hU.out HX.out (fun e => q2 (congrArg Prod.snd e)))
          have g1 : (x1 == t1) = true := by simpa using q1
          have g2 : (x2 == t2) = false := by simpa using q2
          clear q1 q2
          go_wp2_with fail
          go_roundw
          case rel => exact ⟨i + 1, by go_num, by omega, HU, B3.out _, by simp; omega, by go_simp, by go_simp⟩
          case measure => simp [intOf]; omega
      · have HU := Lib.hid (notTo_succ hU.out HX.out (fun e => q1 (congrArg Prod.fst e)))
        have g1 : (x1 == t1) = false := by simpa using q1
        clear q1
        go_wp2_with fail
        go_roundw
        case rel => exact ⟨i + 1, by go_num, by omega, HU, B3.out _, by simp; omega, by go_simp, by go_simp⟩
        case measure => simp [intOf]; omega
    · have i1 : ¬ (i : Int) < (n : Int) := by omega
      have hyes : E = false := by rw [HE.out]; exact decide_eq_false (notTo_all hU.out (by rw [HL.out]; omega))
      have HY := Lib.hid hyes
      clear hU hyes hlt
      go_wp2_with fail
      go_ret
      exact ⟨ret_bool HY.out.symm, hB1.out⟩
end Go.Proofs.Ytgikaglmeeeplaa
