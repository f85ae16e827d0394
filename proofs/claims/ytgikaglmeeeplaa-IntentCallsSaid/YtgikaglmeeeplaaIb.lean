/- Walks: whether cells and intents may stand. -/
import Derived.Test.YtgikaglmeeeplaaIa
import Derived.Test.YtgikaglmeeeplaaQTail
namespace Go.Proofs.Ytgikaglmeeeplaa
open Go.RowKit Go.St
set_option linter.unusedVariables false
set_option linter.unusedSimpArgs false
set_option maxRecDepth 100000

theorem klt_irr (a : ByteArray) : klt a a = false := by
  unfold klt; rw [bytesLess_eq]; exact decide_eq_false (List.lt_irrefl _)
theorem klt_tr {a b c : ByteArray} (h : klt a b = true) (k : klt b c = true) : klt a c = true := by
  unfold klt at *
  rw [bytesLess_eq] at *
  rw [decide_eq_true_eq] at *
  exact List.lt_trans h k
theorem klt_tri {a b : ByteArray} (h : klt a b = false) (k : klt b a = false) : a = b := by
  unfold klt at *
  rw [bytesLess_eq] at *
  rw [decide_eq_false_iff_not] at *
  exact toList_inj (List.le_antisymm k h)
theorem nle_t {a b : ByteArray} (h : klt a b = false) : (Op.bytesLess b.toList a.toList || b.toList == a.toList) = true := by
  have h2 := klt_nle a b
  rw [h] at h2
  generalize (Op.bytesLess b.toList a.toList || b.toList == a.toList) = z at *
  cases z
  · cases h2
  · rfl
theorem nle_f {a b : ByteArray} (h : klt a b = true) : (Op.bytesLess b.toList a.toList || b.toList == a.toList) = false := by
  have h2 := klt_nle a b
  rw [h] at h2
  generalize (Op.bytesLess b.toList a.toList || b.toList == a.toList) = z at *
  cases z
  · rfl
  · cases h2
theorem klt_asym {a b : ByteArray} (h : klt a b = true) : klt b a = false := by
  cases k : klt b a
  · rfl
  · have := klt_tr h k
    rw [klt_irr] at this
    cases this

/-- A cell where it lies, in a list that reads. -/
structure CeI (w : World) (b o : Nat) (c : Cel) : Prop where
  c0 : w.cell? ⟨b, o, none⟩ = some (.string c.key)
  c1 : w.cell? ⟨b, o + 1, none⟩ = some (.int .i64 c.at_.wall)
  c2 : w.cell? ⟨b, o + 2, none⟩ = some (.int .i32 c.at_.logic)
  c3 : w.cell? ⟨b, o + 3, none⟩ = some (.int .i32 c.at_.tag)
  c4 : w.cell? ⟨b, o + 4, none⟩ = some (.string c.val)
  c5 : w.cell? ⟨b, o + 5, none⟩ = some (.bool c.del)
structure ItI (w : World) (b o : Nat) (c : Itt) : Prop where
  c0 : w.cell? ⟨b, o, none⟩ = some (.string c.key)
  c1 : w.cell? ⟨b, o + 1, none⟩ = some (.int .i32 c.nd)
  c2 : w.cell? ⟨b, o + 2, none⟩ = some (.int .i32 c.nu)
  c3 : w.cell? ⟨b, o + 3, none⟩ = some (.int .i64 c.bg.wall)
  c4 : w.cell? ⟨b, o + 4, none⟩ = some (.int .i32 c.bg.logic)
  c5 : w.cell? ⟨b, o + 5, none⟩ = some (.int .i32 c.bg.tag)
  c6 : w.cell? ⟨b, o + 6, none⟩ = some (.string c.anc)
  c7 : w.cell? ⟨b, o + 7, none⟩ = some (.int .i64 c.at_.wall)
  c8 : w.cell? ⟨b, o + 8, none⟩ = some (.int .i32 c.at_.logic)
  c9 : w.cell? ⟨b, o + 9, none⟩ = some (.int .i32 c.at_.tag)
  c10 : w.cell? ⟨b, o + 10, none⟩ = some (.string c.val)
  c11 : w.cell? ⟨b, o + 11, none⟩ = some (.bool c.del)
theorem CeI.keep {w w' : World} {b o : Nat} {c : Cel} (h : CeI w b o c) (hk : ∀ p : Addr, p.block = b → w'.cell? p = w.cell? p) : CeI w' b o c :=
  ⟨(hk _ rfl).trans h.c0, (hk _ rfl).trans h.c1, (hk _ rfl).trans h.c2, (hk _ rfl).trans h.c3, (hk _ rfl).trans h.c4, (hk _ rfl).trans h.c5⟩
theorem ItI.keep {w w' : World} {b o : Nat} {c : Itt} (h : ItI w b o c) (hk : ∀ p : Addr, p.block = b → w'.cell? p = w.cell? p) : ItI w' b o c :=
  ⟨(hk _ rfl).trans h.c0, (hk _ rfl).trans h.c1, (hk _ rfl).trans h.c2, (hk _ rfl).trans h.c3, (hk _ rfl).trans h.c4, (hk _ rfl).trans h.c5, (hk _ rfl).trans h.c6, (hk _ rfl).trans h.c7, (hk _ rfl).trans h.c8, (hk _ rfl).trans h.c9, (hk _ rfl).trans h.c10, (hk _ rfl).trans h.c11⟩
theorem CeI.below {B : Nat} {w w' : World} {b o : Nat} {c : Cel} (h : CeI w b o c) (hb : b < B) (h2 : Below B w w') : CeI w' b o c := h.keep fun p hp => h2.cell (by omega)
theorem ItI.below {B : Nat} {w w' : World} {b o : Nat} {c : Itt} (h : ItI w b o c) (hb : b < B) (h2 : Below B w w') : ItI w' b o c := h.keep fun p hp => h2.cell (by omega)
theorem ce_at {w : World} {B : Nat} {A : Option Addr} {l : List Cel} (h : Rd w B A (cev l)) {i : Nat} {c : Cel} (hi : l[i]? = some c) : ∃ b off, A = some ⟨b, off, none⟩ ∧ b < B ∧ CeI w b (off + i * 6) c := by
  have hf := cev_get hi
  obtain ⟨b, off, e, hb, hc⟩ := h (by
    intro e
    have := hf 0 _ rfl
    rw [e] at this
    cases this)
  have hg : ∀ j v, c.c[j]? = some v → w.cell? ⟨b, off + i * 6 + j, none⟩ = some v := fun j v hv => by
    rw [Nat.add_assoc]; exact hc _ _ (hf j v hv)
  exact ⟨b, off, e, hb, hg 0 _ rfl, hg 1 _ rfl, hg 2 _ rfl, hg 3 _ rfl, hg 4 _ rfl, hg 5 _ rfl⟩
theorem it_at {w : World} {B : Nat} {A : Option Addr} {l : List Itt} (h : Rd w B A (itv l)) {i : Nat} {c : Itt} (hi : l[i]? = some c) : ∃ b off, A = some ⟨b, off, none⟩ ∧ b < B ∧ ItI w b (off + i * 12) c := by
  have hf := itv_get hi
  obtain ⟨b, off, e, hb, hc⟩ := h (by
    intro e
    have := hf 0 _ rfl
    rw [e] at this
    cases this)
  have hg : ∀ j v, c.c[j]? = some v → w.cell? ⟨b, off + i * 12 + j, none⟩ = some v := fun j v hv => by
    rw [Nat.add_assoc]; exact hc _ _ (hf j v hv)
  exact ⟨b, off, e, hb, hg 0 _ rfl, hg 1 _ rfl, hg 2 _ rfl, hg 3 _ rfl, hg 4 _ rfl, hg 5 _ rfl, hg 6 _ rfl, hg 7 _ rfl, hg 8 _ rfl, hg 9 _ rfl, hg 10 _ rfl, hg 11 _ rfl⟩

/-- The first so many are in order. -/
def risTo {α : Type} (lt : α → α → Bool) (l : List α) (i : Nat) : Prop := ∀ j a b, j + 1 < i → l[j]? = some a → l[j + 1]? = some b → lt a b = true
theorem risTo_succ {α : Type} {lt : α → α → Bool} {l : List α} {i : Nat} {a b : α} (h : risTo lt l (i + 1)) (ha : l[i]? = some a) (hb : l[i + 1]? = some b) (k : lt a b = true) : risTo lt l (i + 1 + 1) := fun j x y hj hx hy => by
  rcases Nat.lt_or_ge (j + 1) (i + 1) with h1 | h1
  · exact h j x y h1 hx hy
  · have e : j = i := by omega
    subst e
    rw [ha] at hx
    rw [hb] at hy
    injection hx with hx
    injection hy with hy
    rw [← hx, ← hy]
    exact k
theorem risTo_all {α : Type} {lt : α → α → Bool} {l : List α} {i : Nat} (h : risTo lt l i) (hi : l.length ≤ i) : ∀ j a b, l[j]? = some a → l[j + 1]? = some b → lt a b = true := fun j a b ha hb => h j a b (by have := (List.getElem?_eq_some_iff.1 hb).1; omega) ha hb
def allTo {α : Type} (ok : α → Bool) (l : List α) (i : Nat) : Prop := ∀ j a, j < i → l[j]? = some a → ok a = true
theorem allTo_succ {α : Type} {ok : α → Bool} {l : List α} {i : Nat} {a : α} (h : allTo ok l i) (ha : l[i]? = some a) (k : ok a = true) : allTo ok l (i + 1) := fun j x hj hx => by
  rcases Nat.lt_or_ge j i with h1 | h1
  · exact h j x h1 hx
  · have e : j = i := by omega
    subst e
    rw [ha] at hx
    injection hx with hx
    rw [← hx]
    exact k
theorem allTo_all {α : Type} {ok : α → Bool} {l : List α} {i : Nat} (h : allTo ok l i) (hi : l.length ≤ i) : ∀ a ∈ l, ok a = true := fun a ha => by
  obtain ⟨j, hj, rfl⟩ := List.getElem_of_mem ha
  exact h j _ (by omega) (List.getElem?_eq_getElem hj)

set_option maxHeartbeats 6400000 in
theorem check24_any (A : Option Addr) (n c : Nat) (cs : List Cel) (hl : cs.length = n) (hn : n ≤ 140737488351232) (A2 : Option Addr) (m c2 : Nat) (is : List Itt) (hl2 : is.length = m) (hm : m ≤ 140737488351232) (B : Nat) (w : World) (hr : Rd w B A (cev cs)) (hr2 : Rd w B A2 (itv is)) (hB : B ≤ w.heap.size) :
    Calls Try.prog 9 #[.slice A n c, .slice A2 m c2] w fun e w' => e = .returned (.int .i64 (chkCI cs is)) ∧ Below w.heap.size w w' := by
  have HL := Lib.hid hl
  have HR := Lib.hid hr
  have HL2 := Lib.hid hl2
  have HR2 := Lib.hid hr2
  clear hl hr hl2 hr2
  obtain ⟨E, hE⟩ : ∃ E, E = chkCI cs is := ⟨_, rfl⟩
  rw [← hE]
  have HE := Lib.hid hE
  clear hE
  go_enter Try.func9, Try.ntmps9
  go_wp2_with fail
  go_loopw [17] (fun s17 wr => ∃ i : Nat, s17 = .int .i64 (i : Int) ∧ i ≤ n ∧ Hid (allTo okC cs i) ∧ Hid (Below w.heap.size w wr)) (fun s17 _ => n - (intOf s17).toNat)
  case atStart => exact ⟨0, rfl, Nat.zero_le _, Lib.hid (fun j a h => by omega), Lib.hid (Below.refl _ _)⟩
  case round =>
    obtain ⟨i, rfl, hi, hU, hB1⟩ := hrel
    obtain ⟨w2, rfl⟩ : ∃ x, x = wr := ⟨_, rfl⟩
    by_cases hlt : i < n
    · obtain ⟨x, hx⟩ : ∃ x, cs[i]? = some x := ⟨_, List.getElem?_eq_getElem (by rw [HL.out]; exact hlt)⟩
      obtain ⟨b, off, rfl, hb, hce⟩ := ce_at HR.out hx
      have hce2 := hce.below (Nat.lt_of_lt_of_le hb hB) hB1.out
      obtain ⟨d0, d1, d2, d3, d4, d5⟩ := hce2
      have HX := Lib.hid hx
      have i1 : (i : Int) < (n : Int) := by omega
      clear hce hx
      go_wp2_with fail
      refine (pcell_any x _).mono ?_
      rintro e w3 ⟨rfl, hb3⟩
      have B3 : Hid (Below w.heap.size w w3) := Lib.hid ((hB1.out.alloc hB1.out.size _).trans (hb3.mono (by have := hB1.out.size; simp; omega)))
      clear hb3 d0 d1 d2 d3 d4 d5 hB1
      by_cases hok : okC x = true
      · have e0 : chkC x = 0 := by unfold chkC; rw [if_pos hok]
        rw [e0]
        have HU := Lib.hid (allTo_succ hU.out HX.out hok)
        clear e0 hok
        go_wp2_with fail
        go_roundw
        case rel => exact ⟨i + 1, by go_num, by omega, HU, B3⟩
        case measure => simp [intOf]; omega
      · have e0 : chkC x = 2 := by unfold chkC; rw [if_neg hok]
        rw [e0]
        have e1 : E = 2 := by rw [HE.out]; exact chkCI_two (fun h => hok (h.1 x (List.mem_of_getElem? HX.out)))
        have HE1 := Lib.hid e1
        clear e0 e1 hok
        go_wp2_with fail
        go_ret
        exact ⟨ret_int HE1.out.symm, B3.out⟩
    · have i1 : ¬ (i : Int) < (n : Int) := by omega
      have HC1 := Lib.hid (allTo_all hU.out (by rw [HL.out]; omega))
      clear hU hlt
      go_wp2_with fail
      go_loopw [29] (fun s29 wr => ∃ k : Nat, s29 = .int .i64 (k : Int) ∧ k ≤ m ∧ Hid (allTo okI is k) ∧ Hid (Below w.heap.size w wr)) (fun s29 _ => m - (intOf s29).toNat)
      case atStart => exact ⟨0, rfl, Nat.zero_le _, Lib.hid (fun j a h => by omega), hB1⟩
      case round =>
        obtain ⟨k, rfl, hk, hU2, hB4⟩ := hrel
        clear hB1
        obtain ⟨w5, rfl⟩ : ∃ x, x = wr := ⟨_, rfl⟩
        by_cases hlt2 : k < m
        · obtain ⟨x, hx⟩ : ∃ x, is[k]? = some x := ⟨_, List.getElem?_eq_getElem (by rw [HL2.out]; exact hlt2)⟩
          obtain ⟨b, off, rfl, hb, hce⟩ := it_at HR2.out hx
          have hce2 := hce.below (Nat.lt_of_lt_of_le hb hB) hB4.out
          obtain ⟨d0, d1, d2, d3, d4, d5, d6, d7, d8, d9, d10, d11⟩ := hce2
          have HX := Lib.hid hx
          have k1 : (k : Int) < (m : Int) := by omega
          clear hce hx
          go_wp2_with fail
          refine (pitt_any x _).mono ?_
          rintro e w3 ⟨rfl, hb3⟩
          have B3 : Hid (Below w.heap.size w w3) := Lib.hid ((hB4.out.alloc hB4.out.size _).trans (hb3.mono (by have := hB4.out.size; simp; omega)))
          clear hb3 d0 d1 d2 d3 d4 d5 d6 d7 d8 d9 d10 d11 hB4
          by_cases hok : okI x = true
          · have e0 : chkI x = 0 := by unfold chkI; rw [if_pos hok]
            rw [e0]
            have HU := Lib.hid (allTo_succ hU2.out HX.out hok)
            clear e0 hok
            go_wp2_with fail
            go_roundw
            case rel => exact ⟨k + 1, by go_num, by omega, HU, B3⟩
            case measure => simp [intOf]; omega
          · have e0 : chkI x = 2 := by unfold chkI; rw [if_neg hok]
            rw [e0]
            have e1 : E = 2 := by rw [HE.out]; exact chkCI_two (fun h => hok (h.2 x (List.mem_of_getElem? HX.out)))
            have HE1 := Lib.hid e1
            clear e0 e1 hok
            go_wp2_with fail
            go_ret
            exact ⟨ret_int HE1.out.symm, B3.out⟩
        · have k1 : ¬ (k : Int) < (m : Int) := by omega
          have HC2 := Lib.hid (allTo_all hU2.out (by rw [HL2.out]; omega))
          clear hU2 hlt2
          go_wp2_with fail
          go_loopw [11] (fun s11 wr => ∃ i : Nat, s11 = .int .i64 ((i + 1 : Nat) : Int) ∧ i ≤ n ∧ Hid (risTo ltC cs (i + 1)) ∧ Hid (Below w.heap.size w wr)) (fun s11 _ => n - (intOf s11).toNat)
          case atStart => exact ⟨0, rfl, Nat.zero_le _, Lib.hid (fun j a b h => by omega), hB4⟩
          case round =>
            obtain ⟨j, rfl, hj, hU3, hB6⟩ := hrel
            clear hB4
            obtain ⟨w7, rfl⟩ : ∃ x, x = wr := ⟨_, rfl⟩
            by_cases hlt3 : j + 1 < n
            · obtain ⟨x, hx⟩ : ∃ x, cs[j]? = some x := ⟨_, List.getElem?_eq_getElem (by rw [HL.out]; omega)⟩
              obtain ⟨y, hy⟩ : ∃ y, cs[j + 1]? = some y := ⟨_, List.getElem?_eq_getElem (by rw [HL.out]; omega)⟩
              obtain ⟨b, off, rfl, hb, hce⟩ := ce_at HR.out hx
              obtain ⟨b', off', eA, hb', hce'⟩ := ce_at HR.out hy
              injection eA with eA
              injection eA with eb eo
              subst eb eo
              obtain ⟨d0, d1, d2, d3, d4, d5⟩ := hce.below (Nat.lt_of_lt_of_le hb hB) hB6.out
              obtain ⟨f0, f1, f2, f3, f4, f5⟩ := hce'.below (Nat.lt_of_lt_of_le hb hB) hB6.out
              have HX := Lib.hid hx
              have HY := Lib.hid hy
              have j1 : ((j + 1 : Nat) : Int) < (n : Int) := by omega
              have j2 : ((j + 1 : Nat) : Int) - 1 = (j : Int) := by omega
              have j3 : (j : Int) < (n : Int) := by omega
              have j4 : IntKind.i64.wrap (j : Int) = (j : Int) := IntWalk.i64_in _ (by omega)
              have hb7 : b < w7.heap.size := by have := hB6.out.size; omega
              clear hce hce' hx hy hb'
              have B9 : Hid (∀ o o2 w8, Below ((w7.alloc o).alloc o2).drew.heap.size ((w7.alloc o).alloc o2).drew w8 → Below w.heap.size w w8) := Lib.hid (fun o o2 w8 h => (Below.drew ((hB6.out.alloc hB6.out.size _).alloc (by have := hB6.out.size; simp; omega) _)).trans (h.mono (by have := hB6.out.size; simp; omega)))
              have B8 : Hid (∀ o o2, Below w.heap.size w ((w7.alloc o).alloc o2).drew) := Lib.hid (fun o o2 => Below.drew ((hB6.out.alloc hB6.out.size _).alloc (by have := hB6.out.size; simp; omega) _))
              cases q1 : klt y.key x.key
              · have e1 : Op.bytesLess y.key.toList x.key.toList = false := q1
                by_cases q2 : x.key = y.key
                · have e2 : (x.key.toList == y.key.toList) = true := by rw [str_eq, decide_eq_true q2]
                  have Q2 := Lib.hid q2
                  have e3 : Op.bytesLess x.key.toList y.key.toList = false := by rw [q2]; exact klt_irr _
                  clear q1 q2 hB6
                  go_wp2_with fail
                  go_region
                  all_goals
                    go_wp2_with fail
                    refine (hcompare_any x.at_ y.at_ _).mono ?_
                    rintro e w8 ⟨rfl, hb8⟩
                    have B10 := Lib.hid (B9.out _ _ _ hb8)
                    clear hb8 d0 d1 d2 d3 d4 d5 f0 f1 f2 f3 f4 f5 hb7
                    by_cases q3 : cmpS x.at_ y.at_ ≤ 0
                    · have Q3 := Lib.hid q3
                      have hno : E = 10 := by
                        rw [HE.out]
                        refine chkCI_ten ⟨HC1.out, HC2.out⟩ (fun h => ?_)
                        have h1 := h.1 j x y HX.out HY.out
                        unfold ltC at h1
                        rw [Q2.out, klt_irr, Bool.false_or, Bool.and_eq_true] at h1
                        have h2 := cmp_gt h1.2
                        have h3 := Q3.out
                        omega
                      have HN := Lib.hid hno
                      clear hno
                      go_wp2_with fail
                      go_ret
                      exact ⟨ret_int HN.out.symm, B10.out⟩
                    · have hyes : ltC x y = true := by
                        unfold ltC
                        rw [Q2.out, klt_irr, Bool.false_or, decide_eq_true rfl, Bool.true_and]
                        cases q4 : less y.at_ x.at_
                        · cases q5 : less x.at_ y.at_
                          · rw [less_tri q4 q5, cmp_eq] at q3
                            omega
                          · rw [cmp_lt q5] at q3
                            omega
                        · rfl
                      have HU3 := Lib.hid (risTo_succ hU3.out HX.out HY.out hyes)
                      have q6 : ¬ cmpS x.at_ y.at_ ≤ 0 := q3
                      clear hyes
                      go_wp2_with fail
                      go_roundw
                      case rel => exact ⟨j + 1, by go_num, by omega, HU3, B10⟩
                      case measure => simp [intOf]; omega
                · have e2 : (x.key.toList == y.key.toList) = false := by rw [str_eq, decide_eq_false q2]
                  have hyes : ltC x y = true := by
                    unfold ltC
                    cases q4 : klt x.key y.key
                    · exact absurd (klt_tri q4 q1) q2
                    · rfl
                  have HU3 := Lib.hid (risTo_succ hU3.out HX.out HY.out hyes)
                  have e3 : Op.bytesLess x.key.toList y.key.toList = true := by
                    cases q4 : klt x.key y.key
                    · exact absurd (klt_tri q4 q1) q2
                    · exact q4
                  clear q1 q2 hB6 hyes
                  go_wp2_with fail
                  go_region
                  all_goals
                    go_wp2_with fail
                    go_roundw
                    case rel => exact ⟨j + 1, by go_num, by omega, HU3, Lib.hid (B8.out _ _)⟩
                    case measure => simp [intOf]; omega
              · have e1 : Op.bytesLess y.key.toList x.key.toList = true := q1
                have hno : E = 10 := by
                  rw [HE.out]
                  refine chkCI_ten ⟨HC1.out, HC2.out⟩ (fun h => ?_)
                  have h1 := h.1 j x y HX.out HY.out
                  unfold ltC at h1
                  rw [klt_asym q1, Bool.false_or, Bool.and_eq_true, decide_eq_true_eq] at h1
                  rw [h1.1, klt_irr] at q1
                  cases q1
                have HN := Lib.hid hno
                have e2 : Op.bytesLess x.key.toList y.key.toList = false := klt_asym q1
                have e3 : (x.key.toList == y.key.toList) = false := by
                  rw [str_eq]
                  exact decide_eq_false (fun e => by rw [e, klt_irr] at q1; cases q1)
                clear hno q1 hB6
                go_wp2_with fail
                go_region
                all_goals
                  go_wp2_with fail
                  go_ret
                  exact ⟨ret_int HN.out.symm, B8.out _ _⟩
            · have j1 : ¬ ((j : Int) + 1) < (n : Int) := by omega
              have HC3 : Hid (risC cs) := Lib.hid (risTo_all hU3.out (by rw [HL.out]; omega))
              clear hU3 hlt3
              go_wp2_with fail
              go_loopw [14] (fun s14 wr => ∃ i : Nat, s14 = .int .i64 ((i + 1 : Nat) : Int) ∧ i ≤ m ∧ Hid (risTo ltI is (i + 1)) ∧ Hid (Below w.heap.size w wr)) (fun s14 _ => m - (intOf s14).toNat)
              case atStart => exact ⟨0, rfl, Nat.zero_le _, Lib.hid (fun j a b h => by omega), hB6⟩
              case round =>
                obtain ⟨l, rfl, hl4, hU4, hB7⟩ := hrel
                clear hB6
                obtain ⟨w9, rfl⟩ : ∃ x, x = wr := ⟨_, rfl⟩
                by_cases hlt4 : l + 1 < m
                · obtain ⟨x, hx⟩ : ∃ x, is[l]? = some x := ⟨_, List.getElem?_eq_getElem (by rw [HL2.out]; omega)⟩
                  obtain ⟨y, hy⟩ : ∃ y, is[l + 1]? = some y := ⟨_, List.getElem?_eq_getElem (by rw [HL2.out]; omega)⟩
                  obtain ⟨b, off, rfl, hb, hce⟩ := it_at HR2.out hx
                  obtain ⟨b', off', eA, hb', hce'⟩ := it_at HR2.out hy
                  injection eA with eA
                  injection eA with eb eo
                  subst eb eo
                  have d0 := (hce.below (Nat.lt_of_lt_of_le hb hB) hB7.out).c0
                  have f0 := (hce'.below (Nat.lt_of_lt_of_le hb hB) hB7.out).c0
                  have HX := Lib.hid hx
                  have HY := Lib.hid hy
                  have j1 : ((l + 1 : Nat) : Int) < (m : Int) := by omega
                  have j2 : ((l + 1 : Nat) : Int) - 1 = (l : Int) := by omega
                  have j3 : (l : Int) < (m : Int) := by omega
                  have j4 : IntKind.i64.wrap (l : Int) = (l : Int) := IntWalk.i64_in _ (by omega)
                  have B8 : Hid (Below w.heap.size w w9.drew) := Lib.hid (Below.drew hB7.out)
                  clear hce hce' hx hy hb' hB7
                  cases q1 : klt x.key y.key
                  · have q2 := nle_t q1
                    have e1 : Op.bytesLess x.key.toList y.key.toList = false := q1
                    have hno : E = 10 := by
                      rw [HE.out]
                      refine chkCI_ten ⟨HC1.out, HC2.out⟩ (fun h => ?_)
                      have h1 := h.2 l x y HX.out HY.out
                      unfold ltI at h1
                      rw [q1] at h1
                      cases h1
                    have HN := Lib.hid hno
                    clear hno q1
                    go_wp2_with fail
                    go_region
                    all_goals
                      go_wp2_with fail
                      go_ret
                      exact ⟨ret_int HN.out.symm, B8.out⟩
                  · have q2 := nle_f q1
                    have q3 : Op.bytesLess y.key.toList x.key.toList = false := (Bool.or_eq_false_iff.1 q2).1
                    have q4 : (y.key.toList == x.key.toList) = false := (Bool.or_eq_false_iff.1 q2).2
                    have e1 : Op.bytesLess x.key.toList y.key.toList = true := q1
                    have HU4 := Lib.hid (risTo_succ hU4.out HX.out HY.out q1)
                    clear q1 q2
                    go_wp2_with fail
                    go_region
                    all_goals
                      go_wp2_with fail
                      go_roundw
                      case rel => exact ⟨l + 1, by go_num, by omega, HU4, B8⟩
                      case measure => simp [intOf]; omega
                · have j1 : ¬ ((l : Int) + 1) < (m : Int) := by omega
                  have HC4 : Hid (risI is) := Lib.hid (risTo_all hU4.out (by rw [HL2.out]; omega))
                  have hyes : E = 0 := by rw [HE.out]; exact chkCI_yes ⟨HC1.out, HC2.out⟩ ⟨HC3.out, HC4.out⟩
                  have HY := Lib.hid hyes
                  clear hU4 hlt4 hyes
                  go_wp2_with fail
                  go_ret
                  exact ⟨ret_int HY.out.symm, hB7.out⟩
end Go.Proofs.Ytgikaglmeeeplaa
