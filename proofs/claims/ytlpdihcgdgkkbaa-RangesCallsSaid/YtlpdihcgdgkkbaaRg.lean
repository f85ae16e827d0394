/- Walks: a span's parts; two lists of spans compared. -/
import Derived.Test.YtlpdihcgdgkkbaaRf
import Derived.Test.YtlpdihcgdgkkbaaBe
namespace Go.Proofs.Ytlpdihcgdgkkbaa
open Go.RowKit Go.St
set_option linter.unusedVariables false
set_option linter.unusedSimpArgs false
set_option maxRecDepth 100000

/-- Spans as cells. -/
def pv (L : List (ByteArray × ByteArray)) : List Value := L.flatMap fun p => [.string p.1, .string p.2]
theorem pv_append (L M : List (ByteArray × ByteArray)) : pv (L ++ M) = pv L ++ pv M := by simp [pv]
theorem pv_length (L : List (ByteArray × ByteArray)) : (pv L).length = L.length * 2 := by
  induction L with
  | nil => rfl
  | cons x L ih => simp [pv] at *; omega
theorem pv_get1 : ∀ (L : List (ByteArray × ByteArray)) (i : Nat) (h : i < L.length), (pv L)[2 * i]? = some (.string L[i].1)
  | x :: L, 0, _ => rfl
  | x :: L, i + 1, h => by
    have := pv_get1 L i (by simpa using h)
    simpa [pv, Nat.mul_add] using this
theorem pv_get2 : ∀ (L : List (ByteArray × ByteArray)) (i : Nat) (h : i < L.length), (pv L)[2 * i + 1]? = some (.string L[i].2)
  | x :: L, 0, _ => rfl
  | x :: L, i + 1, h => by
    have := pv_get2 L i (by simpa using h)
    simpa [pv, Nat.mul_add] using this
theorem own_rdS {w : World} {base : Nat} {e : TypeId} {v : Value} {n : Nat} {xs : List Value} {s : Nat} (h : w.ownsRow base e s v n xs) (hs : 0 < s) : ∃ A c, v = .slice A n c ∧ Rd w w.heap.size A xs := by
  rcases h.2 with ⟨rfl, rfl⟩ | ⟨g, cap, cur, rfl, _⟩
  · have : xs = [] := List.eq_nil_of_length_eq_zero (by simpa using h.1)
    subst this
    exact ⟨none, 0, rfl, Rd.nil⟩
  · refine ⟨_, cap, rfl, fun hn => ?_⟩
    have hlt := h.lt g rfl
    refine ⟨g, 0, rfl, hlt.2, fun i v hv => ?_⟩
    have := h.cells (g := g) rfl i v hv
    unfold Addr.add at this
    split at this
    · rename_i h0
      subst h0
      exact this
    · simpa using this

/-- The parts of a span in the first so many ranges. -/
def partR (l : List ByteArray) (f t : ByteArray) (i : Nat) : List (ByteArray × ByteArray) := if meetE (frT l i) (toT l i) f t then [] else [(kmax (frT l i) f, meetT (toT l i) t)]
def partsUp (l : List ByteArray) (f t : ByteArray) (j : Nat) : List (ByteArray × ByteArray) := (List.range j).flatMap (partR l f t)
theorem partsUp_succ (l : List ByteArray) (f t : ByteArray) (j : Nat) : partsUp l f t (j + 1) = partsUp l f t j ++ partR l f t j := by
  unfold partsUp; rw [List.range_succ, List.flatMap_append]; simp
theorem partsUp_len (l : List ByteArray) (f t : ByteArray) : ∀ j, (partsUp l f t j).length ≤ j
  | 0 => by simp [partsUp]
  | j + 1 => by
    rw [partsUp_succ, List.length_append]
    have := partsUp_len l f t j
    have h2 : (partR l f t j).length ≤ 1 := by unfold partR; split <;> simp
    omega
def partsN (l : List ByteArray) (f t : ByteArray) : List (ByteArray × ByteArray) := if chk21 l = 0 ∧ sEmp f t = false then partsUp l f t (l.length + 1) else []

theorem sty93 : STy Try.prog 93 67 2 32 (.agg #[.string { data := #[] }, .string { data := #[] }]) := ⟨Try.underlying93, ⟨_, rfl, by kernel_rfl, by kernel_rfl, by kernel_rfl⟩, rfl, by decide⟩

set_option maxHeartbeats 1600000 in
theorem parts21_any (A : Option Addr) (n c B : Nat) (l : List ByteArray) (hl : l.length = n) (hn : n < 4611686018427387904) (f t : ByteArray) (w : World) (hr : Rd w B A (sv l)) (hB : B ≤ w.heap.size) :
    Calls Try.prog 58 #[.slice A n c, .agg #[.string f, .string t]] w fun e w' => ∃ v, e = .returned (.tuple #[v, .int .i64 (chk21 l)]) ∧ w'.ownsRow w.heap.size 67 2 v (partsN l f t).length (pv (partsN l f t)) ∧ Below w.heap.size w w' := by
  have HC := Lib.hid (fun W (h : Rd W B A (sv l)) => check21_any A n c B l hl (by omega) W h)
  have HR : Hid (Rd (w.alloc (.cells #[.string f, .string t] 67)) B A (sv l)) := hr.alloc hB _
  have HE := Lib.hid (fun W => empty_any f t W)
  by_cases h0 : chk21 l = 0
  case neg =>
    have e1 : partsN l f t = [] := by unfold partsN; rw [if_neg (fun h => h0 h.1)]
    rw [e1]
    clear hl e1
    generalize chk21 l = q at *
    go_enter Try.func58, Try.ntmps58
    go_wp2_with fail
    refine (HC.out _ HR.out).mono ?_
    rintro e w' ⟨rfl, m, rfl⟩
    go_wp2
    go_ret2
    exact ⟨_, rfl, ⟨rfl, .inl ⟨rfl, rfl⟩⟩, bel_dn ((Below.refl _ _).alloc (Nat.le_refl _) _) _⟩
  have hn15 : n ≤ 15 := by have := chk_len h0; omega
  have HSP := Lib.hid (fun (W : World) (i : Nat) (hi : i ≤ n) (h : Rd W B A (sv l)) (hB : B ≤ W.heap.size) => by
    have := span21_any A n c B l hl hn i (by omega) (by omega) W h hB
    have e1 : spE l i = 0 := by unfold spE; rw [if_neg (by rw [h0]; decide), if_neg (by omega)]
    have e2 : spV l i = .agg #[.string (frT l i), .string (toT l i)] := by unfold spV spF spT; rw [e1]; rfl
    rw [e1, e2] at this
    exact this)
  rw [h0] at HC ⊢
  cases hem : sEmp f t
  case true =>
    have e1 : partsN l f t = [] := by unfold partsN; rw [if_neg (fun h => by rw [hem] at h; cases h.2)]
    rw [e1]
    rw [hem] at HE
    clear hl e1 HSP h0 hem
    go_enter Try.func58, Try.ntmps58
    go_wp2_with fail
    refine (HC.out _ HR.out).mono ?_
    rintro e w' ⟨rfl, m, rfl⟩
    go_wp2_with fail
    refine (HE.out _).mono ?_
    rintro e w' ⟨rfl, hb⟩
    have HB : Hid (Below w.heap.size w w') := Below.go (bel_dn ((Below.refl _ _).alloc (Nat.le_refl _) _) m) hb (by simp)
    clear hb
    go_wp2
    go_ret2
    exact ⟨_, rfl, ⟨rfl, .inl ⟨rfl, rfl⟩⟩, HB.out⟩
  have e1 : partsN l f t = partsUp l f t (n + 1) := by unfold partsN; rw [if_pos ⟨h0, hem⟩, hl]
  rw [hem] at HE
  rw [e1]
  have HEP := Lib.hid (fun j => partsUp_succ l f t j)
  have HLN := Lib.hid (fun j => partsUp_len l f t j)
  have HR0 := Lib.hid hr
  clear hl e1 h0 hem hr
  go_enter Try.func58, Try.ntmps58
  go_wp2_with fail
  refine (HC.out _ HR.out).mono ?_
  rintro e w' ⟨rfl, m, rfl⟩
  go_wp2_with fail
  refine (HE.out _).mono ?_
  rintro e w2 ⟨rfl, hb⟩
  have HB : Hid (Below w.heap.size w w2) := Below.go (bel_dn ((Below.refl _ _).alloc (Nat.le_refl _) _) m) hb (by simp)
  have hs2 : w.heap.size < w2.heap.size := by have := hb.size; simp at this; omega
  have hcb : ∀ o, o < 2 → w2.cell? ⟨w.heap.size, o, none⟩ = some (.string (if o = 0 then f else t)) := by
    intro o ho
    have hb0 := hb.cell (p := ⟨w.heap.size, o, none⟩) (by simp)
    rw [hb0]
    rcases (by omega : o = 0 ∨ o = 1) with rfl | rfl <;> simp
  have HCB := Lib.hid hcb
  clear hb hcb HC HR
  go_wp2_with fail
  go_loopw [7, 23] (fun v s wr => ∃ j : Nat, j ≤ n + 1 ∧ s = .int .i64 j ∧ Hid (wr.ownsRow w2.heap.size 67 2 v (partsUp l f t j).length (pv (partsUp l f t j))) ∧ Hid (Below w2.heap.size w2 wr)) (fun v s _ => n + 1 - (intOf s).toNat)
  case atStart => exact ⟨0, Nat.zero_le _, rfl, ⟨rfl, .inl ⟨rfl, rfl⟩⟩, Below.refl _ _⟩
  case round =>
    obtain ⟨j, hj, rfl, HO, HW⟩ := hrel
    by_cases hlt : j < n + 1
    · have hsw := HW.out.size
      have c0 : wr.cell? ⟨w.heap.size, 0, none⟩ = some (.string f) := (HW.out.cell (p := ⟨w.heap.size, 0, none⟩) hs2).trans (HCB.out 0 (by omega))
      have c1 : wr.cell? ⟨w.heap.size, 1, none⟩ = some (.string t) := (HW.out.cell (p := ⟨w.heap.size, 1, none⟩) hs2).trans (HCB.out 1 (by omega))
      have RDW : Hid (Rd wr B A (sv l)) := (HR0.out.below (HB.out.mono hB)).below (HW.out.mono (by omega))
      have hsz1 : w.heap.size < wr.heap.size := by omega
      have HC0 := Lib.hid c0; have HC1 := Lib.hid c1
      clear c0 c1
      go_wp2_with fail
      refine (HSP.out _ j (by omega) RDW.out (by omega)).mono ?_
      rintro e w3 ⟨rfl, hb3⟩
      have hs3 := hb3.size
      have c0 : w3.cell? ⟨w.heap.size, 0, none⟩ = some (.string f) := (hb3.cell (p := ⟨w.heap.size, 0, none⟩) (by simpa using hsz1)).trans HC0.out
      have c1 : w3.cell? ⟨w.heap.size, 1, none⟩ = some (.string t) := (hb3.cell (p := ⟨w.heap.size, 1, none⟩) (by simpa using hsz1)).trans HC1.out
      have hsz3 : w.heap.size < w3.heap.size := by omega
      have HO3 : Hid (w3.ownsRow w2.heap.size 67 2 _ (partsUp l f t j).length (pv (partsUp l f t j))) := own_keep HO.out hb3 (Nat.le_refl _)
      have HB3 : Hid (Below w2.heap.size w2 w3) := HW.out.trans (hb3.mono hsw)
      clear hb3 HO HW
      generalize hpf : frT l j = f1 at *
      generalize hpt : toT l j = t1 at *
      go_wp2_with fail
      refine (meet_any f1 t1 f t _).mono ?_
      rintro e w4 ⟨rfl, hb4⟩
      have hs4 := hb4.size
      have hs4' : w3.heap.size + 1 ≤ w4.heap.size := by simpa using hs4
      clear hs4
      have HB4 : Hid (Below w2.heap.size w2 w4) := HB3.out.trans ((((Below.refl w3.heap.size w3).alloc (Nat.le_refl _) _).trans (hb4.mono (by simp))).mono HB3.out.size)
      have HO4 : Hid (w4.ownsRow w2.heap.size 67 2 _ (partsUp l f t j).length (pv (partsUp l f t j))) := own_keep (HO3.out.alloc _) hb4 (Nat.le_refl _)
      clear hb4 HO3 HB3 c0 c1
      have hpr : partR l f t j = if meetE f1 t1 f t then [] else [(kmax f1 f, meetT t1 t)] := by unfold partR; rw [hpf, hpt]
      unfold meetV
      cases hme : meetE f1 t1 f t
      · rw [hme] at hpr
        have HP := Lib.hid hpr; clear hpr hme
        simp only [Bool.false_eq_true, if_false]
        generalize kmax f1 f = f2 at *
        generalize meetT t1 t = t2 at *
        have hlen := HLN.out j
        have rdn := rd_new (w4.alloc (.cells #[.string f2, .string t2] 67)) #[.string f2, .string t2] 67
        rw [World.size_alloc] at rdn
        have RDN := Lib.hid rdn; clear rdn
        go_wp2_with (at_builtin; refine wpList_app sty93 (.tmp 39) (.tmp 41) rfl rfl w2.heap.size ((HO4.out.alloc _).alloc _) rfl 1 1 RDN.out rfl rfl (by simp [Value.oneCell']) (by unfold maxLen; omega) (by omega) (by have := HB4.out.size; simp; omega) ?_; intro v5 w5 own5 gr5 nil5 at5)
        have hb5 := (((HB4.out.alloc HB4.out.size (.cells #[.string f2, .string t2] 67)).alloc (by have := HB4.out.size; simp; omega) (.cells #[.string f2, .string t2] 67)).grown gr5 (by have := HB4.out.size; simp; omega) (fun g hg => (HO4.out.lt g hg).1))
        refine ⟨⟨j + 1, by omega, by go_num, own_eq own5 ?_ ?_, hb5⟩, by simp [intOf]; omega⟩
        · rw [HEP.out, HP.out, List.length_append]; rfl
        · rw [HEP.out, HP.out, pv_append]; rfl
      · rw [hme] at hpr
        have HP := Lib.hid hpr; clear hpr hme
        simp only [if_true]
        go_wp2
        refine ⟨⟨j + 1, by omega, by go_num, ?_, ?_⟩, by simp [intOf]; omega⟩
        · have e := HEP.out j
          rw [HP.out] at e
          simp at e
          rw [e]
          exact HO4.out.alloc _
        · exact HB4.out.alloc HB4.out.size _
    · obtain rfl : j = n + 1 := by omega
      go_wp2
      go_ret2
      exact ⟨_, rfl, HO.out.mono (by omega), HB.out.trans (HW.out.mono (by omega))⟩
end Go.Proofs.Ytlpdihcgdgkkbaa
