/- Walks: the document's ranges, spans, nodes and parts. -/
import Derived.Test.YtlpdihcgdgkkbaaRs
namespace Go.Proofs.Ytlpdihcgdgkkbaa
open Go.RowKit Go.St
set_option linter.unusedVariables false
set_option linter.unusedSimpArgs false
set_option maxRecDepth 100000

/-- All ranges' spans: the first so many. -/
def allUp (l : List ByteArray) (j : Nat) : List (ByteArray × ByteArray) := (List.range j).map fun i => (frT l i, toT l i)
theorem allUp_succ (l : List ByteArray) (j : Nat) : allUp l (j + 1) = allUp l j ++ [(frT l j, toT l j)] := by
  unfold allUp; rw [List.range_succ, List.map_append]; rfl
theorem allUp_len (l : List ByteArray) (j : Nat) : (allUp l j).length = j := by simp [allUp]
theorem allUp_get (l : List ByteArray) {j i : Nat} (h : i < (allUp l j).length) : (allUp l j)[i] = (frT l i, toT l i) := by simp [allUp]
theorem frT_s (l : List ByteArray) (i : Nat) : frT l (i + 1) = l.getD i zE := by unfold frT; simp
theorem toT_n (l : List ByteArray) : toT l l.length = zE := by unfold toT; simp [List.getD]

set_option maxHeartbeats 1600000 in
theorem rall21_any (A : Option Addr) (n c B : Nat) (l : List ByteArray) (hl : l.length = n) (hn : n ≤ 1000000) (w : World) (hr : Rd w B A (sv l)) (hB : B ≤ w.heap.size) :
    Calls Try.prog 88 #[.slice A n c] w fun e w' => ∃ v, e = .returned v ∧ w'.ownsRow w.heap.size 67 2 v (n + 1) (pv (allUp l (n + 1))) ∧ Below w.heap.size w w' := by
  have HL := Lib.hid hl; have HR := Lib.hid hr
  have HS := Lib.hid (fun j => allUp_succ l j)
  clear hl hr
  go_enter Try.func88, Try.ntmps88
  go_wp2_with fail
  go_loopw [3, 4, 5] (fun v s i wr => ∃ j : Nat, j ≤ n ∧ i = .int .i64 j ∧ s = .string (frT l j) ∧ Hid (wr.ownsRow w.heap.size 67 2 v j (pv (allUp l j))) ∧ Hid (Below w.heap.size w wr)) (fun _ _ i _ => n - (intOf i).toNat)
  case atStart => exact ⟨0, Nat.zero_le _, rfl, rfl, ⟨rfl, .inl ⟨rfl, rfl⟩⟩, Below.refl _ _⟩
  case round =>
    obtain ⟨j, hj, rfl, rfl, HO, HW⟩ := hrel
    have hsw := HW.out.size
    by_cases hlt : j < n
    · have hjl : j < l.length := by rw [HL.out]; exact hlt
      have RW : Hid (Rd wr B A (sv l)) := HR.out.below (HW.out.mono hB)
      have e1 : frT l (j + 1) = l[j] := by rw [frT_s]; simp [List.getD, hjl]
      have e2 : toT l j = l[j] := by unfold toT; simp [List.getD, hjl]
      have hrt : ∀ W, Rd W B A (sv l) → ∃ b off, A = some ⟨b, off, none⟩ ∧ b < B ∧ W.cell? ⟨b, off + j, none⟩ = some (.string (frT l (j + 1))) := fun W h => by
        obtain ⟨b, off, rfl, hb, hc⟩ := h.at_ (sv_get l j hjl)
        exact ⟨b, off, rfl, hb, by rw [e1]; exact hc⟩
      have hs := HS.out j
      rw [e2, ← e1] at hs
      clear e1 e2
      have HS1 := Lib.hid hs; clear hs
      generalize hft : frT l (j + 1) = t at *
      generalize hff : frT l j = f at *
      obtain ⟨b, off, rfl, hb, hcell⟩ := hrt _ RW.out
      have HRT := Lib.hid hrt; clear hrt
      have hbw : b < wr.heap.size := by omega
      have rdn := rd_new wr #[.string f, .string t] 67
      have RDN := Lib.hid rdn; clear rdn
      have HBG : Hid (∀ w5, (wr.alloc (.cells #[.string f, .string t] 67)).grownBy w5 _ → Below w.heap.size w w5) := fun w5 gr5 => ((HW.out.alloc HW.out.size (.cells #[.string f, .string t] 67)).grown gr5 (by simp; omega) (fun g hg => (HO.out.lt g hg).1))
      have HG : Hid (∀ w5, (wr.alloc (.cells #[.string f, .string t] 67)).grownBy w5 _ → w5.cell? ⟨b, off + j, none⟩ = some (.string t)) := fun w5 gr5 => by
        obtain ⟨b', off', e, -, hc5⟩ := HRT.out w5 (HR.out.below ((HBG.out w5 gr5).mono hB))
        injection e with e; injection e with e1 e2; subst e1 e2
        exact hc5
      go_wp2_with (at_builtin; refine wpList_app sty93 (.tmp 12) (.tmp 19) rfl rfl w.heap.size (HO.out.alloc _) rfl 1 1 RDN.out rfl rfl (by simp [Value.oneCell']) (by unfold maxLen; omega) (by omega) (by simp; omega) ?_; intro v5 w5 own5 gr5 nil5 at5; have hc5 := HG.out w5 gr5)
      go_roundw
      case rel => exact ⟨j + 1, by omega, by go_num, by rw [hft], own_eq own5 rfl (by rw [HS1.out, pv_append]; rfl), HBG.out w5 gr5⟩
      case measure => simp [intOf]; omega
    · obtain rfl : j = n := by omega
      have e2 : toT l j = zE := by rw [← HL.out]; exact toT_n l
      have hs := HS.out j
      rw [e2] at hs
      have HS1 := Lib.hid hs; clear hs e2
      generalize frT l j = f at *
      have rdn := rd_new wr #[.string f, .string zE] 67
      have RDN := Lib.hid rdn; clear rdn
      go_wp2_with (at_builtin; refine wpList_app sty93 (.tmp 25) (.tmp 28) rfl rfl w.heap.size (HO.out.alloc _) rfl 1 1 RDN.out rfl rfl (by simp [Value.oneCell']) (by unfold maxLen; omega) (by omega) (by simp; omega) ?_; intro v5 w5 own5 gr5 nil5 at5)
      have hb5 := ((HW.out.alloc HW.out.size (.cells #[.string f, .string zE] 67)).grown gr5 (by simp; omega) (fun g hg => (HO.out.lt g hg).1))
      go_ret
      exact ⟨_, rfl, own_eq own5 rfl (by rw [HS1.out, pv_append]; rfl), hb5⟩

theorem ofT_first {l : List ByteArray} (hc : chk21 l = 0) (k : ByteArray) {j : Nat} (hj : j ≤ l.length) : sHas (frT l j) (toT l j) k = decide (j = ofT l k) := has_range hc k hj

set_option maxHeartbeats 1600000 in
theorem rof21_any (A : Option Addr) (n c B : Nat) (l : List ByteArray) (hl : l.length = n) (hn : n < 4611686018427387904) (k : ByteArray) (w : World) (hr : Rd w B A (sv l)) (hB : B ≤ w.heap.size) :
    Calls Try.prog 59 #[.slice A n c, .string k] w fun e w' => e = .returned (.tuple #[.int .i64 (ofR l k), .int .i64 (chk21 l)]) ∧ Below w.heap.size w w' := by
  have HC := Lib.hid (rcheck21_any A n c B l hl (by omega) w hr)
  by_cases h0 : chk21 l = 0
  case neg =>
    have hR : ofR l k = 0 := by unfold ofR; rw [if_neg h0]
    rw [hR]
    clear hr hl hR
    generalize chk21 l = z at *
    go_enter Try.func59, Try.ntmps59
    go_wp2_with fail
    refine HC.out.mono ?_
    rintro e w' ⟨rfl, m, rfl⟩
    go_wp2
    go_ret2
    exact ⟨rfl, bel_dn (Below.refl _ _) m⟩
  have hn15 : n ≤ 15 := by have := chk_len h0; omega
  obtain ⟨r, hrr⟩ : ∃ r, r = ofT l k := ⟨_, rfl⟩
  have hrn : r ≤ n := by rw [hrr, ← hl]; exact ofT_le h0 k
  have HHR := Lib.hid (fun (i : Nat) (hi : i ≤ n) W => by
    have := rhas21_any (frT l i) (toT l i) k W
    rw [has_range h0 k (by omega), ← hrr] at this
    exact this)
  have HA := Lib.hid (fun m => rall21_any A n c B l hl (by omega) (w.drewN m) (Rd.drew hr m) hB)
  rw [ofR_eq h0, ← hrr, h0]
  rw [h0] at HC
  clear hr hl hrr h0
  go_enter Try.func59, Try.ntmps59
  go_wp2_with fail
  refine HC.out.mono ?_
  rintro e w' ⟨rfl, m, rfl⟩
  clear HC
  go_wp2_with fail
  refine (HA.out m).mono ?_
  rintro e w1 ⟨v, rfl, own, hb⟩
  clear HA
  have HB1 : Hid (Below w.heap.size w w1) := (bel_dn (Below.refl _ _) m).trans hb
  obtain ⟨A1, c1, rfl, rd⟩ := own_rdS own (by decide)
  have RD := Lib.hid rd
  clear own hb rd
  go_wp2_with fail
  go_loopw [8] (fun s wr => ∃ j : Nat, j ≤ r ∧ s = .int .i64 j ∧ Hid (Below w1.heap.size w1 wr)) (fun s _ => n + 1 - (intOf s).toNat)
  case atStart => exact ⟨0, Nat.zero_le _, rfl, Below.refl _ _⟩
  case round =>
    obtain ⟨j, hj, rfl, HW⟩ := hrel
    have hsw := HW.out.size
    have RW : Hid (Rd wr w1.heap.size A1 (pv (allUp l (n + 1)))) := RD.out.below HW.out
    have hjl : j < (allUp l (n + 1)).length := by rw [allUp_len]; omega
    obtain ⟨b, off, rfl, hb, ca⟩ := RW.out.at_ (pv_get1 _ j hjl)
    obtain ⟨_, _, e, _, cb⟩ := RW.out.at_ (pv_get2 _ j hjl)
    injection e with e; injection e with e1 e2; subst e1 e2
    rw [allUp_get] at ca cb
    simp only at ca cb
    rw [show 2 * j = j * 2 by omega] at ca cb
    rw [← Nat.add_assoc] at cb
    have hbw : b < wr.heap.size := by omega
    have hjn : j ≤ n := by omega
    have hh := HHR.out j hjn
    clear HHR RW RD
    generalize frT l j = f at *
    generalize toT l j = t at *
    by_cases hjr : j = r
    · rw [decide_eq_true hjr] at hh
      have HH := Lib.hid hh; clear hh
      subst hjr
      go_wp2_with fail
      refine (HH.out _).mono ?_
      rintro e w2 ⟨rfl, hb2⟩
      have HB2 : Hid (Below w.heap.size w w2) := HB1.out.trans ((HW.out.trans (hb2.mono hsw)).mono HB1.out.size)
      clear hb2
      go_wp2
      go_ret2
      exact ⟨rfl, HB2.out⟩
    · rw [decide_eq_false hjr] at hh
      have HH := Lib.hid hh; clear hh
      go_wp2_with fail
      refine (HH.out _).mono ?_
      rintro e w2 ⟨rfl, hb2⟩
      have HW2 : Hid (Below w1.heap.size w1 w2) := HW.out.trans (hb2.mono hsw)
      clear hb2
      go_wp2
      go_roundw
      case rel => exact ⟨j + 1, by omega, by go_num, HW2⟩
      case measure => simp [intOf]; omega
end Go.Proofs.Ytlpdihcgdgkkbaa
