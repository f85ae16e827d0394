/- The walk of the reference's Scan. -/
import Derived.Test.YtmfkngijgellhaaT
namespace Go.Proofs.Ytmfkngijgellhaa
open Go.RowKit Go.St
set_option linter.unusedVariables false

set_option maxHeartbeats 2000000 in
theorem rscan_any (A : Option Addr) (n c B : Nat) (bs : List UInt8) (hl : bs.length = n) (hn : n ≤ 1000000) (hc : n ≤ c) (w : World) (hr : Rd w B A (bv bs)) (hB : B ≤ w.heap.size) :
    Calls Try.prog 41 #[.slice A n c] w (ScPost bs w) := by
  have HL := Lib.hid hl; clear hl
  have HR := Lib.hid hr; clear hr
  go_enter Try.func41, Try.ntmps41
  go_wp2
  go_loopw [5, 6] (fun V' i wr => ∃ V : Value, ∃ q k : Nat, ∃ vs : List Value, ∃ rs : List (List UInt8), V = V' ∧ i = .int .i64 q ∧ ScanAt bs q k rs ∧ Rows wr w.heap.size V k vs rs ∧ Below w.heap.size w wr) (fun _ i _ => n - (intOf i).toNat)
  case atStart => exact ⟨_, 0, 0, [], [], rfl, rfl, ScanAt.start bs, Rows.nil _ _, Below.refl _ _⟩
  case round =>
    obtain ⟨V, q, k, vs, rs, rfl, rfl, hat, hrows, hbw⟩ := hrel
    have hqn : q ≤ n := by have := hat.2.2.1; rw [HL.out] at this; exact this
    have hk12 : 12 * k ≤ q := hat.2.1
    have HAT := Lib.hid hat; clear hat
    have HROWS := Lib.hid hrows; clear hrows
    have S1 := hbw.size
    by_cases hlt : q < n
    · obtain ⟨b, o, rfl, hbB, _⟩ := HR.out.at_ (bv_get bs 0 (by rw [HL.out]; omega))
      have RQ := Lib.hid (rd_from (HR.out.below (hbw.mono hB)) HL.out hc hlt)
      have i0 : (0 : Int) ≤ (q : Int) := by omega
      have i1 : (q : Int) ≤ (n : Int) := by omega
      have i2 : (q : Int) ≤ (c : Int) := by omega
      have i3 : (q : Int) < (n : Int) := by omega
      have i4 : ¬ c = q := by omega
      go_wp2_with fail
      refine (rread_any (some ⟨b, o + q, none⟩) (n - q) (c - q) B (bs.drop q) (by rw [List.length_drop, HL.out]) (by omega) (by omega) _ RQ.out (by omega)).mono ?_
      rintro e w2 ⟨u, rfl, own2, hb2⟩
      have HB2 : Hid (Below w.heap.size w w2) := hbw.trans (hb2.mono S1)
      have R2 := Lib.hid (HROWS.out.keep hb2 (Nat.le_refl _))
      have hfr : ∀ g, u.ownBlock = some g → (∀ (i : Nat) (v : Value), vs[i]? = some v → v.ownBlock ≠ some g) ∧ V.ownBlock ≠ some g := fun g hg => by
        have h1 := (own2.lt g hg).1
        refine ⟨fun i v hv e => ?_, fun e => ?_⟩
        · have := (HROWS.out.lt hv e).2; omega
        · have := (HROWS.out.own.lt g e).2; omega
      have HFR := Lib.hid hfr; clear hfr
      have O2 : Hid (w2.ownsRow w.heap.size 5 1 u (readL (bs.drop q)).length (bv (readL (bs.drop q)))) := own2.mono S1
      obtain ⟨Au, cu, rfl, _, _, _⟩ := own_rd4 O2.out
      have S2 := hb2.size
      clear own2 hb2 HROWS RQ hbw
      have hpush : ∀ (v3 : Value) (w3 : World), w3.ownsRow w.heap.size 22 1 v3 (k + 1) (vs ++ [.slice Au (readL (bs.drop q)).length cu]) → (w2.alloc (.cells #[.slice Au (readL (bs.drop q)).length cu] 22)).grownBy w3 V.ownBlock →
          (v3.ownBlock = V.ownBlock ∨ v3.ownBlock = some (w2.alloc (.cells #[.slice Au (readL (bs.drop q)).length cu] 22)).heap.size) → Rows w3 w.heap.size v3 (k + 1) (vs ++ [.slice Au (readL (bs.drop q)).length cu]) (rs ++ [readL (bs.drop q)]) ∧ Below w.heap.size w w3 := fun v3 w3 own3 gr3 at3 =>
        ⟨(R2.out.alloc (.cells #[.slice Au (readL (bs.drop q)).length cu] 22)).push (O2.out.alloc _) (by simp; omega) HFR.out own3 gr3 at3, (HB2.out.alloc (by omega) _).grown gr3 (by simp; omega) (fun g hg => (R2.out.own.lt g hg).1)⟩
      have HP := Lib.hid hpush; clear hpush
      by_cases hE : readE (bs.drop q) = 0
      · have HN := Lib.hid (HAT.out.next hE)
        have h12 := readN_ge hE
        have hle := HN.out.2.2.1
        rw [HL.out] at hle
        rw [hE]
        clear hE
        have ez : ((0 : Int) != 0) = false := rfl
        go_wp2_with (at_builtin; refine wpList_app sty38 (.tmp 27) (.tmp 29) rfl rfl w.heap.size (R2.out.own.alloc _) rfl 1 1 (rd_one _ _ _) rfl rfl (by simp [Value.oneCell']) (by unfold maxLen; omega) (by omega) (by simp; omega) ?_; intro v3 w3 own3 gr3 nil3 at3)
        obtain ⟨h1, h2⟩ := HP.out v3 w3 own3 gr3 at3
        exact ⟨⟨v3, q + readN (bs.drop q), k + 1, _, _, rfl, by go_num, HN.out, h1, h2⟩, by simp [intOf]; omega⟩
      · have hbad := HAT.out.bad (by rw [HL.out]; exact hlt) hE
        have HBAD := Lib.hid hbad; clear hbad
        have ez : (readE (bs.drop q) != 0) = true := by rw [bne_iff_ne]; exact hE
        clear hE
        go_wp2
        go_ret3
        exact scPost_of HBAD.out rfl HAT.out.1 R2.out HB2.out
    · obtain rfl : q = n := by omega
      go_wp2
      go_ret3
      exact scPost_of (HAT.out.all HL.out.symm) rfl HAT.out.1 HROWS.out hbw
end Go.Proofs.Ytmfkngijgellhaa
