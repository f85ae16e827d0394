/- The walk of rows: records' frames one behind the other, and where each ends. -/
import Derived.Test.YtmfkngijgellhaaW
namespace Go.Proofs.Ytmfkngijgellhaa
open Go.RowKit Go.St
set_option linter.unusedVariables false

theorem sty47 : STy Try.prog 47 3 1 8 (.int .i64 0) := ⟨Try.underlying47, ⟨_, rfl, by kernel_rfl, by kernel_rfl, by kernel_rfl⟩, rfl, by decide⟩

/-- Where the first k frames end, as cells. -/
def endsV (l : List (List UInt8)) (k : Nat) : List Value := (List.range k).map fun i => .int .i64 ((endAt l (i + 1) : Nat) : Int)
theorem endsV_succ (l : List (List UInt8)) (k : Nat) : endsV l (k + 1) = endsV l k ++ [.int .i64 ((endAt l (k + 1) : Nat) : Int)] := by
  unfold endsV
  rw [List.range_succ, List.map_append]
  rfl
theorem endsV_get (l : List (List UInt8)) (k i : Nat) (h : i < k) : (endsV l k)[i]? = some (.int .i64 ((endAt l (i + 1) : Nat) : Int)) := by
  unfold endsV
  rw [List.getElem?_map, List.getElem?_range h]
  rfl
theorem endAt_bound (l : List (List UInt8)) (h : ∀ r ∈ l, r.length ≤ 400) : ∀ k, k ≤ l.length → endAt l k ≤ 412 * k
  | 0, _ => by rw [endAt_zero]; omega
  | k + 1, hk => by
    rw [endAt_succ l k (by omega)]
    have := endAt_bound l h k (by omega)
    have := h l[k] (List.getElem_mem (by omega))
    omega

set_option maxHeartbeats 1000000 in
theorem rows_any (A : Option Addr) (n c B : Nat) (l : List (List UInt8)) (hl : l.length = n) (hn : n ≤ 40) (hs : ∀ r ∈ l, r.length ≤ 400) (w : World) (hr : RR w B A l) (hB : B ≤ w.heap.size) :
    Calls Try.prog 39 #[.slice A n c] w fun e w' => ∃ V E, e = .returned (.tuple #[V, E, .bool true]) ∧ w'.ownsRow w.heap.size 5 1 V (framesL l).length (bv (framesL l)) ∧ w'.ownsRow w.heap.size 3 1 E n (endsV l n) ∧ Below w.heap.size w w' := by
  have HL := Lib.hid hl; clear hl
  have HR := Lib.hid hr; clear hr
  have HS := Lib.hid hs; clear hs
  go_enter Try.func39, Try.ntmps39
  go_wp2
  go_loopw [5, 6, 7] (fun V' E' i wr => ∃ V E : Value, ∃ k : Nat, V = V' ∧ E = E' ∧ k ≤ n ∧ i = .int .i64 k ∧ wr.ownsRow w.heap.size 5 1 V (endAt l k) (bv (framesL (l.take k))) ∧ wr.ownsRow w.heap.size 3 1 E k (endsV l k) ∧ Below w.heap.size w wr) (fun _ _ i _ => n - (intOf i).toNat)
  case atStart => exact ⟨_, _, 0, rfl, rfl, Nat.zero_le _, rfl, by rw [endAt_zero]; exact World.ownsRow_nil _ _ _ _, World.ownsRow_nil _ _ _ _, Below.refl _ _⟩
  case round =>
    obtain ⟨V, E, k, rfl, rfl, hk, rfl, hV, hE, hbw⟩ := hrel
    have OE := Lib.hid hE; clear hE
    have S1 := hbw.size
    by_cases hlt : k < n
    · have hkb : k < l.length := by rw [HL.out]; exact hlt
      have hend := endAt_bound l HS.out k (by omega)
      have hend2 := endAt_succ l k hkb
      have hap : appL (framesL (l.take k)) l[k] = framesL (l.take (k + 1)) := by
        rw [appL, if_neg (by have := HS.out _ (List.getElem_mem hkb); omega), List.take_add_one, List.getElem?_eq_getElem hkb, Option.toList_some, framesL_snoc]
      have hlk := HS.out _ (List.getElem_mem hkb)
      obtain ⟨b, off, Ai, ci, rfl, hb, hc, h1, h2, hri⟩ := (HR.out.below (hbw.mono hB)).at_ hkb
      obtain ⟨x, hx⟩ : ∃ x, l[k] = x := ⟨_, rfl⟩
      rw [hx] at hc h1 hri hend2 hap hlk
      have RI := Lib.hid hri; clear hri hx
      have hend3 : endAt l (k + 1) ≤ 100000 := by omega
      clear hend2
      have HAP := Lib.hid hap; clear hap
      obtain ⟨A5, c5, rfl, _, _, rd5⟩ := own_rd4 hV
      have D5 := Lib.hid rd5; clear rd5 hV
      have i0 : (0 : Int) ≤ (k : Int) := by omega
      have i1 : (k : Int) < (n : Int) := by omega
      go_wp2_with fail
      refine (append_any A5 Ai (endAt l k) c5 _ x.length ci _ (framesL (l.take k)) x rfl rfl (by omega) (by omega) _ D5.out (Nat.le_refl _) RI.out (by omega)).mono ?_
      rintro e w2 ⟨V2, rfl, own2, hb2⟩
      rw [show appE x.length = 0 by unfold appE; rw [if_neg (by omega)]]
      rw [HAP.out] at own2
      have own2 : w2.ownsRow wr.heap.size 5 1 V2 (endAt l (k + 1)) (bv (framesL (l.take (k + 1)))) := own2
      have OE2 := Lib.hid (own_keep OE.out hb2 (Nat.le_refl _))
      have HB2 : Hid (Below w.heap.size w w2) := hbw.trans (hb2.mono S1)
      have S2 := hb2.size
      have hne : V2.ownBlock = none ∨ V2.ownBlock ≠ E.ownBlock := by
        cases hv : V2.ownBlock with
        | none => exact .inl rfl
        | some g => exact .inr (fun e => by have a1 := (own2.lt g hv).1; have a2 := (OE.out.lt g e.symm).2; omega)
      obtain ⟨A2, c2, rfl, _, _, _⟩ := own_rd4 own2
      have O2 := Lib.hid own2; clear own2
      have HNE := Lib.hid hne; clear hne
      clear OE hb2 hbw D5 RI
      have n0 : ((0 : Int) != 0) = false := rfl
      go_wp2_with (at_builtin; refine wpList_app sty47 (.tmp 28) (.tmp 31) rfl rfl w.heap.size (OE2.out.alloc _) rfl 1 1 (rd_one _ _ _) rfl rfl (by simp [Value.oneCell']) (by unfold maxLen; omega) (by omega) (by simp; omega) ?_; intro E3 w3 own3 gr3 nil3 at3)
      have O3 : w3.ownsRow w.heap.size 5 1 (.slice A2 (endAt l (k + 1)) c2) (endAt l (k + 1)) (bv (framesL (l.take (k + 1)))) := (((O2.out.alloc _).kept gr3 HNE.out)).mono S1
      have own3' : w3.ownsRow w.heap.size 3 1 E3 (k + 1) (endsV l (k + 1)) := own_eq own3 rfl (endsV_succ l k).symm
      have hb3 : Below w.heap.size w w3 := (HB2.out.alloc (by omega) _).grown gr3 (by simp; omega) (fun g hg => (OE2.out.lt g hg).1)
      exact ⟨⟨_, E3, k + 1, rfl, rfl, by omega, by go_num, O3, own3', hb3⟩, by simp [intOf]; omega⟩
    · obtain rfl : k = n := by omega
      have hV : wr.ownsRow w.heap.size 5 1 V (framesL l).length (bv (framesL l)) := by
        rw [← HL.out, endAt_all, List.take_length] at hV
        exact hV
      go_wp2
      go_ret3
      exact ⟨_, _, rfl, hV, OE.out, hbw⟩
end Go.Proofs.Ytmfkngijgellhaa
