/- Walks: whether an entry may be; whether an entry is ahead of another one. -/
import Derived.Test.YtjhgbdeadkoegaaEa
namespace Go.Proofs.Ytjhgbdeadkoegaa
open Go.RowKit Go.St Go.Maps Go.WideMaps
set_option linter.unusedVariables false
set_option linter.unusedSimpArgs false
set_option maxRecDepth 100000

def chkW (k v : ByteArray) (d : Bool) : Int := if okW k v d then 0 else 2
theorem lawS : Keyed Try.prog 9 := string_keyed Try.underlying9
theorem zeroU (w : World) : (zeroValue 89).run Try.prog w = .ok (.agg #[]) w := by kernel_rfl
set_option maxHeartbeats 1600000 in
theorem wcheck_any (b off c : Nat) (k v : ByteArray) (d : Bool) (w : World) (hk : k.size ≤ maxLen) (hb : b < w.heap.size) (h0 : w.cell? ⟨b, off, none⟩ = some (.string k)) (h1 : w.cell? ⟨b, off + 1, none⟩ = some (.string v)) (h2 : w.cell? ⟨b, off + 2, none⟩ = some (.bool d)) :
    Calls Try.prog 43 #[.slice (some ⟨b, off, none⟩) 1 c] w fun e w' => e = .returned (.int .i64 (chkW k v d)) ∧ Below w.heap.size w w' := by
  have HF := Lib.hid (fun W => fine_any k v d W)
  unfold chkW
  generalize okW k v d = z at *
  have hkey := keyOf_string_mk (P := Try.prog) Try.underlying9 hk
  have HKEY := Lib.hid hkey
  clear hk hkey
  cases z
  · go_enter Try.func43, Try.ntmps43
    go_wp2_with fail
    refine wp_loop_rounds 1 ?_
    rw [rounds_succ]
    go_wp2_with fail
    refine (HF.out _).mono ?_
    rintro e w2 ⟨rfl, hb2⟩
    go_wp2_with fail
    go_ret
    exact ⟨rfl, ((Below.refl _ _).alloc (Nat.le_refl _) _).trans (hb2.mono (by simp))⟩
  · have hmm := @run_makeMap Try.prog
    go_enter Try.func43, Try.ntmps43
    go_wp2_with fail
    refine wp_loop_rounds 2 ?_
    rw [rounds_succ]
    go_wp2_with fail
    refine (HF.out _).mono ?_
    rintro e w2 ⟨rfl, hb2⟩
    have HB2 : Hid (Below w.heap.size w w2) := Lib.hid (((Below.refl _ _).alloc (Nat.le_refl _) _).trans (hb2.mono (by simp)))
    have c0 := (HB2.out.cell (p := ⟨b, off, none⟩) hb).trans h0
    have c1 := (HB2.out.cell (p := ⟨b, off + 1, none⟩) hb).trans h1
    have c2 := (HB2.out.cell (p := ⟨b, off + 2, none⟩) hb).trans h2
    have hb' : b < w2.heap.size := by have := HB2.out.size; omega
    clear hb2 h0 h1 h2 hb
    go_wp2_with fail
    rw [rounds_succ]
    go_wp2_with fail
    have OM : Hid ((w2.alloc (.map #[] 0)).ownsMap Try.prog 9 (unitElem (H := Unit)) w2.heap.size 0 (.map [])) := Lib.hid (World.ownsMap_made _ _ _ _)
    have B3 : Hid (Below w.heap.size w (w2.alloc (.map #[] 0))) := Lib.hid (HB2.out.alloc HB2.out.size _)
    have d0 := (((Below.refl w2.heap.size w2).alloc (Nat.le_refl _) (.map #[] 0)).cell (p := ⟨b, off, none⟩) hb').trans c0
    have d1 := (((Below.refl w2.heap.size w2).alloc (Nat.le_refl _) (.map #[] 0)).cell (p := ⟨b, off + 1, none⟩) hb').trans c1
    have d2 := (((Below.refl w2.heap.size w2).alloc (Nat.le_refl _) (.map #[] 0)).cell (p := ⟨b, off + 2, none⟩) hb').trans c2
    have hs3 : w2.heap.size < (w2.alloc (.map #[] 0)).heap.size := by simp
    have hb3 : b < (w2.alloc (.map #[] 0)).heap.size := by simp; omega
    clear c0 c1 c2 hb'
    have hw2 : w.heap.size ≤ w2.heap.size := HB2.out.size
    clear HB2
    generalize w2.alloc (.map #[] 0) = w3 at *
    generalize w2.heap.size = m at *
    refine wp_loop_rounds 2 ?_
    rw [rounds_succ]
    have OM4 := Lib.hid (OM.out.alloc (.cells #[.string k, .string v, .bool d] 82))
    have B4 := Lib.hid (B3.out.alloc B3.out.size (.cells #[.string k, .string v, .bool d] 82))
    have hnot : Maps.has (H := Unit) (.map []) (.string k.data.toList) = false := rfl
    have OM5 := Lib.hid (OM4.out.alloc (.cells #[] 89))
    have B5 := Lib.hid (B4.out.alloc B4.out.size (.cells #[] 89))
    go_wp2_with (first | (at_lookup; refine wpList_lookup_own_unit _ rfl _ _ 88 rfl 9 89 lawS Try.underlying88 (zeroU _) m 0 _ rfl OM4.out _ _ rfl HKEY.out ?_) | (at_mapUpdate; refine wpList_mapUpdate_own _ rfl _ _ _ 88 rfl 9 89 lawS Try.underlying88 (unitElem (H := Unit)) m 0 _ rfl OM5.out (by decide) _ _ _ rfl rfl HKEY.out _ [] unitElem_mk ?_; intro w1 hown1 hgrow1))
    have B6 := Lib.hid (B5.out.grown hgrow1 B5.out.size (fun j hj => by cases hj; exact hw2))
    clear hown1 hgrow1 OM OM4 OM5 B3 B4 B5
    rw [rounds_succ]
    go_wp2_with fail
    go_ret
    exact ⟨rfl, B6.out⟩

set_option maxHeartbeats 1600000 in
theorem rcheck6_any (x : Ent) (w : World) : Calls Try.prog 29 #[.agg #[.string x.key, .string x.val, .int .i64 x.seq, .bool x.del]] w fun e w' => e = .returned (.int .i64 (chkE x)) ∧ Below w.heap.size w w' := by
  by_cases a1 : x.seq < 1
  · have hz : chkE x = 2 := by unfold chkE; rw [okE_eq, decide_eq_false (by omega)]; rfl
    rw [hz]
    clear hz
    go_enter Try.func29, Try.ntmps29
    go_wp2_with fail
    go_ret
    exact ⟨rfl, (Below.refl _ _).alloc (Nat.le_refl _) _⟩
  by_cases a2 : 1073741824 < x.seq
  · have hz : chkE x = 2 := by unfold chkE; rw [okE_eq, decide_eq_false (by omega)]; rfl
    rw [hz]
    clear hz
    go_enter Try.func29, Try.ntmps29
    go_wp2_with fail
    go_ret
    exact ⟨rfl, (Below.refl _ _).alloc (Nat.le_refl _) _⟩
  have hz : chkE x = if okW x.key x.val x.del = true then 0 else 2 := by unfold chkE; rw [okE_eq, decide_eq_true (by omega), Bool.true_and]
  rw [hz]
  clear hz
  have HF := Lib.hid (fun W => rfine_any x.key x.val x.del W)
  generalize okW x.key x.val x.del = z at *
  go_enter Try.func29, Try.ntmps29
  go_wp2_with fail
  refine (HF.out _).mono ?_
  rintro e w2 ⟨rfl, hb2⟩
  have B2 : Hid (Below w.heap.size w w2) := Lib.hid (((Below.refl _ _).alloc (Nat.le_refl _) _).trans (hb2.mono (by simp)))
  clear hb2
  cases z
  · go_wp2_with fail
    go_ret
    exact ⟨rfl, B2.out⟩
  · go_wp2_with fail
    go_ret
    exact ⟨rfl, B2.out⟩
set_option maxHeartbeats 1600000 in
theorem check6_any (x : Ent) (hk : x.key.size ≤ maxLen) (w : World) : Calls Try.prog 28 #[.agg #[.string x.key, .string x.val, .int .i64 x.seq, .bool x.del]] w fun e w' => e = .returned (.int .i64 (chkE x)) ∧ Below w.heap.size w w' := by
  have HK := Lib.hid hk
  clear hk
  by_cases a1 : x.seq < 1
  · have hz : chkE x = 2 := by unfold chkE; rw [okE_eq, decide_eq_false (by omega)]; rfl
    rw [hz]
    clear hz
    go_enter Try.func28, Try.ntmps28
    go_wp2_with fail
    go_ret
    exact ⟨rfl, (Below.refl _ _).alloc (Nat.le_refl _) _⟩
  by_cases a2 : 1073741824 < x.seq
  · have hz : chkE x = 2 := by unfold chkE; rw [okE_eq, decide_eq_false (by omega)]; rfl
    rw [hz]
    clear hz
    go_enter Try.func28, Try.ntmps28
    go_wp2_with fail
    go_ret
    exact ⟨rfl, (Below.refl _ _).alloc (Nat.le_refl _) _⟩
  have hz : chkE x = chkW x.key x.val x.del := by unfold chkE chkW; rw [okE_eq, decide_eq_true (by omega), Bool.true_and]
  rw [hz]
  clear hz
  have HC := Lib.hid (fun b off c W h1 h2 h3 h4 => wcheck_any b off c x.key x.val x.del W HK.out h1 h2 h3 h4)
  have hz : chkW x.key x.val x.del = 0 ∨ chkW x.key x.val x.del = 2 := by unfold chkW; split <;> simp
  generalize chkW x.key x.val x.del = z at *
  have HZ := Lib.hid hz
  clear hz
  go_enter Try.func28, Try.ntmps28
  go_wp2_with fail
  refine (HC.out w.heap.size.succ 0 1 _ ?_ ?_ ?_ ?_).mono ?_
  · simp
  · simp
  · simp
  · simp
  rintro e w2 ⟨rfl, hb2⟩
  have B2 : Hid (Below w.heap.size w w2) := Lib.hid ((((Below.refl _ _).alloc (Nat.le_refl _) _).alloc (by simp) _).trans (hb2.mono (by simp; omega)))
  clear hb2
  rcases HZ.out with rfl | rfl
  · go_wp2_with fail
    go_ret
    exact ⟨rfl, B2.out⟩
  · go_wp2_with fail
    go_ret
    exact ⟨rfl, B2.out⟩
end Go.Proofs.Ytjhgbdeadkoegaa
