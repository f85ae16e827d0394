/- Walks: whether an entry is ahead of another one; whether entries are in order; whether they are a block. -/
import Derived.Test.YtdmpimgbnhgiaaaZBox
import Derived.Test.YtdmpimgbnhgiaaaZEm
import Derived.Test.YtdmpimgbnhgiaaaZT
import Derived.Test.YtdmpimgbnhgiaaaChecked
import Derived.WalkSpells
import Derived.Handy
import Derived.Lib.Hide
import Derived.BigQuiet
import Derived.LoopTactic
import Derived.Maps.OwnSet

namespace Go.Proofs.Ytdmpimgbnhgiaaa
open Go.RowKit Go.St Go.Maps
set_option linter.unusedVariables false
set_option linter.unusedSimpArgs false
set_option maxRecDepth 100000

theorem empty_size (k : ByteArray) : k.toList.isEmpty = decide (k.size = 0) := by
  rw [Lib.toList_data]
  cases k with
  | mk a =>
    cases a with
    | mk l => cases l <;> simp [ByteArray.size]
/-- May a write be? -/
def okW (k v : ByteArray) (d : Bool) : Bool := decide (1 ≤ k.size ∧ k.size ≤ 512) && decide (v.size ≤ 4096) && (!d || decide (v.size = 0))
theorem okE_eq (e : Ent) : okE e = (decide (1 ≤ e.seq ∧ e.seq ≤ 1073741824) && okW e.key e.val e.del) := by
  unfold okE okW
  simp only [Bool.and_assoc]
set_option maxHeartbeats 1600000 in
theorem fine_any (k v : ByteArray) (d : Bool) (w : World) : Calls Try.prog 82 #[.agg #[.string k, .string v, .bool d]] w fun e w' => e = .returned (.bool (okW k v d)) ∧ Below w.heap.size w w' := by
  have e1 := empty_size k
  have e2 := empty_size v
  by_cases a1 : k.size = 0
  · have hz : okW k v d = false := by simp [okW, a1]
    rw [hz]
    rw [decide_eq_true a1] at e1
    clear hz e2
    have a1' : ¬ (1 ≤ (k.size : Int)) := by omega
    clear a1
    go_enter Try.func82, Try.ntmps82
    go_wp2
    go_ret
    exact ⟨rfl, (Below.refl _ _).alloc (Nat.le_refl _) _⟩
  rw [decide_eq_false a1] at e1
  have a1' : 1 ≤ (k.size : Int) := by omega
  have b1 : 1 ≤ k.size := by omega
  clear a1
  by_cases a2 : k.size ≤ 512
  case neg =>
    have hz : okW k v d = false := by simp [okW, a2]
    rw [hz]
    clear hz e2
    have a2' : ¬ ((k.size : Int) ≤ 512) := by omega
    clear a2 b1
    go_enter Try.func82, Try.ntmps82
    go_wp2
    go_ret
    exact ⟨rfl, (Below.refl _ _).alloc (Nat.le_refl _) _⟩
  have a2' : (k.size : Int) ≤ 512 := by omega
  by_cases a3 : v.size ≤ 4096
  case neg =>
    have hz : okW k v d = false := by simp [okW, a3]
    rw [hz]
    clear hz e2
    have a3' : ¬ ((v.size : Int) ≤ 4096) := by omega
    clear a3 b1 a2
    go_enter Try.func82, Try.ntmps82
    go_wp2
    go_ret
    exact ⟨rfl, (Below.refl _ _).alloc (Nat.le_refl _) _⟩
  have a3' : (v.size : Int) ≤ 4096 := by omega
  have hz : okW k v d = (!d || decide (v.size = 0)) := by simp [okW, a2, a3, b1]
  rw [hz]
  clear hz a2 a3 b1
  rw [← e2]
  clear e2
  cases d
  · show Calls _ _ _ _ fun e w' => e = .returned (.bool true) ∧ _
    go_enter Try.func82, Try.ntmps82
    go_wp2
    go_ret
    exact ⟨rfl, (Below.refl _ _).alloc (Nat.le_refl _) _⟩
  · cases hz : v.toList.isEmpty
    all_goals
      go_enter Try.func82, Try.ntmps82
      go_wp2
      go_ret
      exact ⟨by simp [hz], (Below.refl _ _).alloc (Nat.le_refl _) _⟩
set_option maxHeartbeats 1600000 in
theorem rfine_any (k v : ByteArray) (d : Bool) (w : World) : Calls Try.prog 72 #[.agg #[.string k, .string v, .bool d]] w fun e w' => e = .returned (.bool (okW k v d)) ∧ Below w.heap.size w w' := by
  have e1 := empty_size k
  have e2 := empty_size v
  by_cases a1 : k.size = 0
  · have hz : okW k v d = false := by simp [okW, a1]
    rw [hz]
    rw [decide_eq_true a1] at e1
    clear hz e2
    have a1' : ¬ (1 ≤ (k.size : Int)) := by omega
    clear a1
    go_enter Try.func72, Try.ntmps72
    go_wp2
    go_ret
    exact ⟨rfl, (Below.refl _ _).alloc (Nat.le_refl _) _⟩
  rw [decide_eq_false a1] at e1
  have a1' : 1 ≤ (k.size : Int) := by omega
  have b1 : 1 ≤ k.size := by omega
  clear a1
  by_cases a2 : k.size ≤ 512
  case neg =>
    have hz : okW k v d = false := by simp [okW, a2]
    rw [hz]
    clear hz e2
    have a2' : ¬ ((k.size : Int) ≤ 512) := by omega
    clear a2 b1
    go_enter Try.func72, Try.ntmps72
    go_wp2
    go_ret
    exact ⟨rfl, (Below.refl _ _).alloc (Nat.le_refl _) _⟩
  have a2' : (k.size : Int) ≤ 512 := by omega
  by_cases a3 : v.size ≤ 4096
  case neg =>
    have hz : okW k v d = false := by simp [okW, a3]
    rw [hz]
    clear hz e2
    have a3' : ¬ ((v.size : Int) ≤ 4096) := by omega
    clear a3 b1 a2
    go_enter Try.func72, Try.ntmps72
    go_wp2
    go_ret
    exact ⟨rfl, (Below.refl _ _).alloc (Nat.le_refl _) _⟩
  have a3' : (v.size : Int) ≤ 4096 := by omega
  have hz : okW k v d = (!d || decide (v.size = 0)) := by simp [okW, a2, a3, b1]
  rw [hz]
  clear hz a2 a3 b1
  rw [← e2]
  clear e2
  cases d
  · show Calls _ _ _ _ fun e w' => e = .returned (.bool true) ∧ _
    go_enter Try.func72, Try.ntmps72
    go_wp2
    go_ret
    exact ⟨rfl, (Below.refl _ _).alloc (Nat.le_refl _) _⟩
  · cases hz : v.toList.isEmpty
    all_goals
      go_enter Try.func72, Try.ntmps72
      go_wp2
      go_ret
      exact ⟨by simp [hz], (Below.refl _ _).alloc (Nat.le_refl _) _⟩
end Go.Proofs.Ytdmpimgbnhgiaaa

namespace Go.Proofs.Ytdmpimgbnhgiaaa
open Go.RowKit Go.St Go.Maps Go.WideMaps
set_option linter.unusedVariables false
set_option linter.unusedSimpArgs false
set_option maxRecDepth 100000

def chkW (k v : ByteArray) (d : Bool) : Int := if okW k v d then 0 else 2
theorem lawS : Keyed Try.prog 9 := string_keyed Try.underlying9
theorem zeroU (w : World) : (zeroValue 119).run Try.prog w = .ok (.agg #[]) w := by kernel_rfl
set_option maxHeartbeats 1600000 in
theorem wcheck_any (b off c : Nat) (k v : ByteArray) (d : Bool) (w : World) (hk : k.size ≤ maxLen) (hb : b < w.heap.size) (h0 : w.cell? ⟨b, off, none⟩ = some (.string k)) (h1 : w.cell? ⟨b, off + 1, none⟩ = some (.string v)) (h2 : w.cell? ⟨b, off + 2, none⟩ = some (.bool d)) :
    Calls Try.prog 62 #[.slice (some ⟨b, off, none⟩) 1 c] w fun e w' => e = .returned (.int .i64 (chkW k v d)) ∧ Below w.heap.size w w' := by
  have HF := Lib.hid (fun W => fine_any k v d W)
  unfold chkW
  generalize okW k v d = z at *
  have hkey := keyOf_string_mk (P := Try.prog) Try.underlying9 hk
  have HKEY := Lib.hid hkey
  clear hk hkey
  cases z
  · go_enter Try.func62, Try.ntmps62
    go_wp2_with fail
    refine wp_loop_rounds 1 ?_
    rw [rounds_succ]
    go_wp2_with fail
    refine (HF.out _).mono ?_
    rintro e w2 ⟨rfl, hb2⟩
    go_wp2_with fail
    go_ret
    exact ⟨rfl, ((Below.refl _ _).alloc (Nat.le_refl _) _).trans (hb2.mono (by simp))⟩
  · have hmm := @run_makeMap Try.prog
    go_enter Try.func62, Try.ntmps62
    go_wp2_with fail
    refine wp_loop_rounds 2 ?_
    rw [rounds_succ]
    go_wp2_with fail
    refine (HF.out _).mono ?_
    rintro e w2 ⟨rfl, hb2⟩
    have HB2 : Hid (Below w.heap.size w w2) := Lib.hid (((Below.refl _ _).alloc (Nat.le_refl _) _).trans (hb2.mono (by simp)))
    have c0 := (HB2.out.cell (p := ⟨b, off, none⟩) hb).trans h0
    have c1 := (HB2.out.cell (p := ⟨b, off + 1, none⟩) hb).trans h1
    have c2 := (HB2.out.cell (p := ⟨b, off + 2, none⟩) hb).trans h2
    have hb' : b < w2.heap.size := by have := HB2.out.size; omega
    clear hb2 h0 h1 h2 hb
    go_wp2_with fail
    rw [rounds_succ]
    go_wp2_with fail
    have OM : Hid ((w2.alloc (.map #[] 0)).ownsMap Try.prog 9 (unitElem (H := Unit)) w2.heap.size 0 (.map [])) := Lib.hid (World.ownsMap_made _ _ _ _)
    have B3 : Hid (Below w.heap.size w (w2.alloc (.map #[] 0))) := Lib.hid (HB2.out.alloc HB2.out.size _)
    have d0 := (((Below.refl w2.heap.size w2).alloc (Nat.le_refl _) (.map #[] 0)).cell (p := ⟨b, off, none⟩) hb').trans c0
    have d1 := (((Below.refl w2.heap.size w2).alloc (Nat.le_refl _) (.map #[] 0)).cell (p := ⟨b, off + 1, none⟩) hb').trans c1
    have d2 := (((Below.refl w2.heap.size w2).alloc (Nat.le_refl _) (.map #[] 0)).cell (p := ⟨b, off + 2, none⟩) hb').trans c2
    have hs3 : w2.heap.size < (w2.alloc (.map #[] 0)).heap.size := by simp
    have hb3 : b < (w2.alloc (.map #[] 0)).heap.size := by simp; omega
    clear c0 c1 c2 hb'
    have hw2 : w.heap.size ≤ w2.heap.size := HB2.out.size
    clear HB2
    generalize w2.alloc (.map #[] 0) = w3 at *
    generalize w2.heap.size = m at *
    refine wp_loop_rounds 2 ?_
    rw [rounds_succ]
    have OM4 := Lib.hid (OM.out.alloc (.cells #[.string k, .string v, .bool d] 103))
    have B4 := Lib.hid (B3.out.alloc B3.out.size (.cells #[.string k, .string v, .bool d] 103))
    have hnot : Maps.has (H := Unit) (.map []) (.string k.data.toList) = false := rfl
    have OM5 := Lib.hid (OM4.out.alloc (.cells #[] 119))
    have B5 := Lib.hid (B4.out.alloc B4.out.size (.cells #[] 119))
    go_wp2_with (first | (at_lookup; refine wpList_lookup_own_unit _ rfl _ _ 118 rfl 9 119 lawS Try.underlying118 (zeroU _) m 0 _ rfl OM4.out _ _ rfl HKEY.out ?_) | (at_mapUpdate; refine wpList_mapUpdate_own _ rfl _ _ _ 118 rfl 9 119 lawS Try.underlying118 (unitElem (H := Unit)) m 0 _ rfl OM5.out (by decide) _ _ _ rfl rfl HKEY.out _ [] unitElem_mk ?_; intro w1 hown1 hgrow1))
    have B6 := Lib.hid (B5.out.grown hgrow1 B5.out.size (fun j hj => by cases hj; exact hw2))
    clear hown1 hgrow1 OM OM4 OM5 B3 B4 B5
    rw [rounds_succ]
    go_wp2_with fail
    go_ret
    exact ⟨rfl, B6.out⟩

set_option maxHeartbeats 1600000 in
theorem rcheck6_any (x : Ent) (w : World) : Calls Try.prog 40 #[.agg #[.string x.key, .string x.val, .int .i64 x.seq, .bool x.del]] w fun e w' => e = .returned (.int .i64 (chkE x)) ∧ Below w.heap.size w w' := by
  by_cases a1 : x.seq < 1
  · have hz : chkE x = 2 := by unfold chkE; rw [okE_eq, decide_eq_false (by omega)]; rfl
    rw [hz]
    clear hz
    go_enter Try.func40, Try.ntmps40
    go_wp2_with fail
    go_ret
    exact ⟨rfl, (Below.refl _ _).alloc (Nat.le_refl _) _⟩
  by_cases a2 : 1073741824 < x.seq
  · have hz : chkE x = 2 := by unfold chkE; rw [okE_eq, decide_eq_false (by omega)]; rfl
    rw [hz]
    clear hz
    go_enter Try.func40, Try.ntmps40
    go_wp2_with fail
    go_ret
    exact ⟨rfl, (Below.refl _ _).alloc (Nat.le_refl _) _⟩
  have hz : chkE x = if okW x.key x.val x.del = true then 0 else 2 := by unfold chkE; rw [okE_eq, decide_eq_true (by omega), Bool.true_and]
  rw [hz]
  clear hz
  have HF := Lib.hid (fun W => rfine_any x.key x.val x.del W)
  generalize okW x.key x.val x.del = z at *
  go_enter Try.func40, Try.ntmps40
  go_wp2_with fail
  refine (HF.out _).mono ?_
  rintro e w2 ⟨rfl, hb2⟩
  have B2 : Hid (Below w.heap.size w w2) := Lib.hid (((Below.refl _ _).alloc (Nat.le_refl _) _).trans (hb2.mono (by simp)))
  clear hb2
  cases z
  · go_wp2_with fail
    go_ret
    exact ⟨rfl, B2.out⟩
  · go_wp2_with fail
    go_ret
    exact ⟨rfl, B2.out⟩
set_option maxHeartbeats 1600000 in
theorem check6_any (x : Ent) (hk : x.key.size ≤ maxLen) (w : World) : Calls Try.prog 32 #[.agg #[.string x.key, .string x.val, .int .i64 x.seq, .bool x.del]] w fun e w' => e = .returned (.int .i64 (chkE x)) ∧ Below w.heap.size w w' := by
  have HK := Lib.hid hk
  clear hk
  by_cases a1 : x.seq < 1
  · have hz : chkE x = 2 := by unfold chkE; rw [okE_eq, decide_eq_false (by omega)]; rfl
    rw [hz]
    clear hz
    go_enter Try.func32, Try.ntmps32
    go_wp2_with fail
    go_ret
    exact ⟨rfl, (Below.refl _ _).alloc (Nat.le_refl _) _⟩
  by_cases a2 : 1073741824 < x.seq
  · have hz : chkE x = 2 := by unfold chkE; rw [okE_eq, decide_eq_false (by omega)]; rfl
    rw [hz]
    clear hz
    go_enter Try.func32, Try.ntmps32
    go_wp2_with fail
    go_ret
    exact ⟨rfl, (Below.refl _ _).alloc (Nat.le_refl _) _⟩
  have hz : chkE x = chkW x.key x.val x.del := by unfold chkE chkW; rw [okE_eq, decide_eq_true (by omega), Bool.true_and]
  rw [hz]
  clear hz
  have HC := Lib.hid (fun b off c W h1 h2 h3 h4 => wcheck_any b off c x.key x.val x.del W HK.out h1 h2 h3 h4)
  have hz : chkW x.key x.val x.del = 0 ∨ chkW x.key x.val x.del = 2 := by unfold chkW; split <;> simp
  generalize chkW x.key x.val x.del = z at *
  have HZ := Lib.hid hz
  clear hz
  go_enter Try.func32, Try.ntmps32
  go_wp2_with fail
  refine (HC.out w.heap.size.succ 0 1 _ ?_ ?_ ?_ ?_).mono ?_
  · simp
  · simp
  · simp
  · simp
  rintro e w2 ⟨rfl, hb2⟩
  have B2 : Hid (Below w.heap.size w w2) := Lib.hid ((((Below.refl _ _).alloc (Nat.le_refl _) _).alloc (by simp) _).trans (hb2.mono (by simp; omega)))
  clear hb2
  rcases HZ.out with rfl | rfl
  · go_wp2_with fail
    go_ret
    exact ⟨rfl, B2.out⟩
  · go_wp2_with fail
    go_ret
    exact ⟨rfl, B2.out⟩
end Go.Proofs.Ytdmpimgbnhgiaaa

namespace Go.Proofs.Ytdmpimgbnhgiaaa
open Go.RowKit Go.St Go.Maps
set_option linter.unusedVariables false
set_option linter.unusedSimpArgs false
set_option maxRecDepth 100000

def cmpK (a b : ByteArray) : Int := if klt a b then -1 else if klt b a then 1 else 0
def cmpZ (a b : Int) : Int := if a < b then -1 else if b < a then 1 else 0
theorem cnan_any (x : ByteArray) (w : World) : Calls Try.prog 85 #[.string x] w fun e w' => e = .returned (.bool false) ∧ w = w' := by
  go_enter Try.func85, Try.ntmps85
  go_wp2
  go_ret
  exact ⟨by simp, rfl⟩
theorem cnani_any (x : Int) (w : World) : Calls Try.prog 86 #[.int .i64 x] w fun e w' => e = .returned (.bool false) ∧ w = w' := by
  go_enter Try.func86, Try.ntmps86
  go_wp2
  go_ret
  exact ⟨by simp, rfl⟩
set_option maxHeartbeats 800000 in
theorem cmpK_any (x y : ByteArray) (w : World) : Calls Try.prog 68 #[.string x, .string y] w fun e w' => e = .returned (.int .i64 (cmpK x y)) ∧ w = w' := by
  unfold cmpK klt
  cases h1 : Op.bytesLess x.toList y.toList
  · cases h2 : Op.bytesLess y.toList x.toList
    · obtain rfl : x = y := klt_tri h1 h2
      have e3 : (x.toList == x.toList) = true := by simp
      clear h2
      go_enter Try.func68, Try.ntmps68
      go_wp2_with (go_at_call 85; refine (cnan_any _ _).mono ?_; rintro e w' ⟨rfl, rfl⟩)
      go_ret
      exact ⟨rfl, rfl⟩
    · have e3 : (x.toList == y.toList) = false := by
        rw [str_eqB]
        exact decide_eq_false (fun e => by rw [e] at h2; rw [e, h2] at h1; cases h1)
      go_enter Try.func68, Try.ntmps68
      go_wp2_with (go_at_call 85; refine (cnan_any _ _).mono ?_; rintro e w' ⟨rfl, rfl⟩)
      go_ret
      exact ⟨rfl, rfl⟩
  · go_enter Try.func68, Try.ntmps68
    go_wp2_with (go_at_call 85; refine (cnan_any _ _).mono ?_; rintro e w' ⟨rfl, rfl⟩)
    go_ret
    exact ⟨rfl, rfl⟩
set_option maxHeartbeats 800000 in
theorem cmpZ_any (x y : Int) (w : World) : Calls Try.prog 69 #[.int .i64 x, .int .i64 y] w fun e w' => e = .returned (.int .i64 (cmpZ x y)) ∧ w = w' := by
  unfold cmpZ
  by_cases h1 : x < y
  · rw [if_pos h1]
    go_enter Try.func69, Try.ntmps69
    go_wp2_with (go_at_call 86; refine (cnani_any _ _).mono ?_; rintro e w' ⟨rfl, rfl⟩)
    go_ret
    exact ⟨rfl, rfl⟩
  rw [if_neg h1]
  by_cases h2 : y < x
  · rw [if_pos h2]
    go_enter Try.func69, Try.ntmps69
    go_wp2_with (go_at_call 86; refine (cnani_any _ _).mono ?_; rintro e w' ⟨rfl, rfl⟩)
    go_ret
    exact ⟨rfl, rfl⟩
  · rw [if_neg h2]
    go_enter Try.func69, Try.ntmps69
    go_wp2_with (go_at_call 86; refine (cnani_any _ _).mono ?_; rintro e w' ⟨rfl, rfl⟩)
    go_ret
    exact ⟨rfl, rfl⟩
set_option maxHeartbeats 800000 in
theorem or2_any (b c : Nat) (x y r : Int) (hr : r = if x = 0 then y else x) (w : World) (hb : b < w.heap.size) (h0 : w.cell? ⟨b, 0, none⟩ = some (.int .i64 x)) (h1 : w.cell? ⟨b, 1, none⟩ = some (.int .i64 y)) :
    Calls Try.prog 67 #[.slice (some ⟨b, 0, none⟩) 2 c] w fun e w' => e = .returned (.int .i64 r) ∧ w = w' := by
  subst hr
  by_cases hx : x = 0
  · rw [if_pos hx]
    subst hx
    by_cases hy : y = 0
    · subst hy
      go_enter Try.func67, Try.ntmps67
      go_wp2
      refine wp_loop_rounds 3 ?_
      rw [rounds_succ]
      go_wp2
      rw [rounds_succ]
      go_wp2
      rw [rounds_succ]
      go_wp2
      go_ret
      exact ⟨rfl, rfl⟩
    · have e1 : (y != 0) = true := by simpa using hy
      clear hy
      go_enter Try.func67, Try.ntmps67
      go_wp2
      refine wp_loop_rounds 2 ?_
      rw [rounds_succ]
      go_wp2
      rw [rounds_succ]
      go_wp2
      go_ret
      exact ⟨rfl, rfl⟩
  · have e1 : (x != 0) = true := by simpa using hx
    rw [if_neg hx]
    clear hx
    go_enter Try.func67, Try.ntmps67
    go_wp2
    refine wp_loop_rounds 1 ?_
    rw [rounds_succ]
    go_wp2
    go_ret
    exact ⟨rfl, rfl⟩
theorem ahead_val (a b : Ent) : decide ((if cmpK a.key b.key = 0 then cmpZ b.seq a.seq else cmpK a.key b.key) < 0) = ltE a b := by
  unfold ltE cmpK cmpZ
  cases h1 : klt a.key b.key
  · cases h2 : klt b.key a.key
    · have e := klt_tri h1 h2
      by_cases h3 : b.seq < a.seq
      · simp [e, h3]
      · by_cases h4 : a.seq < b.seq <;> simp [e, h3, h4]
    · have e : ¬ a.key = b.key := fun e => by rw [e, klt_irr] at h2; cases h2
      simp [e]
  · simp
set_option maxHeartbeats 1600000 in
theorem ahead_any (x y : Ent) (w : World) : Calls Try.prog 37 #[.agg #[.string x.key, .string x.val, .int .i64 x.seq, .bool x.del], .agg #[.string y.key, .string y.val, .int .i64 y.seq, .bool y.del]] w fun e w' => e = .returned (.bool (ltE x y)) ∧ Below w.heap.size w w' := by
  have HV := Lib.hid (ahead_val x y)
  go_enter Try.func37, Try.ntmps37
  go_wp2_with fail
  have B2 : Hid (Below w.heap.size w ((w.alloc (.cells #[.string x.key, .string x.val, .int .i64 x.seq, .bool x.del] 40)).alloc (.cells #[.string y.key, .string y.val, .int .i64 y.seq, .bool y.del] 40))) := Lib.hid (((Below.refl _ _).alloc (Nat.le_refl _) _).alloc (by simp) _)
  have X1 : BxV ((w.alloc (.cells #[.string x.key, .string x.val, .int .i64 x.seq, .bool x.del] 40)).alloc (.cells #[.string y.key, .string y.val, .int .i64 y.seq, .bool y.del] 40)) w.heap.size [.string x.key, .string x.val, .int .i64 x.seq, .bool x.del] := (BxV.new w _ _).alloc _
  have X2 : BxV ((w.alloc (.cells #[.string x.key, .string x.val, .int .i64 x.seq, .bool x.del] 40)).alloc (.cells #[.string y.key, .string y.val, .int .i64 y.seq, .bool y.del] 40)) (w.heap.size + 1) [.string y.key, .string y.val, .int .i64 y.seq, .bool y.del] := by
    have h := BxV.new (w.alloc (.cells #[.string x.key, .string x.val, .int .i64 x.seq, .bool x.del] 40)) #[.string y.key, .string y.val, .int .i64 y.seq, .bool y.del] 40
    rwa [World.size_alloc] at h
  have x0 := X1.c 0 _ rfl
  have x2 := X1.c 2 _ rfl
  have xl := X1.lt
  have y0 := X2.c 0 _ rfl
  have y2 := X2.c 2 _ rfl
  have yl := X2.lt
  clear X1 X2
  generalize (w.alloc (.cells #[.string x.key, .string x.val, .int .i64 x.seq, .bool x.del] 40)).alloc (.cells #[.string y.key, .string y.val, .int .i64 y.seq, .bool y.del] 40) = w2 at *
  refine wp_qtail 10 (by kernel_rfl) (by kernel_rfl) ?_
  intro hcg
  simp only [List.take_succ_cons, List.take_zero, List.drop_succ_cons, List.drop_zero]
  repeat (first | go_big_quiet_step ((with_reducible (first | exact Calls.regs ((cmpK_any _ _ _).mono fun _ _ ⟨h1, h2⟩ => ⟨h1, h2.symm⟩) | exact Calls.regs ((cmpZ_any _ _ _).mono fun _ _ ⟨h1, h2⟩ => ⟨h1, h2.symm⟩)))) | quiet_step ((with_reducible (first | exact Calls.regs ((cmpK_any _ _ _).mono fun _ _ ⟨h1, h2⟩ => ⟨h1, h2.symm⟩) | exact Calls.regs ((cmpZ_any _ _ _).mono fun _ _ ⟨h1, h2⟩ => ⟨h1, h2.symm⟩)))))
  refine wpQuiet_nil ?_
  intro wq hbwq hcwq hfwq
  clear hcg
  have B3 := Lib.hid (B2.out.trans (hbwq.mono B2.out.size))
  clear hbwq hcwq hfwq B2 x0 x2 xl y0 y2 yl
  generalize cmpK x.key y.key = p at *
  generalize cmpZ y.seq x.seq = q at *
  obtain ⟨r, hr⟩ : ∃ r, r = (if p = 0 then q else p) := ⟨_, rfl⟩
  rw [← hr] at HV
  have HR := Lib.hid hr
  clear hr
  go_wp2_with fail
  refine (or2_any wq.heap.size 2 p q r HR.out _ (by simp) (by simp) (by simp)).mono ?_
  rintro e w4 ⟨rfl, rfl⟩
  have B4 := Lib.hid (B3.out.alloc B3.out.size (.cells #[.int .i64 p, .int .i64 q] 3))
  go_wp2_with fail
  go_ret
  exact ⟨ret_bool HV.out, B4.out⟩
end Go.Proofs.Ytdmpimgbnhgiaaa
