/- Walks: the visible version of a key, found by halves and found by going through. -/
import Derived.Test.YtjhgbdeadkoegaaEg
namespace Go.Proofs.Ytjhgbdeadkoegaa
open Go.RowKit Go.St Go.Maps
set_option linter.unusedVariables false
set_option linter.unusedSimpArgs false
set_option maxRecDepth 100000

theorem below_place {l : List Ent} {g : Ent} (h : risE l = true) {m : Nat} {y : Ent} (hy : l[m]? = some y) (hl : ltE y g = true) : ∀ i e, i < m + 1 → l[i]? = some e → ltE e g = true := fun i e hi he => by
  rcases Nat.lt_or_ge i m with h1 | h1
  · exact ltE_tr (risE_pw h i m e y h1 he hy) hl
  · have : i = m := by omega
    subst this
    rw [hy] at he
    injection he with he
    rw [← he]
    exact hl
theorem above_place {l : List Ent} {g : Ent} (h : risE l = true) {m : Nat} {y : Ent} (hy : l[m]? = some y) (hl : ltE y g = false) : ∀ i e, m ≤ i → l[i]? = some e → ltE e g = false := fun i e hi he => by
  rcases Nat.lt_or_ge m i with h1 | h1
  · cases h2 : ltE e g
    · rfl
    · rw [ltE_tr (risE_pw h m i y e h1 hy he) h2] at hl
      cases hl
  · have : i = m := by omega
    subst this
    rw [hy] at he
    injection he with he
    rw [← he]
    exact hl
def fndE (l : List Ent) (key : ByteArray) (seq : Int) : Ent := (findE l key seq).getD Ent.z
def isE (l : List Ent) (key : ByteArray) (seq : Int) : Bool := (findE l key seq).isSome
theorem fnd_none {l : List Ent} {key : ByteArray} {seq : Int} (h : findE l key seq = none) : fndE l key seq = Ent.z ∧ isE l key seq = false := by
  unfold fndE isE
  rw [h]
  exact ⟨rfl, rfl⟩
theorem fnd_some {l : List Ent} {key : ByteArray} {seq : Int} {x : Ent} (h : findE l key seq = some x) : fndE l key seq = x ∧ isE l key seq = true := by
  unfold fndE isE
  rw [h]
  exact ⟨rfl, rfl⟩
theorem find_hit {l : List Ent} {key : ByteArray} {seq : Int} {i : Nat} {x : Ent} (h : ∀ j y, j < i → l[j]? = some y → visF key seq y = false) (hx : l[i]? = some x) (hv : visF key seq x = true) : findE l key seq = some x := by
  unfold findE
  have e : l = l.take i ++ l.drop i := (List.take_append_drop _ _).symm
  rw [e, List.find?_append, List.find?_eq_none.2, Option.none_or, drop_at hx, List.find?_cons, hv]
  intro y hy
  obtain ⟨j, hj⟩ := List.mem_iff_getElem?.1 hy
  rw [List.getElem?_take] at hj
  split at hj
  · rename_i h1
    rw [h j y h1 hj]
    simp
  · cases hj
theorem find_non {l : List Ent} {key : ByteArray} {seq : Int} {i : Nat} (h : ∀ j y, j < i → l[j]? = some y → visF key seq y = false) (hi : l.length ≤ i) : findE l key seq = none := by
  unfold findE
  rw [List.find?_eq_none]
  intro y hy
  obtain ⟨j, hj⟩ := List.mem_iff_getElem?.1 hy
  rw [h j y (by have := (List.getElem?_eq_some_iff.1 hj).1; omega) hj]
  simp
set_option maxHeartbeats 3200000 in
theorem rvisible_any (A : Option Addr) (n c : Nat) (l : List Ent) (hl : l.length = n) (hn : n ≤ 1000000) (key : ByteArray) (seq : Int) (B : Nat) (w : World) (hr : Rd w B A (env l)) (hB : B ≤ w.heap.size) :
    Calls Try.prog 55 #[.slice A n c, .string key, .int .i64 seq] w fun e w' => e = .returned (.tuple #[(fndE l key seq).v, .bool (isE l key seq)]) ∧ Below w.heap.size w w' := by
  obtain ⟨S, hS⟩ : ∃ S, S = fndE l key seq := ⟨_, rfl⟩
  obtain ⟨E, hE⟩ : ∃ E, E = isE l key seq := ⟨_, rfl⟩
  rw [← hS, ← hE]
  have HS := Lib.hid hS
  have HE := Lib.hid hE
  have HL := Lib.hid hl
  have HR := Lib.hid hr
  clear hl hr hS hE
  unfold Ent.v
  go_enter Try.func55, Try.ntmps55
  go_wp2_with fail
  have X1 : Hid (BxV (w.alloc (.cells #[.string { data := #[] }, .string { data := #[] }, .int .i64 0, .bool false] 32)) w.heap.size [.string { data := #[] }, .string { data := #[] }, .int .i64 0, .bool false]) := Lib.hid (BxV.new w _ _)
  have B1 : Hid (Below w.heap.size w (w.alloc (.cells #[.string { data := #[] }, .string { data := #[] }, .int .i64 0, .bool false] 32))) := Lib.hid ((Below.refl _ _).alloc (Nat.le_refl _) _)
  generalize w.alloc (.cells #[.string { data := #[] }, .string { data := #[] }, .int .i64 0, .bool false] 32) = w1 at *
  go_loopw [8] (fun s8 wr => ∃ i : Nat, s8 = .int .i64 (i : Int) ∧ i ≤ n ∧ Hid (∀ j y, j < i → l[j]? = some y → visF key seq y = false) ∧ Hid (BxV wr w.heap.size [.string { data := #[] }, .string { data := #[] }, .int .i64 0, .bool false]) ∧ Hid (Below w.heap.size w wr)) (fun s8 _ => n - (intOf s8).toNat)
  case atStart => exact ⟨0, rfl, Nat.zero_le _, Lib.hid (fun j y hj => by omega), X1, B1⟩
  case round =>
    clear X1 B1
    obtain ⟨i, rfl, hi, HU, XB, B2⟩ := hrel
    obtain ⟨w2, rfl⟩ : ∃ x, x = wr := ⟨_, rfl⟩
    have X9 := XB
    have B9 := B2
    by_cases hlt : i < n
    · obtain ⟨x, hx⟩ : ∃ x, l[i]? = some x := ⟨_, List.getElem?_eq_getElem (by rw [HL.out]; exact hlt)⟩
      have R2 := HR.out.below (B2.out.mono hB)
      obtain ⟨b, off, rfl, hb, hce⟩ := en_at R2 hx
      obtain ⟨d0, d1, d2, d3⟩ := hce
      have HX := Lib.hid hx
      have i1 : (i : Int) < (n : Int) := by omega
      have i0 : (0 : Int) ≤ (i : Int) := by omega
      clear hx R2
      by_cases hk : x.key = key
      · have e1 : (x.key.toList == key.toList) = true := by rw [str_eqB]; exact decide_eq_true hk
        by_cases hs : x.seq ≤ seq
        · have hz := find_hit HU.out HX.out (by unfold visF; rw [decide_eq_true hk, decide_eq_true hs]; rfl)
          have SE := fnd_some hz
          have SE1 := Lib.hid (HS.out.trans SE.1)
          have SE2 := Lib.hid (HE.out.trans SE.2)
          clear hz SE HS HE hk
          have q0 := X9.out.c 0 _ rfl
          have q1 := X9.out.c 1 _ rfl
          have q2 := X9.out.c 2 _ rfl
          have q3 := X9.out.c 3 _ rfl
          have qf := X9.out.fz
          go_wp2_with fail
          change bodyPost _ _ _ _ _ (World.setCells w2 w.heap.size 0 [.string x.key, .string x.val, .int .i64 x.seq, .bool x.del])
          have RB := (X9.out.set [.string x.key, .string x.val, .int .i64 x.seq, .bool x.del] rfl)
          have BZ := bel_setCells (b := w.heap.size) (Nat.le_refl _) [.string x.key, .string x.val, .int .i64 x.seq, .bool x.del] 0 _ B9.out
          have r0 := RB.c 0 _ rfl
          have r1 := RB.c 1 _ rfl
          have r2 := RB.c 2 _ rfl
          have r3 := RB.c 3 _ rfl
          generalize World.setCells w2 w.heap.size 0 [.string x.key, .string x.val, .int .i64 x.seq, .bool x.del] = wz at *
          refine bodyPost_ret (v := .tuple #[.agg #[.string x.key, .string x.val, .int .i64 x.seq, .bool x.del], .bool true]) (by simp [results, Try.results55, go_sem, r0, r1, r2, r3]) rfl ⟨?_, BZ⟩
          rw [SE1.out, SE2.out]
          all_goals rfl
        · have hv : Hid (visF key seq x = false) := Lib.hid (by unfold visF; rw [decide_eq_false hs, Bool.and_false])
          clear hk
          have HU9 : Hid (∀ j y, j < i + 1 → l[j]? = some y → visF key seq y = false) := Lib.hid (fun j y hj hy => by
            rcases Nat.lt_or_ge j i with h | h
            · exact HU.out j y h hy
            · have e : j = i := by omega
              subst e
              have h2 := HX.out
              rw [hy] at h2
              injection h2 with h2
              rw [h2]
              exact hv.out)
          clear HU
          go_wp2_with fail
          go_roundw
          case rel => exact ⟨i + 1, by go_num, by omega, HU9, XB, B2⟩
          case measure => simp [intOf]; omega
      · have e1 : (x.key.toList == key.toList) = false := by rw [str_eqB]; exact decide_eq_false hk
        have hv : Hid (visF key seq x = false) := Lib.hid (by unfold visF; rw [decide_eq_false hk]; rfl)
        clear hk
        have HU9 : Hid (∀ j y, j < i + 1 → l[j]? = some y → visF key seq y = false) := Lib.hid (fun j y hj hy => by
          rcases Nat.lt_or_ge j i with h | h
          · exact HU.out j y h hy
          · have e : j = i := by omega
            subst e
            have h2 := HX.out
            rw [hy] at h2
            injection h2 with h2
            rw [h2]
            exact hv.out)
        clear HU
        go_wp2_with fail
        go_roundw
        case rel => exact ⟨i + 1, by go_num, by omega, HU9, XB, B2⟩
        case measure => simp [intOf]; omega
    · have i1 : ¬ (i : Int) < (n : Int) := by omega
      have hz := find_non HU.out (by rw [HL.out]; omega)
      have SE := fnd_none hz
      have SE1 := Lib.hid (HS.out.trans SE.1)
      have SE2 := Lib.hid (HE.out.trans SE.2)
      clear hz SE HS HE hlt
      have q0 := X9.out.c 0 _ rfl
      have q1 := X9.out.c 1 _ rfl
      have q2 := X9.out.c 2 _ rfl
      have q3 := X9.out.c 3 _ rfl
      have qf := X9.out.fz
      go_wp2_with fail
      change bodyPost _ _ _ _ _ (World.setCells w2 w.heap.size 0 [.string { data := #[] }, .string { data := #[] }, .int .i64 0, .bool false])
      have RB := (X9.out.set [.string { data := #[] }, .string { data := #[] }, .int .i64 0, .bool false] rfl)
      have BZ := bel_setCells (b := w.heap.size) (Nat.le_refl _) [.string { data := #[] }, .string { data := #[] }, .int .i64 0, .bool false] 0 _ B9.out
      have r0 := RB.c 0 _ rfl
      have r1 := RB.c 1 _ rfl
      have r2 := RB.c 2 _ rfl
      have r3 := RB.c 3 _ rfl
      generalize World.setCells w2 w.heap.size 0 [.string { data := #[] }, .string { data := #[] }, .int .i64 0, .bool false] = wz at *
      refine bodyPost_ret (v := .tuple #[.agg #[.string { data := #[] }, .string { data := #[] }, .int .i64 0, .bool false], .bool false]) (by simp [results, Try.results55, go_sem, r0, r1, r2, r3]) rfl ⟨?_, BZ⟩
      rw [SE1.out, SE2.out]
      all_goals rfl
end Go.Proofs.Ytjhgbdeadkoegaa
