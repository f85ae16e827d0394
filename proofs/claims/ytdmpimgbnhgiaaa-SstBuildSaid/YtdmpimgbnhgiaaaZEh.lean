/- Walks: the visible version of a key, found by halves and found by going through. -/
import Derived.Test.YtdmpimgbnhgiaaaZEg

namespace Go.Proofs.Ytdmpimgbnhgiaaa
open Go.RowKit Go.St Go.Maps
set_option linter.unusedVariables false
set_option linter.unusedSimpArgs false
set_option maxRecDepth 100000

def cmpE (x y : Ent) : Int := if ltE x y then -1 else 1
set_option maxHeartbeats 800000 in
theorem find1_any (x y : Ent) (w : World) : Calls Try.prog 60 #[.agg #[.string x.key, .string x.val, .int .i64 x.seq, .bool x.del], .agg #[.string y.key, .string y.val, .int .i64 y.seq, .bool y.del]] w fun e w' => e = .returned (.int .i64 (cmpE x y)) ∧ Below w.heap.size w w' := by
  have HA := Lib.hid (fun W => ahead_any x y W)
  unfold cmpE
  generalize ltE x y = z at *
  cases z
  all_goals
    go_enter Try.func60, Try.ntmps60
    go_wp2_with fail
    refine (HA.out _).mono ?_
    rintro e w2 ⟨rfl, hb2⟩
    have B2 : Hid (Below w.heap.size w w2) := Lib.hid ((((Below.refl _ _).alloc (Nat.le_refl _) _).alloc (by simp) _).trans (hb2.mono (by simp; omega)))
    clear hb2
    go_wp2_with fail
    go_ret
    exact ⟨rfl, B2.out⟩

theorem below_place {l : List Ent} {g : Ent} (h : risE l = true) {m : Nat} {y : Ent} (hy : l[m]? = some y) (hl : ltE y g = true) : ∀ i e, i < m + 1 → l[i]? = some e → ltE e g = true := fun i e hi he => by
  rcases Nat.lt_or_ge i m with h1 | h1
  · exact ltE_tr (risE_pw h i m e y h1 he hy) hl
  · have : i = m := by omega
    subst this
    rw [hy] at he
    injection he with he
    rw [← he]
    exact hl
theorem above_place {l : List Ent} {g : Ent} (h : risE l = true) {m : Nat} {y : Ent} (hy : l[m]? = some y) (hl : ltE y g = false) : ∀ i e, m ≤ i → l[i]? = some e → ltE e g = false := fun i e hi he => by
  rcases Nat.lt_or_ge m i with h1 | h1
  · cases h2 : ltE e g
    · rfl
    · rw [ltE_tr (risE_pw h m i y e h1 hy he) h2] at hl
      cases hl
  · have : i = m := by omega
    subst this
    rw [hy] at he
    injection he with he
    rw [← he]
    exact hl
set_option maxHeartbeats 3200000 in
theorem bsE_any (A : Option Addr) (n c : Nat) (l : List Ent) (hl : l.length = n) (hn : n ≤ 1000000) (g : Ent) (ho : risE l = true) (B : Nat) (w : World) (hr : Rd w B A (env l)) (hB : B ≤ w.heap.size) :
    Calls Try.prog 59 #[.slice A n c, .agg #[.string g.key, .string g.val, .int .i64 g.seq, .bool g.del], .func (.func 60) #[] #[]] w fun e w' => e = .returned (.tuple #[.int .i64 (plcE l g : Nat), .bool false]) ∧ Below w.heap.size w w' := by
  have HL := Lib.hid hl
  have HR := Lib.hid hr
  have HO := Lib.hid ho
  clear hl hr ho
  obtain ⟨I, hI⟩ : ∃ I, I = plcE l g := ⟨_, rfl⟩
  rw [← hI]
  have HI := Lib.hid hI
  clear hI
  go_enter Try.func59, Try.ntmps59
  go_wp2_with fail
  have X1 : Hid (BxV (w.alloc (.cells #[.string g.key, .string g.val, .int .i64 g.seq, .bool g.del] 40)) w.heap.size [.string g.key, .string g.val, .int .i64 g.seq, .bool g.del]) := Lib.hid (BxV.new w _ _)
  have B1 : Hid (Below w.heap.size w (w.alloc (.cells #[.string g.key, .string g.val, .int .i64 g.seq, .bool g.del] 40))) := Lib.hid ((Below.refl _ _).alloc (Nat.le_refl _) _)
  have hz1 : w.heap.size < (w.alloc (.cells #[.string g.key, .string g.val, .int .i64 g.seq, .bool g.del] 40)).heap.size := by simp
  generalize w.alloc (.cells #[.string g.key, .string g.val, .int .i64 g.seq, .bool g.del] 40) = w1 at *
  have R1 := Lib.hid (HR.out.below (B1.out.mono hB))
  have hB1 : B ≤ w1.heap.size := by omega
  clear HR
  go_loopw [9, 10] (fun s9 s10 wr => ∃ lo hi : Nat, s9 = .int .i64 (lo : Int) ∧ s10 = .int .i64 (hi : Int) ∧ lo ≤ hi ∧ hi ≤ n ∧ Hid (∀ i e, i < lo → l[i]? = some e → ltE e g = true) ∧ Hid (∀ i e, hi ≤ i → l[i]? = some e → ltE e g = false) ∧ Hid (Below w1.heap.size w1 wr)) (fun s9 s10 _ => (intOf s10).toNat - (intOf s9).toNat)
  case atStart => exact ⟨0, n, rfl, rfl, Nat.zero_le _, Nat.le_refl _, Lib.hid (fun i e hi => by omega), Lib.hid (fun i e hi he => by have := (List.getElem?_eq_some_iff.1 he).1; have := HL.out; omega), Lib.hid (Below.refl _ _)⟩
  case round =>
    obtain ⟨lo, hi, rfl, rfl, hlh, hin, HA, HZ, hB2⟩ := hrel
    obtain ⟨w2, rfl⟩ : ∃ x, x = wr := ⟨_, rfl⟩
    have XS := Lib.hid (X1.out.below hB2.out (by omega))
    have s0 := XS.out.c 0 _ rfl
    have s1 := XS.out.c 1 _ rfl
    have s2 := XS.out.c 2 _ rfl
    have s3 := XS.out.c 3 _ rfl
    have sl := XS.out.lt
    by_cases hlt : lo < hi
    · obtain ⟨m, hm⟩ : ∃ m, m = (lo + hi) / 2 := ⟨_, rfl⟩
      have hmn : m < n := by omega
      have hm1 : lo ≤ m := by omega
      have hm2 : m < hi := by omega
      obtain ⟨x, hx⟩ : ∃ x, l[m]? = some x := ⟨_, List.getElem?_eq_getElem (by rw [HL.out]; omega)⟩
      obtain ⟨b, off, rfl, hb, hce⟩ := en_at R1.out hx
      obtain ⟨d0, d1, d2, d3⟩ := hce.below (Nat.lt_of_lt_of_le hb hB1) hB2.out
      have HX := Lib.hid hx
      have HC := Lib.hid (fun W => find1_any x g W)
      have zb : b < w2.heap.size := by have := hB2.out.size; omega
      have i1 : (m : Int) < (n : Int) := by omega
      have i0 : (0 : Int) ≤ (m : Int) := by omega
      have em : ((lo : Int) + (hi : Int)) / 2 = (m : Int) := by omega
      have em2 : (lo + hi) / 2 = m := hm.symm
      clear hce hx hm
      cases hq : ltE x g
      · have hz : cmpE x g = 1 := by unfold cmpE; rw [hq]; rfl
        rw [hz] at HC
        have HZ9 : Hid (∀ i e, m ≤ i → l[i]? = some e → ltE e g = false) := Lib.hid (above_place HO.out HX.out hq)
        clear hq hz XS
        go_wp2_with fail
        refine wp_qall (by kernel_rfl) (by kernel_rfl) ?_
        intro hcg
        repeat (first | go_big_quiet_step ((with_reducible (exact Calls.reg (HC.out _)))) | quiet_step ((with_reducible (exact Calls.reg (HC.out _)))))
        refine wpQuiet_nil ?_
        intro wq hbwq hcwq hfwq
        clear hcg
        have B9 := Lib.hid (hB2.out.trans (hbwq.mono hB2.out.size))
        clear hbwq hcwq hfwq
        go_wp2_with fail
        go_roundw
        case rel => exact ⟨lo, m, rfl, rfl, hm1, by omega, HA, HZ9, B9⟩
        case measure => simp [intOf]; omega
      · have hz : cmpE x g = -1 := by unfold cmpE; rw [hq]; rfl
        rw [hz] at HC
        have HA9 : Hid (∀ i e, i < m + 1 → l[i]? = some e → ltE e g = true) := Lib.hid (below_place HO.out HX.out hq)
        clear hq hz XS
        go_wp2_with fail
        refine wp_qall (by kernel_rfl) (by kernel_rfl) ?_
        intro hcg
        repeat (first | go_big_quiet_step ((with_reducible (exact Calls.reg (HC.out _)))) | quiet_step ((with_reducible (exact Calls.reg (HC.out _)))))
        refine wpQuiet_nil ?_
        intro wq hbwq hcwq hfwq
        clear hcg
        have B9 := Lib.hid (hB2.out.trans (hbwq.mono hB2.out.size))
        clear hbwq hcwq hfwq
        go_wp2_with fail
        go_roundw
        case rel => exact ⟨m + 1, hi, by go_num, rfl, by omega, hin, HA9, HZ, B9⟩
        case measure => simp [intOf]; omega
    · have e0 : hi = lo := by omega
      subst e0
      have hie : I = hi := by rw [HI.out]; exact plcE_eq (by rw [HL.out]; exact hin) HA.out (fun e he => HZ.out hi e (Nat.le_refl _) he)
      have HIE := Lib.hid hie
      clear hie
      by_cases hlt2 : hi < n
      · obtain ⟨x, hx⟩ : ∃ x, l[hi]? = some x := ⟨_, List.getElem?_eq_getElem (by rw [HL.out]; omega)⟩
        obtain ⟨b, off, rfl, hb, hce⟩ := en_at R1.out hx
        obtain ⟨d0, d1, d2, d3⟩ := hce.below (Nat.lt_of_lt_of_le hb hB1) hB2.out
        have HC := Lib.hid (fun W => find1_any x g W)
        have hz : cmpE x g = 1 := by unfold cmpE; rw [HZ.out hi x (Nat.le_refl _) hx]; rfl
        rw [hz] at HC
        have zb : b < w2.heap.size := by have := hB2.out.size; omega
        have i1 : (hi : Int) < (n : Int) := by omega
        have i2 : decide ((hi : Int) < (n : Int)) = true := decide_eq_true i1
        have i3 : decide (hi < n) = true := decide_eq_true hlt2
        have i0 : (0 : Int) ≤ (hi : Int) := by omega
        clear hce hx hz XS HA HZ
        go_wp2_with fail
        refine wp_qall (by kernel_rfl) (by kernel_rfl) ?_
        intro hcg
        repeat (first | go_big_quiet_step ((with_reducible (exact Calls.reg (HC.out _)))) | quiet_step ((with_reducible (exact Calls.reg (HC.out _)))))
        refine wpQuiet_nil ?_
        intro wq hbwq hcwq hfwq
        clear hcg
        have B9 := Lib.hid (hB2.out.trans (hbwq.mono hB2.out.size))
        clear hbwq hcwq hfwq
        go_wp2_with fail
        go_ret2
        exact ⟨by rw [HIE.out]; rfl, B1.out.trans (B9.out.mono (by omega))⟩
      · have i1 : ¬ (hi : Int) < (n : Int) := by omega
        have i2 : decide ((hi : Int) < (n : Int)) = false := decide_eq_false i1
        have i3 : decide (hi < n) = false := decide_eq_false hlt2
        clear XS HA HZ
        go_wp2_with fail
        refine wp_qall (by kernel_rfl) (by kernel_rfl) ?_
        intro hcg
        repeat (first | go_big_quiet_step (fail) | quiet_step (fail))
        refine wpQuiet_nil ?_
        intro wq hbwq hcwq hfwq
        clear hcg
        have B9 := Lib.hid (hB2.out.trans (hbwq.mono hB2.out.size))
        clear hbwq hcwq hfwq
        go_wp2_with fail
        go_ret2
        exact ⟨by rw [HIE.out]; rfl, B1.out.trans (B9.out.mono (by omega))⟩

def fndE (l : List Ent) (key : ByteArray) (seq : Int) : Ent := (findE l key seq).getD Ent.z
def isE (l : List Ent) (key : ByteArray) (seq : Int) : Bool := (findE l key seq).isSome
theorem fnd_none {l : List Ent} {key : ByteArray} {seq : Int} (h : findE l key seq = none) : fndE l key seq = Ent.z ∧ isE l key seq = false := by
  unfold fndE isE
  rw [h]
  exact ⟨rfl, rfl⟩
theorem fnd_some {l : List Ent} {key : ByteArray} {seq : Int} {x : Ent} (h : findE l key seq = some x) : fndE l key seq = x ∧ isE l key seq = true := by
  unfold fndE isE
  rw [h]
  exact ⟨rfl, rfl⟩
set_option maxHeartbeats 3200000 in
theorem find_any (A : Option Addr) (n c : Nat) (l : List Ent) (hl : l.length = n) (hn : n ≤ 1000000) (ho : risE l = true) (key : ByteArray) (seq : Int) (B : Nat) (w : World) (hr : Rd w B A (env l)) (hB : B ≤ w.heap.size) :
    Calls Try.prog 26 #[.slice A n c, .string key, .int .i64 seq] w fun e w' => e = .returned (.tuple #[(fndE l key seq).v, .bool (isE l key seq)]) ∧ Below w.heap.size w w' := by
  have HF := Lib.hid (find_plc ho key seq)
  have HBS := Lib.hid (fun W h k => bsE_any A n c l hl hn ⟨key, zB, seq, false⟩ ho B W h k)
  obtain ⟨S, hS⟩ : ∃ S, S = fndE l key seq := ⟨_, rfl⟩
  obtain ⟨E, hE⟩ : ∃ E, E = isE l key seq := ⟨_, rfl⟩
  rw [← hS, ← hE]
  have HS := Lib.hid hS
  have HE := Lib.hid hE
  have HL := Lib.hid hl
  have HR := Lib.hid hr
  clear hl hr ho hS hE
  have hpl := plcE_le l ⟨key, zB, seq, false⟩
  rw [HL.out] at hpl
  generalize plcE l ⟨key, zB, seq, false⟩ = p at *
  unfold Ent.v
  dsimp only at HBS
  go_enter Try.func26, Try.ntmps26
  go_wp2_with fail
  have X1 : Hid (BxV (w.alloc (.cells #[.string { data := #[] }, .string { data := #[] }, .int .i64 0, .bool false] 40)) w.heap.size [.string { data := #[] }, .string { data := #[] }, .int .i64 0, .bool false]) := Lib.hid (BxV.new w _ _)
  have B1 : Hid (Below w.heap.size w (w.alloc (.cells #[.string { data := #[] }, .string { data := #[] }, .int .i64 0, .bool false] 40))) := Lib.hid ((Below.refl _ _).alloc (Nat.le_refl _) _)
  generalize w.alloc (.cells #[.string { data := #[] }, .string { data := #[] }, .int .i64 0, .bool false] 40) = w1 at *
  have R1 := Lib.hid (HR.out.below (B1.out.mono hB))
  have hB1 : B ≤ w1.heap.size := by have := B1.out.size; omega
  clear HR
  refine (HBS.out w1 R1.out hB1).mono ?_
  rintro e w2 ⟨rfl, hb⟩
  have X9 := Lib.hid (X1.out.next hb)
  have B9 := Lib.hid (B1.out.trans (hb.mono B1.out.size))
  have R9 := Lib.hid (R1.out.below (hb.mono hB1))
  have hB9 : B ≤ w2.heap.size := by have := hb.size; omega
  clear hb X1 B1 R1 HBS hB1
  have q0 := X9.out.c 0 _ rfl
  have q1 := X9.out.c 1 _ rfl
  have q2 := X9.out.c 2 _ rfl
  have q3 := X9.out.c 3 _ rfl
  have qf := X9.out.fz
  by_cases hp : p < n
  case neg =>
    have e0 : p = n := by omega
    have hz := HF.out
    rw [List.getElem?_eq_none (by rw [HL.out]; omega)] at hz
    have SE := fnd_none hz
    have SE1 := Lib.hid (HS.out.trans SE.1)
    have SE2 := Lib.hid (HE.out.trans SE.2)
    subst e0
    clear hz SE HF HS HE hp
    go_wp2_with fail
    change bodyPost _ _ _ _ _ (World.setCells w2 w.heap.size 0 [.string { data := #[] }, .string { data := #[] }, .int .i64 0, .bool false])
    have RB := (X9.out.set [.string { data := #[] }, .string { data := #[] }, .int .i64 0, .bool false] rfl)
    have BZ := bel_setCells (b := w.heap.size) (Nat.le_refl _) [.string { data := #[] }, .string { data := #[] }, .int .i64 0, .bool false] 0 _ B9.out
    have r0 := RB.c 0 _ rfl
    have r1 := RB.c 1 _ rfl
    have r2 := RB.c 2 _ rfl
    have r3 := RB.c 3 _ rfl
    generalize World.setCells w2 w.heap.size 0 [.string { data := #[] }, .string { data := #[] }, .int .i64 0, .bool false] = wz at *
    refine bodyPost_ret (v := .tuple #[.agg #[.string { data := #[] }, .string { data := #[] }, .int .i64 0, .bool false], .bool false]) (by simp [results, Try.results26, go_sem, r0, r1, r2, r3]) rfl ⟨?_, BZ⟩
    rw [SE1.out, SE2.out]
    all_goals rfl
  obtain ⟨x, hx⟩ : ∃ x, l[p]? = some x := ⟨_, List.getElem?_eq_getElem (by rw [HL.out]; omega)⟩
  obtain ⟨b, off, rfl, hb, hce⟩ := en_at R9.out hx
  obtain ⟨d0, d1, d2, d3⟩ := hce
  have i1 : (p : Int) < (n : Int) := by omega
  have i0 : (0 : Int) ≤ (p : Int) := by omega
  have i2 : ((p : Int) == (n : Int)) = false := by rw [beq_eq_false_iff_ne]; omega
  have hz := HF.out
  rw [hx, Option.bind_some] at hz
  have HZ := Lib.hid hz
  clear hx hz HF
  by_cases hk : x.key = key
  · have e1 : (x.key.toList == key.toList) = true := by rw [str_eqB]; exact decide_eq_true hk
    have e2 : (x.key.toList != key.toList) = false := by unfold bne; rw [e1]; rfl
    have hz := HZ.out
    rw [if_pos hk] at hz
    have SE := fnd_some hz
    have SE1 := Lib.hid (HS.out.trans SE.1)
    have SE2 := Lib.hid (HE.out.trans SE.2)
    clear hz SE HS HE hk HZ hp
    go_wp2_with fail
    change bodyPost _ _ _ _ _ (World.setCells w2 w.heap.size 0 [.string x.key, .string x.val, .int .i64 x.seq, .bool x.del])
    have RB := (X9.out.set [.string x.key, .string x.val, .int .i64 x.seq, .bool x.del] rfl)
    have BZ := bel_setCells (b := w.heap.size) (Nat.le_refl _) [.string x.key, .string x.val, .int .i64 x.seq, .bool x.del] 0 _ B9.out
    have r0 := RB.c 0 _ rfl
    have r1 := RB.c 1 _ rfl
    have r2 := RB.c 2 _ rfl
    have r3 := RB.c 3 _ rfl
    generalize World.setCells w2 w.heap.size 0 [.string x.key, .string x.val, .int .i64 x.seq, .bool x.del] = wz at *
    refine bodyPost_ret (v := .tuple #[.agg #[.string x.key, .string x.val, .int .i64 x.seq, .bool x.del], .bool true]) (by simp [results, Try.results26, go_sem, r0, r1, r2, r3]) rfl ⟨?_, BZ⟩
    rw [SE1.out, SE2.out]
    all_goals rfl
  · have e1 : (x.key.toList == key.toList) = false := by rw [str_eqB]; exact decide_eq_false hk
    have e2 : (x.key.toList != key.toList) = true := by unfold bne; rw [e1]; rfl
    have hz := HZ.out
    rw [if_neg hk] at hz
    have SE := fnd_none hz
    have SE1 := Lib.hid (HS.out.trans SE.1)
    have SE2 := Lib.hid (HE.out.trans SE.2)
    clear hz SE HS HE hk HZ hp
    go_wp2_with fail
    change bodyPost _ _ _ _ _ (World.setCells w2 w.heap.size 0 [.string { data := #[] }, .string { data := #[] }, .int .i64 0, .bool false])
    have RB := (X9.out.set [.string { data := #[] }, .string { data := #[] }, .int .i64 0, .bool false] rfl)
    have BZ := bel_setCells (b := w.heap.size) (Nat.le_refl _) [.string { data := #[] }, .string { data := #[] }, .int .i64 0, .bool false] 0 _ B9.out
    have r0 := RB.c 0 _ rfl
    have r1 := RB.c 1 _ rfl
    have r2 := RB.c 2 _ rfl
    have r3 := RB.c 3 _ rfl
    generalize World.setCells w2 w.heap.size 0 [.string { data := #[] }, .string { data := #[] }, .int .i64 0, .bool false] = wz at *
    refine bodyPost_ret (v := .tuple #[.agg #[.string { data := #[] }, .string { data := #[] }, .int .i64 0, .bool false], .bool false]) (by simp [results, Try.results26, go_sem, r0, r1, r2, r3]) rfl ⟨?_, BZ⟩
    rw [SE1.out, SE2.out]
    all_goals rfl

theorem find_hit {l : List Ent} {key : ByteArray} {seq : Int} {i : Nat} {x : Ent} (h : ∀ j y, j < i → l[j]? = some y → visF key seq y = false) (hx : l[i]? = some x) (hv : visF key seq x = true) : findE l key seq = some x := by
  unfold findE
  have e : l = l.take i ++ l.drop i := (List.take_append_drop _ _).symm
  rw [e, List.find?_append, List.find?_eq_none.2, Option.none_or, drop_at hx, List.find?_cons, hv]
  intro y hy
  obtain ⟨j, hj⟩ := List.mem_iff_getElem?.1 hy
  rw [List.getElem?_take] at hj
  split at hj
  · rename_i h1
    rw [h j y h1 hj]
    simp
  · cases hj
theorem find_non {l : List Ent} {key : ByteArray} {seq : Int} {i : Nat} (h : ∀ j y, j < i → l[j]? = some y → visF key seq y = false) (hi : l.length ≤ i) : findE l key seq = none := by
  unfold findE
  rw [List.find?_eq_none]
  intro y hy
  obtain ⟨j, hj⟩ := List.mem_iff_getElem?.1 hy
  rw [h j y (by have := (List.getElem?_eq_some_iff.1 hj).1; omega) hj]
  simp
end Go.Proofs.Ytdmpimgbnhgiaaa
