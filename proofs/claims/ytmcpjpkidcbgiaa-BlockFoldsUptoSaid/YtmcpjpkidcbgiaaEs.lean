/- Walk: entries are found, and seen in spans. -/
import Derived.Test.YtmcpjpkidcbgiaaEr
import Derived.Test.YtmcpjpkidcbgiaaEg
import Derived.Test.YtmcpjpkidcbgiaaEh
import Derived.Test.YtmcpjpkidcbgiaaEj
import Derived.Test.YtmcpjpkidcbgiaaOen
import Derived.Test.YtmcpjpkidcbgiaaOsp
namespace Go.Proofs.Ytmcpjpkidcbgiaa
open Go.RowKit Go.St Go.Maps
set_option linter.unusedVariables false
set_option linter.unusedSimpArgs false
set_option maxRecDepth 100000

theorem rscan_any (A : Option Addr) (n c : Nat) (l : List Ent) (hl : l.length = n) (hn : n ≤ 1000000) (fr to_ : ByteArray) (seq : Int) (B : Nat) (w : World) (hr : Rd w B A (env l)) (hB : B ≤ w.heap.size) :
    Calls Try.prog 33 #[.slice A n c, .agg #[.string fr, .string to_], .int .i64 seq] w fun e w' => ∃ v, e = .returned v ∧ w'.ownsRow w.heap.size 43 4 v (visE fr to_ seq l).length (env (visE fr to_ seq l)) ∧ Below w.heap.size w w' := by
  have HV := Lib.hid (fun W h k => rinspan_any A n c l hl hn fr to_ seq B W h k)
  have HR := Lib.hid hr
  clear hr
  obtain ⟨E, hE⟩ : ∃ E, E = visE fr to_ seq l := ⟨_, rfl⟩
  rw [← hE] at HV ⊢
  clear hE
  go_enter Try.func33, Try.ntmps33
  go_wp2_with fail
  have hb1 := (Below.refl w.heap.size w).alloc (Nat.le_refl _) (.cells #[.string fr, .string to_] 47)
  have HR1 := HR.out.below (hb1.mono hB)
  have hs1 := hb1.size
  refine (HV.out _ HR1 (by simp; omega)).mono ?_
  rintro e w2 ⟨v, rfl, o2, hb2⟩
  have O2 := Lib.hid (own_base o2 hs1)
  have B2 := Lib.hid (hb1.trans (hb2.mono hs1))
  clear o2 hb2 hb1 HR1 hs1
  go_wp2_with fail
  go_ret
  exact ⟨_, rfl, O2.out, B2.out⟩
theorem rinOrder_any (A : Option Addr) (n c : Nat) (l : List Ent) (hl : l.length = n) (hn : n ≤ 1000000) (B : Nat) (w : World) (hr : Rd w B A (env l)) (hB : B ≤ w.heap.size) :
    Calls Try.prog 27 #[.slice A n c] w fun e w' => e = .returned (.bool (risE l)) ∧ Below w.heap.size w w' := by
  go_enter Try.func27, Try.ntmps27
  go_wp2_with fail
  refine (rordered_any A n c l hl hn B w hr hB).mono ?_
  rintro e w2 ⟨rfl, hb⟩
  go_wp2_with fail
  go_ret
  exact ⟨rfl, hb⟩

theorem smallE_b {l : List Ent} (h : smallE l = true) : l.length ≤ 70 ∧ ∀ x ∈ l, x.key.size ≤ 600 := by
  unfold smallE at h
  simp only [Bool.and_eq_true, List.all_eq_true, decide_eq_true_eq] at h
  exact ⟨h.2, fun x hx => by
    have h1 := h.1 x hx
    unfold smlE at h1
    simp only [Bool.and_eq_true, decide_eq_true_eq] at h1
    exact h1.1⟩
theorem visA_mem (fr to_ : ByteArray) (seq : Int) : ∀ (last : Option ByteArray) (l : List Ent) (x : Ent), x ∈ visA fr to_ seq last l → x ∈ l
  | _, [], x, h => by simp [visA] at h
  | last, y :: r, x, h => by
    rw [visA] at h
    split at h
    · rcases List.mem_cons.1 h with e | e
      · exact e ▸ List.mem_cons_self ..
      · exact List.mem_cons_of_mem _ (visA_mem _ _ _ _ _ _ e)
    · exact List.mem_cons_of_mem _ (visA_mem _ _ _ _ _ _ h)
theorem visE_mem {fr to_ : ByteArray} {seq : Int} {l : List Ent} {x : Ent} (h : x ∈ visE fr to_ seq l) : x ∈ l := visA_mem _ _ _ _ _ _ h

set_option maxHeartbeats 3200000 in
theorem blockAsks_walk (w : World) (A : Option Addr) (n c : Nat) (l : List Ent) (hl : l.length = n) (hc : n ≤ c) (hn : c ≤ 140737488351232) (hr : Rd w w.heap.size A (env l)) (key fr to_ : ByteArray) (seq : Int) :
    Calls Try.prog 7 #[.slice A n c, .string key, .agg #[.string fr, .string to_], .int .i64 seq] w fun e w' => e = .returned (.bool true) ∧ Below w.heap.size w w' := by
  have HL := Lib.hid hl
  have HR := Lib.hid hr
  clear hr hl
  go_enter Try.func7, Try.ntmps7
  go_wp2_with fail
  have X1 : Hid (BxV (w.alloc (.cells #[.string fr, .string to_] 47)) w.heap.size [.string fr, .string to_]) := Lib.hid (BxV.new w _ _)
  have B1 : Hid (Below w.heap.size w (w.alloc (.cells #[.string fr, .string to_] 47))) := Lib.hid ((Below.refl _ _).alloc (Nat.le_refl _) _)
  generalize w.alloc (.cells #[.string fr, .string to_] 47) = w1 at *
  obtain ⟨p, hp⟩ : ∃ p, p = w.heap.size := ⟨_, rfl⟩
  have HP := Lib.hid hp
  rw [← hp]
  rw [← hp] at HR B1 X1
  clear hp
  have z1 : p ≤ w1.heap.size := by have := B1.out.size; have := HP.out; omega
  refine (lives07_any w1).mono ?_
  rintro e w2 ⟨rfl, hb⟩
  have X2 := Lib.hid (X1.out.next hb)
  have B2 := Lib.hid (B1.out.trans (hb.mono z1))
  have R2 := Lib.hid (HR.out.below B2.out)
  have z2 : p ≤ w2.heap.size := Nat.le_trans z1 hb.size
  clear X1 B1 hb HR z1
  go_wp2_with fail
  refine (small7_any A n c l HL.out (by omega) p w2 R2.out z2).mono ?_
  rintro e w3 ⟨rfl, hb⟩
  have X3 := Lib.hid (X2.out.next hb)
  have B3 := Lib.hid (B2.out.trans (hb.mono z2))
  have R3 := Lib.hid (R2.out.below (hb.mono z2))
  have z3 : p ≤ w3.heap.size := Nat.le_trans z2 hb.size
  clear X2 B2 R2 hb z2
  cases hsm : smallE l
  · go_wp2_with fail
    go_ret
    exact ⟨rfl, by rw [← HP.out]; exact B3.out⟩
  have HSM := Lib.hid (smallE_b hsm)
  have hn70 : n ≤ 70 := by have := HSM.out.1; rwa [HL.out] at this
  clear hsm
  go_wp2_with fail
  refine (rinOrder_any A n c l HL.out (by omega) p w3 R3.out z3).mono ?_
  rintro e w4 ⟨rfl, hb⟩
  have X4 := Lib.hid (X3.out.next hb)
  have B4 := Lib.hid (B3.out.trans (hb.mono z3))
  have R4 := Lib.hid (R3.out.below (hb.mono z3))
  have z4 : p ≤ w4.heap.size := Nat.le_trans z3 hb.size
  clear X3 B3 R3 hb z3
  cases hri : risE l
  · go_wp2_with fail
    go_ret
    exact ⟨rfl, by rw [← HP.out]; exact B4.out⟩
  have HRI := Lib.hid hri
  clear hri
  go_wp2_with fail
  refine (lentE_any A n c p l HL.out (by omega) w4 R4.out z4).mono ?_
  rintro e w5 ⟨v5, rfl, own5, hb⟩
  obtain ⟨F, cF, rfl, hcF, hrF⟩ := own_sl own5
  obtain ⟨gF, rfl⟩ := own_blkC own5 (by omega)
  have hgF := own5.lt gF rfl
  have X5 := Lib.hid (X4.out.next hb)
  have B5 := Lib.hid (B4.out.trans (hb.mono z4))
  have R5 := Lib.hid (R4.out.below (hb.mono z4))
  have F5 := Lib.hid hrF
  have zF : gF < w5.heap.size := by omega
  have z5 : p ≤ w5.heap.size := Nat.le_trans z4 hb.size
  clear X4 B4 R4 hb z4 own5 hrF hgF
  have hcF3 : (n : Int) ≤ (cF : Int) := by omega
  have hn0 : (0 : Int) ≤ (n : Int) := by omega
  have hnF : (n : Int) ≤ ((n + 3 : Nat) : Int) := by omega
  go_wp2_with fail
  have RF5 : Hid (Rd w5 w5.heap.size (some ⟨gF, 0, none⟩) (env l)) := Lib.hid (by
    have h := F5.out.take (n * 4)
    have e : (env (lentE l)).take (n * 4) = env l := by
      unfold lentE
      rw [env_app, List.take_append_of_le_length (by rw [env_len, HL.out]; exact Nat.le_refl _), List.take_of_length_le (by rw [env_len, HL.out]; exact Nat.le_refl _)]
    rwa [e] at h)
  have HF := Lib.hid (find_any (some ⟨gF, 0, none⟩) n cF l HL.out (by omega) HRI.out key seq w5.heap.size w5 RF5.out (Nat.le_refl _))
  have HG := Lib.hid (fun W h k => rfind_any A n c l HL.out (by omega) key seq p W h k)
  obtain ⟨X, hX⟩ : ∃ X, X = fndE l key seq := ⟨_, rfl⟩
  obtain ⟨I, hI⟩ : ∃ I, I = isE l key seq := ⟨_, rfl⟩
  rw [← hX, ← hI] at HF HG
  clear hX hI
  obtain ⟨x1, x2, x3, x4⟩ := X
  unfold Ent.v at HF HG
  dsimp only at HF HG
  refine HF.out.mono ?_
  rintro e w6 ⟨rfl, hb⟩
  have X6 := Lib.hid (X5.out.next hb)
  have B6 := Lib.hid (B5.out.trans (hb.mono z5))
  have R6 := Lib.hid (R5.out.below (hb.mono z5))
  have F6 := Lib.hid ((F5.out.below hb).more hb.size)
  have zF6 : gF < w6.heap.size := Nat.lt_of_lt_of_le zF hb.size
  have z6 : p ≤ w6.heap.size := Nat.le_trans z5 hb.size
  clear X5 B5 R5 F5 RF5 HF hb z5 zF
  go_wp2_with fail
  have hal : Below w6.heap.size w6 (w6.alloc (.cells #[.string x1, .string x2, .int .i64 x3, .bool x4] 43)) := (Below.refl _ _).alloc (Nat.le_refl _) _
  have XA7 := Lib.hid (BxV.new w6 #[.string x1, .string x2, .int .i64 x3, .bool x4] 43)
  have X7 := Lib.hid (X6.out.next hal)
  have B7 := Lib.hid (B6.out.trans (hal.mono z6))
  have R7 := Lib.hid (R6.out.below (hal.mono z6))
  have F7 := Lib.hid ((F6.out.below hal).more hal.size)
  have zF7 := Nat.lt_of_lt_of_le zF6 hal.size
  have z7 := Nat.le_trans z6 hal.size
  clear X6 B6 R6 F6 zF6 z6 hal
  generalize w6.alloc (.cells #[.string x1, .string x2, .int .i64 x3, .bool x4] 43) = w7 at *
  generalize w6.heap.size = pa at *
  refine (HG.out w7 R7.out z7).mono ?_
  rintro e w8 ⟨rfl, hb⟩
  have XA8 := Lib.hid (XA7.out.next hb)
  have X8 := Lib.hid (X7.out.next hb)
  have B8 := Lib.hid (B7.out.trans (hb.mono z7))
  have R8 := Lib.hid (R7.out.below (hb.mono z7))
  have F8 := Lib.hid ((F7.out.below hb).more hb.size)
  have zF8 : gF < w8.heap.size := Nat.lt_of_lt_of_le zF7 hb.size
  have z8 : p ≤ w8.heap.size := Nat.le_trans z7 hb.size
  clear XA7 X7 B7 R7 F7 zF7 z7 hb HG
  go_wp2_with fail
  have hal : Below w8.heap.size w8 (w8.alloc (.cells #[.string x1, .string x2, .int .i64 x3, .bool x4] 43)) := (Below.refl _ _).alloc (Nat.le_refl _) _
  have XC9 := Lib.hid (BxV.new w8 #[.string x1, .string x2, .int .i64 x3, .bool x4] 43)
  have X9 := Lib.hid (X8.out.next hal)
  have B9 := Lib.hid (B8.out.trans (hal.mono z8))
  have R9 := Lib.hid (R8.out.below (hal.mono z8))
  have F9 := Lib.hid ((F8.out.below hal).more hal.size)
  have zF9 := Nat.lt_of_lt_of_le zF8 hal.size
  have z9 := Nat.le_trans z8 hal.size
  have XA9 := Lib.hid (XA8.out.next hal)
  clear X8 B8 R8 F8 zF8 z8 XA8 hal
  generalize w8.alloc (.cells #[.string x1, .string x2, .int .i64 x3, .bool x4] 43) = w9 at *
  generalize w8.heap.size = pc at *
  have HV := Lib.hid (fun W (h : Below w9.heap.size w9 W) => visible_any (some ⟨gF, 0, none⟩) n cF l HL.out (by omega) fr to_ seq w9.heap.size W (by
    have h2 := F9.out.take (n * 4)
    have e : (env (lentE l)).take (n * 4) = env l := by
      unfold lentE
      rw [env_app, List.take_append_of_le_length (by rw [env_len, HL.out]; exact Nat.le_refl _), List.take_of_length_le (by rw [env_len, HL.out]; exact Nat.le_refl _)]
    rw [e] at h2
    exact h2.below h) h.size)
  have HVM := Lib.hid (fun x (h : x ∈ visE fr to_ seq l) => visE_mem h)
  have HVL := Lib.hid (visE_len fr to_ seq l)
  have HS := Lib.hid (fun W h k => rscan_any A n c l HL.out (by omega) fr to_ seq p W h k)
  obtain ⟨V, hV⟩ : ∃ V, V = visE fr to_ seq l := ⟨_, rfl⟩
  rw [← hV] at HV HVM HVL HS
  clear hV
  refine wp_heldall (S := fun W => Below w9.heap.size w9 W) 8 (by kernel_rfl) rfl (Below.drew (Below.refl _ _)) (fun hHeld => ?_)
  refine takeL (i := 0) (v := ?_) rfl (by kernel_rfl) (by kernel_rfl) (by kernel_rfl) (fun _ _ _ h => h) ⟨by rfl, ?_⟩ (by first | assumption | trivial) ?_
  rotate_left
  · intro W9 hSw
    (try dsimp only at hSw)
    go_simp
    try with_reducible rfl
  (try simp only [Act.put, List.setIfInBounds_toArray, List.set_cons_zero, List.set_cons_succ])
  refine takeL (i := 1) (v := ?_) rfl (by kernel_rfl) (by kernel_rfl) (by kernel_rfl) (fun _ _ _ h => h) ⟨by rfl, ?_⟩ (by first | assumption | trivial) ?_
  rotate_left
  · intro W9 hSw
    (try dsimp only at hSw)
    go_simp
    try with_reducible rfl
  (try simp only [Act.put, List.setIfInBounds_toArray, List.set_cons_zero, List.set_cons_succ])
  refine takeL (i := 2) (v := ?_) rfl (by kernel_rfl) (by kernel_rfl) (by kernel_rfl) (fun _ _ _ h => h) ⟨by rfl, ?_⟩ (by first | assumption | trivial) ?_
  rotate_left
  · intro W9 hSw
    (try dsimp only at hSw)
    go_simp
    try with_reducible rfl
  (try simp only [Act.put, List.setIfInBounds_toArray, List.set_cons_zero, List.set_cons_succ])
  refine takeL (i := 3) (v := ?_) rfl (by kernel_rfl) (by kernel_rfl) (by kernel_rfl) (fun _ _ _ h => h) ⟨by rfl, ?_⟩ (by first | assumption | trivial) ?_
  rotate_left
  · intro W9 hSw
    (try dsimp only at hSw)
    go_simp
    try with_reducible rfl
  (try simp only [Act.put, List.setIfInBounds_toArray, List.set_cons_zero, List.set_cons_succ])
  refine takeL (i := 4) (v := ?_) rfl (by kernel_rfl) (by kernel_rfl) (by kernel_rfl) (fun _ _ _ h => h) ⟨by rfl, ?_⟩ (by first | assumption | trivial) ?_
  rotate_left
  · intro W9 hSw
    (try dsimp only at hSw)
    (have x0 := (X9.out.next hSw).c 0 _ rfl; have x1 := (X9.out.next hSw).c 1 _ rfl; have xl := (X9.out.next hSw).lt)
    go_simp
    try with_reducible rfl
  (try simp only [Act.put, List.setIfInBounds_toArray, List.set_cons_zero, List.set_cons_succ])
  refine takeL (i := 5) (v := ?_) rfl (by kernel_rfl) (by kernel_rfl) (by kernel_rfl) (fun _ _ _ h => h) ⟨by rfl, ?_⟩ (by first | assumption | trivial) ?_
  rotate_left
  · intro W9 hSw
    (try dsimp only at hSw)
    go_simp
    try with_reducible rfl
  (try simp only [Act.put, List.setIfInBounds_toArray, List.set_cons_zero, List.set_cons_succ])
  have SB := Lib.hid hHeld
  clear hHeld
  generalize w9.drew = X at *
  refine wpAnyH_ready (rs := [6]) (by kernel_rfl) (by simp) ?_
  refine consL rfl (by rfl) (fun K hK => ?_) ?_
  · go_simp
    refine (HV.out X SB.out).mono ?_
    rintro e w10 ⟨v10, rfl, own10, hb⟩
    refine hK.out _ _ (SB.out.trans (hb.mono SB.out.size)) (fun _ => ?_)
    clear hK K
    have B10' := SB.out.trans (hb.mono SB.out.size)
    have O10 := Lib.hid (own_base own10 SB.out.size)
    have X10 := Lib.hid (X9.out.next B10')
    have XA10 := Lib.hid (XA9.out.next B10')
    have XC10 := Lib.hid (XC9.out.next B10')
    have B10 := Lib.hid (B9.out.trans (B10'.mono z9))
    have R10 := Lib.hid (R9.out.below (B10'.mono z9))
    have F10 := Lib.hid ((F9.out.below B10').more B10'.size)
    have zF10 := Nat.lt_of_lt_of_le zF9 B10'.size
    have z10 := Nat.le_trans z9 B10'.size
    have gz9 := zF9
    have y9 := z9
    clear X9 XA9 XC9 B9 R9 F9 z9 zF9 own10 hb B10' SB HV
    (try simp only [Act.put, List.setIfInBounds_toArray, List.set_cons_zero, List.set_cons_succ])
    refine takeL (i := 7) (v := ?_) rfl (by kernel_rfl) (by kernel_rfl) (by kernel_rfl) (fun _ _ _ h => h) ⟨by rfl, ?_⟩ (by first | assumption | trivial) ?_
    rotate_left
    · intro W9 hSw
      (try dsimp only at hSw)
      go_simp
      try with_reducible rfl
    (try simp only [Act.put, List.setIfInBounds_toArray, List.set_cons_zero, List.set_cons_succ])
    refine wpAnyH_done (by kernel_rfl) ?_ _
    obtain ⟨VA, cV, rfl, hcV, hrV⟩ := own_sl O10.out
    have RV10 := Lib.hid hrV
    clear hrV
    have x0 := X10.out.c 0 _ rfl
    have x1 := X10.out.c 1 _ rfl
    have xl := X10.out.lt
    have a0 := XA10.out.c 0 _ rfl
    have a1 := XA10.out.c 1 _ rfl
    have a2 := XA10.out.c 2 _ rfl
    have a3 := XA10.out.c 3 _ rfl
    have al := XA10.out.lt
    have b0 := XC10.out.c 0 _ rfl
    have b1 := XC10.out.c 1 _ rfl
    have b2 := XC10.out.c 2 _ rfl
    have b3 := XC10.out.c 3 _ rfl
    have bl := XC10.out.lt
    go_wp2_with fail
    refine (HS.out w10 R10.out z10).mono ?_
    rintro e w11 ⟨v11, rfl, own11, hb⟩
    obtain ⟨SA, cS, rfl, hcS, hrS⟩ := own_sl own11
    have B11 := Lib.hid (B10.out.trans (hb.mono z10))
    have R11 := Lib.hid (R10.out.below (hb.mono z10))
    have F11 := Lib.hid ((F10.out.below hb).more hb.size)
    have O11 := Lib.hid (own_keep O10.out hb (Nat.le_refl _))
    have RV11 := Lib.hid ((RV10.out.below hb).more hb.size)
    have z11 := Nat.le_trans z10 hb.size
    clear B10 R10 F10 O10 RV10 z10
    have RS11 := Lib.hid hrS
    clear hb own11 hrS X10 XA10 XC10 x0 x1 xl a0 a1 a2 a3 al b0 b1 b2 b3 bl HS
    go_wp2_with fail
    have hVn : V.length ≤ 1000000 := by have := HVL.out; rw [HL.out] at this; omega
    refine (sameE_any VA SA V.length V.length cV cS _ _ V V rfl rfl hVn w11 RV11.out (Nat.le_refl _) RS11.out (Nat.le_refl _)).mono ?_
    rintro e w12 ⟨rfl, hb⟩
    rw [decide_eq_true rfl]
    have B12 := Lib.hid (B11.out.trans (hb.mono z11))
    have R12 := Lib.hid (R11.out.below (hb.mono z11))
    have F12 := Lib.hid ((F11.out.below hb).more hb.size)
    have O12 := Lib.hid (own_keep O11.out hb (Nat.le_refl _))
    have RV12 := Lib.hid ((RV11.out.below hb).more hb.size)
    have z12 := Nat.le_trans z11 hb.size
    clear B11 R11 F11 O11 RV11 z11
    clear hb RS11
    go_wp2_with fail
    refine (keptE_any (some ⟨gF, 0, none⟩) A (n + 3) n cF c _ _ (lentE l) l (by rw [lentE_length, HL.out]) HL.out (by omega) (by omega) w12 F12.out (Nat.le_refl _) R12.out z12).mono ?_
    rintro e w13 ⟨rfl, hb⟩
    rw [decide_eq_true rfl]
    have B13 := Lib.hid (B12.out.trans (hb.mono z12))
    have R13 := Lib.hid (R12.out.below (hb.mono z12))
    have F13 := Lib.hid ((F12.out.below hb).more hb.size)
    have O13 := Lib.hid (own_keep O12.out hb (Nat.le_refl _))
    have RV13 := Lib.hid ((RV12.out.below hb).more hb.size)
    have z13 := Nat.le_trans z12 hb.size
    clear B12 R12 F12 O12 RV12 z12
    clear hb
    go_wp2_with fail
    have hb : Below w13.heap.size w13 (w13.alloc (.cells #[.slice (some ⟨gF, 0, none⟩) (n + 3) cF] 22)) := (Below.refl _ _).alloc (Nat.le_refl _) _
    have hrn := rd_frC w13 #[.slice (some ⟨gF, 0, none⟩) (n + 3) cF] 22 (0, 0)
    have RN := Lib.hid hrn
    have HNW : Hid (∀ g, (Value.slice VA V.length cV).ownBlock = some g → w9.heap.size ≤ g ∧ g < w13.heap.size) := Lib.hid (fun g hg => O13.out.lt g hg)
    have zn : w13.heap.size < (w13.alloc (.cells #[.slice (some ⟨gF, 0, none⟩) (n + 3) cF] 22)).heap.size := by simp
    generalize hw14 : w13.alloc (.cells #[.slice (some ⟨gF, 0, none⟩) (n + 3) cF] 22) = w14 at *
    have B14 := Lib.hid (B13.out.trans (hb.mono z13))
    have R14 := Lib.hid (R13.out.below (hb.mono z13))
    have F14 := Lib.hid ((F13.out.below hb).more hb.size)
    have O14 := Lib.hid (own_keep O13.out hb (Nat.le_refl _))
    have RV14 := Lib.hid ((RV13.out.below hb).more hb.size)
    have z14 := Nat.le_trans z13 hb.size
    clear B13 R13 F13 O13 RV13 z13
    clear hb hrn hw14
    refine (apartE_any VA V.length cV w9.heap.size V (some ⟨w13.heap.size, 0, none⟩) 1 1 [.slice (some ⟨gF, 0, none⟩) (n + 3) cF] [lentE l] rfl hVn (by omega) rfl rfl (by
      intro l' hl'
      rw [List.mem_singleton.1 hl', lentE_length, HL.out]
      omega) (fun e he => by
      have h := HSM.out.2 e (HVM.out e he)
      omega) w14 O14.out RN.out (by
      intro g o h1 h2
      injection h1 with h1
      injection h1 with h1
      have := (HNW.out g h2).2
      omega) (by
      intro i l' hl'
      cases i with
      | zero =>
        obtain rfl : lentE l = l' := by simpa using hl'
        exact ⟨_, cF, by rw [lentE_length, HL.out]; rfl, F14.out, fun g o h1 h2 => by
          injection h1 with h1
          injection h1 with h1
          have := (HNW.out g h2).1
          omega⟩
      | succ i => simp at hl')).mono ?_
    rintro e w15 ⟨rfl, gr⟩
    have hb15 := B14.out.grown gr z14 (fun g hg => by have := (HNW.out g hg).1; omega)
    have BF := Lib.hid hb15
    clear gr hb15
    go_wp2_with fail
    go_ret
    exact ⟨rfl, by rw [← HP.out]; exact BF.out⟩
  · exact AllReadyH.nil

theorem blockAsks_law (w : World) (x : EntsArg w) (_ : True) (key : ByteArray) (hkey : key.size ≤ 140737488351232) (s : Spn) (_ : InSp s) (seq : Int) (_ : (Lit.int .i64 seq).wf = true) :
    Calls Try.prog 7 #[.slice x.A x.n x.c, .string key, .agg #[.string s.f, .string s.t], .int .i64 seq] w fun e w' => e = .returned (.bool true) ∧ Below w.heap.size w w' :=
  blockAsks_walk w x.A x.n x.c x.l x.hl x.hc x.hn x.rd key s.f s.t seq
end Go.Proofs.Ytmcpjpkidcbgiaa
