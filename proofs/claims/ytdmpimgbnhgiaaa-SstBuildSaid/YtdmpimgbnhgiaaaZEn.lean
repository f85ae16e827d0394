/- Walks: a block's bytes, the program's and the document's. -/
import Derived.Test.YtdmpimgbnhgiaaaZC
import Derived.Test.YtdmpimgbnhgiaaaZEd
import Derived.Test.YtdmpimgbnhgiaaaZEu
import Derived.Deep.Cut

namespace Go.Proofs.Ytdmpimgbnhgiaaa
open Go.RowKit Go.St Go.Maps
set_option linter.unusedVariables false
set_option linter.unusedSimpArgs false
set_option maxRecDepth 100000


/-- How many bytes an entry shares with the key ahead of it. -/
def kEnc (i : Nat) (p : ByteArray) (x : Ent) : Nat := if i % 8 = 0 then 0 else shrL p.data.toList x.key.data.toList
def tEnc (x : Ent) : List UInt8 := if x.del then [1] else [0] ++ uv x.val.size ++ x.val.data.toList
def encE (i : Nat) (p : ByteArray) (x : Ent) : List UInt8 := uv (kEnc i p x) ++ uv (x.key.size - kEnc i p x) ++ x.key.data.toList.drop (kEnc i p x) ++ uv x.seq.toNat ++ tEnc x
def encR : Nat → ByteArray → List Ent → List UInt8
  | _, _, [] => []
  | i, p, x :: r => encE i p x ++ encR (i + 1) x.key r
def encB (l : List Ent) : List UInt8 := uv l.length ++ encR 0 zB l
def encL (l : List Ent) : List UInt8 := if chkL l = 0 then encB l else []
theorem kEnc_le (i : Nat) (p : ByteArray) (x : Ent) : kEnc i p x ≤ x.key.size := by
  unfold kEnc
  split
  · omega
  · have := (shrL_le p.data.toList x.key.data.toList).2
    simpa using this
theorem chkL_ok {l : List Ent} (h : chkL l = 0) : 0 < l.length ∧ l.length ≤ 64 ∧ (∀ x ∈ l, okE x = true) ∧ risE l = true := by
  unfold chkL at h
  split at h
  · cases h
  rename_i h1
  split at h
  · cases h
  rename_i h2
  split at h
  · rename_i h3
    split at h
    · rename_i h4
      exact ⟨by omega, by omega, List.all_eq_true.1 h3, h4⟩
    · cases h
  · cases h
theorem okE_b {x : Ent} (h : okE x = true) : 1 ≤ x.seq ∧ x.seq ≤ 1073741824 ∧ 1 ≤ x.key.size ∧ x.key.size ≤ 512 ∧ x.val.size ≤ 4096 ∧ (x.del = true → x.val.size = 0) := by
  unfold okE at h
  simp only [Bool.and_eq_true, decide_eq_true_eq, Bool.or_eq_true, Bool.not_eq_true'] at h
  obtain ⟨⟨⟨⟨h1, h2⟩, h3, h4⟩, h5⟩, h6⟩ := h
  refine ⟨h1, h2, h3, h4, h5, fun hd => ?_⟩
  rcases h6 with h6 | h6
  · rw [hd] at h6
    cases h6
  · exact h6
theorem nxB {w : World} {base base' m : Nat} {v : Value} {xs : List Value} {b ys : List UInt8} (own : w.ownsRow base 5 1 v m xs) (hx : xs = bv (b ++ ys)) (hb : base' ≤ base) : ∃ (b' : List UInt8) (A : Option Addr) (c : Nat), b' = b ++ ys ∧ v = .slice A b'.length c ∧ w.ownsRow base' 5 1 (.slice A b'.length c) b'.length (bv b') ∧ Rd w w.heap.size A (bv b') := by
  subst hx
  have hm : m = (b ++ ys).length := by have := own.1; rw [bv_length] at this; omega
  subst hm
  obtain ⟨A, c, rfl, -, r⟩ := own_sl own
  exact ⟨b ++ ys, A, c, rfl, rfl, own_base own hb, r⟩
theorem BxV.kp {W W' : World} {b : Nat} {xs : List Value} (h : BxV W b xs) (hb : Below W.heap.size W W') : BxV W' b xs := h.next hb
/-- An entry where it lies, its block there. -/
structure EnX (w : World) (b o : Nat) (x : Ent) : Prop where
  i : EnI w b o x
  lt : b < w.heap.size
theorem EnX.next {W W' : World} {b o : Nat} {x : Ent} (h : EnX W b o x) (hb : Below W.heap.size W W') : EnX W' b o x := ⟨h.i.below h.lt hb, Nat.lt_of_lt_of_le h.lt hb.size⟩
theorem ext_drop (s : ByteArray) (k : Nat) : (s.extract k s.size).data.toList = s.data.toList.drop k := by
  rw [Lib.extract_data, List.take_of_length_le]
  rw [List.length_drop, Array.length_toList]
  exact Nat.le_refl _
theorem ext_size (s : ByteArray) (k d : Nat) (h : s.size = k + d) : (s.extract k s.size).size = d := by
  have h1 := congrArg List.length (ext_drop s k)
  rw [List.length_drop, Array.length_toList, Array.length_toList] at h1
  have h2 : (s.extract k s.size).data.size = (s.extract k s.size).size := rfl
  have h3 : s.data.size = s.size := rfl
  omega
theorem appU_any0 (A : Option Addr) (n c B : Nat) (bs : List UInt8) (hl : bs.length = n) (hn : n ≤ 100000000) (w : World) (hr : Rd w B A (bv bs)) (hB : B ≤ w.heap.size) :
    Calls Try.prog 36 #[.slice A n c, .int .u64 0] w fun e w' => ∃ v, e = .returned v ∧ w'.ownsRow w.heap.size 5 1 v (n + (uv 0).length) (bv (bs ++ uv 0)) ∧ Below w.heap.size w w' :=
  appU_any A n c B bs hl hn 0 (by omega) w hr hB
theorem rappU_any0 (A : Option Addr) (n c B : Nat) (bs : List UInt8) (hl : bs.length = n) (hn : n ≤ 100000000) (w : World) (hr : Rd w B A (bv bs)) (hB : B ≤ w.heap.size) :
    Calls Try.prog 44 #[.slice A n c, .int .u64 0] w fun e w' => ∃ v, e = .returned v ∧ w'.ownsRow w.heap.size 5 1 v (n + (uv 0).length) (bv (bs ++ uv 0)) ∧ Below w.heap.size w w' :=
  rappU_any A n c B bs hl hn 0 (by omega) w hr hB
theorem key_same {l : List Ent} {i j : Nat} {x y : Ent} (hx : l[i]? = some x) (e : j = i) (hy : l[j]? = some y) : x.key = y.key := by
  subst e
  rw [hx] at hy
  injection hy with hy
  rw [hy]
theorem enc_round {l : List Ent} {i : Nat} {x : Ent} {p : ByteArray} {S acc : List UInt8} (hx : l[i]? = some x) (h : S = acc ++ encR i p (l.drop i)) (acc' : List UInt8) (h2 : acc' = acc ++ encE i p x) : S = acc' ++ encR (i + 1) x.key (l.drop (i + 1)) := by
  rw [h, drop_at hx, encR, h2, List.append_assoc]

theorem own_rdL {w : World} {base : Nat} {e : TypeId} {A : Option Addr} {n c : Nat} {xs : List Value} {s : Nat} (h : w.ownsRow base e s (.slice A n c) n xs) : Rd w w.heap.size A xs := by
  obtain ⟨A', c', e', -, r⟩ := own_sl h
  injection e' with e1 _ _
  rw [e1]
  exact r

set_option maxHeartbeats 12800000 in
theorem encode_any (A : Option Addr) (n c : Nat) (l : List Ent) (hl : l.length = n) (hn : n ≤ 1000000) (hk : ∀ x ∈ l, x.key.size ≤ maxLen) (B : Nat) (w : World) (hr : Rd w B A (env l)) (hB : B ≤ w.heap.size) :
    Calls Try.prog 34 #[.slice A n c] w fun e w' => ∃ v, e = .returned (.tuple #[v, .int .i64 (chkL l)]) ∧ w'.ownsRow w.heap.size 5 1 v (encL l).length (bv (encL l)) ∧ Below w.heap.size w w' := by
  have HCK := Lib.hid (fun W h k => check7_any A n c l hl hn hk B W h k)
  obtain ⟨E, hE⟩ : ∃ E, E = chkL l := ⟨_, rfl⟩
  obtain ⟨S, hS⟩ : ∃ S, S = encL l := ⟨_, rfl⟩
  rw [← hE, ← hS]
  rw [← hE] at HCK
  have HE := Lib.hid hE
  have HS := Lib.hid hS
  have HL := Lib.hid hl
  have HR := Lib.hid hr
  clear hE hS hl hr hk
  go_enter Try.func34, Try.ntmps34
  go_wp2_with fail
  refine (HCK.out w HR.out hB).mono ?_
  rintro e w1 ⟨rfl, hb⟩
  have B1 := Lib.hid hb
  have R1 := Lib.hid (HR.out.below (hb.mono hB))
  have hB1 : B ≤ w1.heap.size := by have := hb.size; omega
  clear hb HR HCK
  by_cases h0 : E = 0
  case neg =>
    have e1 : (E != 0) = true := by simpa using h0
    have SEQ : Hid (S = []) := Lib.hid (by rw [HS.out]; unfold encL; rw [if_neg (by rw [← HE.out]; exact h0)])
    clear h0 HE HS
    go_wp2_with fail
    go_ret2
    exact ⟨_, rfl, by rw [SEQ.out]; exact World.ownsRow_nil _ _ _ _, B1.out⟩
  have HOK := Lib.hid (chkL_ok (by rw [← HE.out]; exact h0))
  have SEQ : Hid (S = uv n ++ encR 0 zB (l.drop 0)) := Lib.hid (by rw [HS.out]; unfold encL encB; rw [if_pos (by rw [← HE.out]; exact h0), HL.out]; rfl)
  have hn64 : n ≤ 64 := by have := HOK.out.2.1; rw [HL.out] at this; exact this
  have E0 := Lib.hid h0
  clear HE HS
  rw [h0]
  clear h0
  go_wp2_with fail
  refine (appU_any none 0 0 0 [] rfl (by omega) n (by omega) w1 Rd.nil (Nat.zero_le _)).mono ?_
  rintro e w2 ⟨v2, rfl, own2, hb2⟩
  obtain ⟨b2, A2, c2, hq2, rfl, o2, r2⟩ := nxB (base' := w1.heap.size) (b := []) (ys := uv n) own2 (by simp) (Nat.le_refl _)
  have B2 : Hid (Below w1.heap.size w1 w2) := Lib.hid hb2
  have O2 := Lib.hid o2
  have L2 : b2.length ≤ 10 := by rw [hq2]; have := uv_len10 (x := n) (by omega); simpa using this
  have Q2 : Hid (S = b2 ++ encR 0 zB (l.drop 0)) := Lib.hid (by rw [SEQ.out, hq2]; rfl)
  clear own2 hb2 hq2 o2 r2 SEQ
  go_wp2_with fail
  go_loopw [5, 20] (fun s5 s6 wr => ∃ (A5 : Option Addr) (c5 : Nat) (acc : List UInt8) (i : Nat) (p : ByteArray), s5 = .slice A5 acc.length c5 ∧ s6 = .int .i64 (i : Int) ∧ i ≤ n ∧ Hid (acc.length ≤ 10 + i * 5000) ∧ Hid (∀ j y, i = j + 1 → l[j]? = some y → p = y.key) ∧ Hid (wr.ownsRow w1.heap.size 5 1 (.slice A5 acc.length c5) acc.length (bv acc)) ∧ Hid (S = acc ++ encR i p (l.drop i)) ∧ Hid (Below w1.heap.size w1 wr)) (fun _ s6 _ => n - (intOf s6).toNat)
  case atStart => exact ⟨A2, c2, b2, 0, zB, rfl, rfl, Nat.zero_le _, Lib.hid (by omega), Lib.hid (fun j y hj => by omega), O2, Q2, B2⟩
  case round =>
    clear O2 L2 Q2 B2
    obtain ⟨A5, c5, acc, i, p, rfl, rfl, hi, HAL, HPK, OA, HQ, BA⟩ := hrel
    obtain ⟨w3, rfl⟩ : ∃ x, x = wr := ⟨_, rfl⟩
    by_cases hlt : i < n
    · obtain ⟨x, hx⟩ : ∃ x, l[i]? = some x := ⟨_, List.getElem?_eq_getElem (by rw [HL.out]; exact hlt)⟩
      obtain ⟨b, off, rfl, hb, hce⟩ := en_at R1.out hx
      have XL3 : Hid (EnX w3 b (off + i * 4) x) := Lib.hid ⟨hce.below (Nat.lt_of_lt_of_le hb hB1) BA.out, by have := BA.out.size; omega⟩
      have HX := Lib.hid hx
      have i1 : (i : Int) < (n : Int) := by omega
      have i0 : (0 : Int) ≤ (i : Int) := by omega
      obtain ⟨y1, y2, y3, y4, y5, y6⟩ := okE_b (HOK.out.2.2.1 x (List.mem_of_getElem? hx))
      obtain ⟨q, hq⟩ : ∃ q : Nat, x.seq = (q : Int) := ⟨x.seq.toNat, by omega⟩
      have hq0 : q ≤ 1073741824 := by omega
      have HQS := Lib.hid hq
      clear hq
      obtain ⟨d, hd⟩ : ∃ d, x.key.size = kEnc i p x + d := ⟨x.key.size - kEnc i p x, by have := kEnc_le i p x; omega⟩
      have hal : acc.length ≤ 10 + i * 5000 := HAL.out
      clear hce hx y6
      by_cases h8 : i % 8 = 0
      · have hk0 : kEnc i p x = 0 := by unfold kEnc; rw [if_pos h8]
        have e8 : ((i : Int) % 8 != 0) = false := by rw [show (i : Int) % 8 = 0 by omega]; rfl
        have HK0 := Lib.hid hk0
        clear h8 hk0 hd
        obtain ⟨d0, d1, d2, d3⟩ := XL3.out.i
        have dl := XL3.out.lt
        go_wp2_with fail
        have XB : Hid (BxV (w3.alloc (.cells #[.string x.key, .string x.val, .int .i64 x.seq, .bool x.del] 40)) w3.heap.size [.string x.key, .string x.val, .int .i64 x.seq, .bool x.del]) := Lib.hid (BxV.new w3 _ _)
        have hb4 : Below w3.heap.size w3 (w3.alloc (.cells #[.string x.key, .string x.val, .int .i64 x.seq, .bool x.del] 40)) := (Below.refl _ _).alloc (Nat.le_refl _) _
        have XL := Lib.hid (XL3.out.next hb4)
        have B4 := Lib.hid (BA.out.trans (hb4.mono BA.out.size))
        have O4 := Lib.hid (own_keep OA.out hb4 (Nat.le_refl _))
        have bx3 : w3.heap.size < (w3.alloc (.cells #[.string x.key, .string x.val, .int .i64 x.seq, .bool x.del] 40)).heap.size := by simp
        clear hb4 XL3 BA OA d0 d1 d2 d3 dl
        generalize w3.alloc (.cells #[.string x.key, .string x.val, .int .i64 x.seq, .bool x.del] 40) = w4 at *
        generalize w3.heap.size = bx at *
        have hbx : bx < w4.heap.size := XB.out.lt
        have D4 : Hid (Below w4.heap.size w4 w4) := Lib.hid (Below.refl _ _)
        go_wp2_with fail
        refine (appU_any0 A5 acc.length c5 _ acc rfl (by omega)  _ (own_rdL O4.out) (Nat.le_refl _)).mono ?_
        rintro e w5 ⟨v5, rfl, own5, hb5⟩
        obtain ⟨b5, A5, c5, hq5, rfl, o5, r5⟩ := nxB (base' := w4.heap.size) (b := acc) (ys := uv 0) own5 rfl D4.out.size
        have HQ5 := Lib.hid hq5
        have L5 : b5.length ≤ acc.length + 10 := by rw [hq5, List.length_append]; have := uv_len10 (x := 0) (by omega); omega
        have O5 := Lib.hid o5
        have D5 := Lib.hid (D4.out.trans (hb5.mono D4.out.size))
        clear own5 hb5 o5 r5 hq5 O4 D4 
        go_wp2_with fail
        refine wp_heldall (S := fun X => Below w4.heap.size w4 X) 14 (by kernel_rfl) rfl (Below.drew D5.out) (fun hHeld => ?_)
        have wi0 : IntKind.i64.wrap (x.key.size : Int) = (x.key.size : Int) := IntWalk.i64_in _ (by omega)
        have wu0 : IntKind.u64.wrap (x.key.size : Int) = (x.key.size : Int) := IntWalk.u64_in _ (by omega)
        refine takeL (i := 0) (v := ?_) rfl (by kernel_rfl) (by kernel_rfl) (by kernel_rfl) (fun _ _ _ h => h) ⟨by rfl, ?_⟩ (by first | assumption | trivial) ?_
        rotate_left
        · intro W9 hSw
          (try dsimp only at hSw)
          go_simp
          try with_reducible rfl
        (try simp only [Act.put, List.setIfInBounds_toArray, List.set_cons_zero, List.set_cons_succ])
        refine takeL (i := 1) (v := ?_) rfl (by kernel_rfl) (by kernel_rfl) (by kernel_rfl) (fun _ _ _ h => h) ⟨by rfl, ?_⟩ (by first | assumption | trivial) ?_
        rotate_left
        · intro W9 hSw
          (try dsimp only at hSw)
          go_simp
          try with_reducible rfl
        (try simp only [Act.put, List.setIfInBounds_toArray, List.set_cons_zero, List.set_cons_succ])
        refine takeL (i := 2) (v := ?_) rfl (by kernel_rfl) (by kernel_rfl) (by kernel_rfl) (fun _ _ _ h => h) ⟨by rfl, ?_⟩ (by first | assumption | trivial) ?_
        rotate_left
        · intro W9 hSw
          (try dsimp only at hSw)
          (have x0' := (hSw.cell (p := ⟨bx, 0, none⟩) hbx).trans (XB.out.c 0 _ rfl))
          go_simp
          try with_reducible rfl
        (try simp only [Act.put, List.setIfInBounds_toArray, List.set_cons_zero, List.set_cons_succ])
        refine takeL (i := 3) (v := ?_) rfl (by kernel_rfl) (by kernel_rfl) (by kernel_rfl) (fun _ _ _ h => h) ⟨by rfl, ?_⟩ (by first | assumption | trivial) ?_
        rotate_left
        · intro W9 hSw
          (try dsimp only at hSw)
          go_simp
          try with_reducible rfl
        (try simp only [Act.put, List.setIfInBounds_toArray, List.set_cons_zero, List.set_cons_succ])
        refine takeL (i := 4) (v := ?_) rfl (by kernel_rfl) (by kernel_rfl) (by kernel_rfl) (fun _ _ _ h => h) ⟨by rfl, ?_⟩ (by first | assumption | trivial) ?_
        rotate_left
        · intro W9 hSw
          (try dsimp only at hSw)
          go_simp
          try with_reducible rfl
        (try simp only [Act.put, List.setIfInBounds_toArray, List.set_cons_zero, List.set_cons_succ])
        refine takeL (i := 5) (v := ?_) rfl (by kernel_rfl) (by kernel_rfl) (by kernel_rfl) (fun _ _ _ h => h) ⟨by rfl, ?_⟩ (by first | assumption | trivial) ?_
        rotate_left
        · intro W9 hSw
          (try dsimp only at hSw)
          go_simp
          try with_reducible rfl
        (try simp only [Act.put, List.setIfInBounds_toArray, List.set_cons_zero, List.set_cons_succ])
        refine takeL (i := 6) (v := ?_) rfl (by kernel_rfl) (by kernel_rfl) (by kernel_rfl) (fun _ _ _ h => h) ⟨by rfl, ?_⟩ (by first | assumption | trivial) ?_
        rotate_left
        · intro W9 hSw
          (try dsimp only at hSw)
          go_simp
          try with_reducible rfl
        (try simp only [Act.put, List.setIfInBounds_toArray, List.set_cons_zero, List.set_cons_succ])
        refine takeL (i := 8) (v := ?_) rfl (by kernel_rfl) (by kernel_rfl) (by kernel_rfl) (fun _ _ _ h => h) ⟨by rfl, ?_⟩ (by first | assumption | trivial) ?_
        rotate_left
        · intro W9 hSw
          (try dsimp only at hSw)
          go_simp
          try with_reducible rfl
        (try simp only [Act.put, List.setIfInBounds_toArray, List.set_cons_zero, List.set_cons_succ])
        refine takeL (i := 9) (v := ?_) rfl (by kernel_rfl) (by kernel_rfl) (by kernel_rfl) (fun _ _ _ h => h) ⟨by rfl, ?_⟩ (by first | assumption | trivial) ?_
        rotate_left
        · intro W9 hSw
          (try dsimp only at hSw)
          (have x0' := (hSw.cell (p := ⟨bx, 0, none⟩) hbx).trans (XB.out.c 0 _ rfl))
          go_simp
          try with_reducible rfl
        (try simp only [Act.put, List.setIfInBounds_toArray, List.set_cons_zero, List.set_cons_succ])
        refine takeL (i := 10) (v := ?_) rfl (by kernel_rfl) (by kernel_rfl) (by kernel_rfl) (fun _ _ _ h => h) ⟨by rfl, ?_⟩ (by first | assumption | trivial) ?_
        rotate_left
        · intro W9 hSw
          (try dsimp only at hSw)
          go_simp
          try with_reducible rfl
        (try simp only [Act.put, List.setIfInBounds_toArray, List.set_cons_zero, List.set_cons_succ])
        refine takeL (i := 11) (v := ?_) rfl (by kernel_rfl) (by kernel_rfl) (by kernel_rfl) (fun _ _ _ h => h) ⟨by rfl, ?_⟩ (by first | assumption | trivial) ?_
        rotate_left
        · intro W9 hSw
          (try dsimp only at hSw)
          go_simp
          try with_reducible rfl
        (try simp only [Act.put, List.setIfInBounds_toArray, List.set_cons_zero, List.set_cons_succ])
        clear wi0 wu0
        have kX := hHeld
        clear hHeld
        have OX := Lib.hid (own_keep O5.out (Below.drew (Below.refl w5.heap.size w5)) (Nat.le_refl _))
        clear O5 D5
        generalize w5.drew = X at *
        refine wpAnyH_ready (rs := [7]) (by kernel_rfl) (by simp) ?_
        refine consL rfl (by rfl) (fun K hK => ?_) ?_
        · go_simp
          go_at_call 36
          refine (appU_any A5 b5.length c5 _ b5 rfl (by omega) x.key.size (by omega) _ (own_rdL OX.out) (Nat.le_refl _)).mono ?_
          rintro e X2 ⟨vX, rfl, ownX, hbX⟩
          have kX2 := kX.trans (hbX.mono kX.size)
          refine hK.out _ _ kX2 (fun _ => ?_)
          obtain ⟨b6x, A6x, c6x, hqX, rfl, oX, rX⟩ := nxB (base' := w4.heap.size) (b := b5) (ys := uv x.key.size) ownX rfl kX.size
          have Lb6x : b6x.length ≤ b5.length + 10 := by rw [hqX, List.length_append]; have := uv_len10 (x := x.key.size) (by omega); omega
          have Hb6x := Lib.hid hqX
          clear hK K kX OX
          have OX := Lib.hid oX
          clear ownX hbX hqX oX rX
          obtain ⟨X, rfl⟩ : ∃ x, x = X2 := ⟨_, rfl⟩
          have kX := kX2
          clear kX2
          (try simp only [Act.put, List.setIfInBounds_toArray, List.set_cons_zero, List.set_cons_succ])
          refine wpAnyH_ready (rs := [12]) (by kernel_rfl) (by simp) ?_
          refine consL rfl (by rfl) (fun K hK => ?_) ?_
          · refine wp_appS styB Try.underlying9 (.tmp 48) (.tmp 52) rfl w4.heap.size OX.out rfl (x.key) rfl (by unfold maxLen; omega) (by omega) kX.size ?_
            intro vX X2 ownX grX
            have kX2 : Below w4.heap.size w4 X2 := kX.grown grX kX.size (fun g e => (OX.out.lt g e).1)
            refine hK.out _ _ kX2 (fun _ => ?_)
            obtain ⟨b6y, A6y, c6y, hqX, rfl, oX, rX⟩ := nxB (base' := w4.heap.size) (b := b6x) (ys := (x.key).data.toList) ownX (by rw [bv_append]) (Nat.le_refl _)
            have Lb6y : b6y.length ≤ b6x.length + 512 := by have h3 : (x.key).data.toList.length = (x.key).size := Array.length_toList; rw [hqX, List.length_append]; omega
            have Hb6y := Lib.hid hqX
            clear hK K kX OX
            have OX := Lib.hid oX
            clear ownX grX hqX oX rX
            obtain ⟨X, rfl⟩ : ∃ x, x = X2 := ⟨_, rfl⟩
            have kX := kX2
            clear kX2
            (try simp only [Act.put, List.setIfInBounds_toArray, List.set_cons_zero, List.set_cons_succ])
            refine takeL (i := 13) (v := ?_) rfl (by kernel_rfl) (by kernel_rfl) (by kernel_rfl) (fun _ _ _ h => h) ⟨by rfl, ?_⟩ (by first | assumption | trivial) ?_
            rotate_left
            · intro W9 hSw
              (try dsimp only at hSw)
              go_simp
              try with_reducible rfl
            (try simp only [Act.put, List.setIfInBounds_toArray, List.set_cons_zero, List.set_cons_succ])
            refine wpAnyH_done (by kernel_rfl) ?_ _
            obtain ⟨w6, rfl⟩ : ∃ x, x = X := ⟨_, rfl⟩
            have D6 := Lib.hid kX
            have O6 := OX
            clear kX OX
            have x2 := (D6.out.cell (p := ⟨bx, 2, none⟩) hbx).trans (XB.out.c 2 _ rfl)
            rw [HQS.out] at x2
            have xl := Nat.lt_of_lt_of_le hbx D6.out.size
            go_wp2_with fail
            refine (appU_any A6y b6y.length c6y _ b6y rfl (by omega) q (by omega) _ (own_rdL O6.out) (Nat.le_refl _)).mono ?_
            rintro e w7 ⟨v7, rfl, own7, hb7⟩
            obtain ⟨b7, A7, c7, hq7, rfl, o7, r7⟩ := nxB (base' := w4.heap.size) (b := b6y) (ys := uv q) own7 rfl D6.out.size
            have HQ7 := Lib.hid hq7
            have L7 : b7.length ≤ b6y.length + 10 := by rw [hq7, List.length_append]; have := uv_len10 (x := q) (by omega); omega
            have O7 := Lib.hid o7
            have D7 := Lib.hid (D6.out.trans (hb7.mono D6.out.size))
            clear own7 hb7 o7 r7 hq7 O6 D6 x2 xl
            have hqq : Hid (x.seq.toNat = q) := Lib.hid (by have := HQS.out; omega)
            cases hdl : x.del
            · have HDL := Lib.hid hdl
              clear hdl
              have x3 := (D7.out.cell (p := ⟨bx, 3, none⟩) hbx).trans (XB.out.c 3 _ rfl)
              have xl := Nat.lt_of_lt_of_le hbx D7.out.size
              rw [HDL.out] at x3
              go_wp2_with fail
              clear x3 xl
              go_wp2_with fail
              refine wp_heldall (S := fun X => Below w4.heap.size w4 X) 12 (by kernel_rfl) rfl (Below.drew D7.out) (fun hHeld => ?_)
              have wi0 : IntKind.i64.wrap (x.val.size : Int) = (x.val.size : Int) := IntWalk.i64_in _ (by omega)
              have wu0 : IntKind.u64.wrap (x.val.size : Int) = (x.val.size : Int) := IntWalk.u64_in _ (by omega)
              refine takeL (i := 0) (v := ?_) rfl (by kernel_rfl) (by kernel_rfl) (by kernel_rfl) (fun _ _ _ h => h) ⟨by rfl, ?_⟩ (by first | assumption | trivial) ?_
              rotate_left
              · intro W9 hSw
                (try dsimp only at hSw)
                go_simp
                try with_reducible rfl
              (try simp only [Act.put, List.setIfInBounds_toArray, List.set_cons_zero, List.set_cons_succ])
              refine takeL (i := 3) (v := ?_) rfl (by kernel_rfl) (by kernel_rfl) (by kernel_rfl) (fun _ _ _ h => h) ⟨by rfl, ?_⟩ (by first | assumption | trivial) ?_
              rotate_left
              · intro W9 hSw
                (try dsimp only at hSw)
                go_simp
                try with_reducible rfl
              (try simp only [Act.put, List.setIfInBounds_toArray, List.set_cons_zero, List.set_cons_succ])
              refine takeL (i := 4) (v := ?_) rfl (by kernel_rfl) (by kernel_rfl) (by kernel_rfl) (fun _ _ _ h => h) ⟨by rfl, ?_⟩ (by first | assumption | trivial) ?_
              rotate_left
              · intro W9 hSw
                (try dsimp only at hSw)
                (have x1' := (hSw.cell (p := ⟨bx, 1, none⟩) hbx).trans (XB.out.c 1 _ rfl))
                go_simp
                try with_reducible rfl
              (try simp only [Act.put, List.setIfInBounds_toArray, List.set_cons_zero, List.set_cons_succ])
              refine takeL (i := 5) (v := ?_) rfl (by kernel_rfl) (by kernel_rfl) (by kernel_rfl) (fun _ _ _ h => h) ⟨by rfl, ?_⟩ (by first | assumption | trivial) ?_
              rotate_left
              · intro W9 hSw
                (try dsimp only at hSw)
                go_simp
                try with_reducible rfl
              (try simp only [Act.put, List.setIfInBounds_toArray, List.set_cons_zero, List.set_cons_succ])
              refine takeL (i := 6) (v := ?_) rfl (by kernel_rfl) (by kernel_rfl) (by kernel_rfl) (fun _ _ _ h => h) ⟨by rfl, ?_⟩ (by first | assumption | trivial) ?_
              rotate_left
              · intro W9 hSw
                (try dsimp only at hSw)
                go_simp
                try with_reducible rfl
              (try simp only [Act.put, List.setIfInBounds_toArray, List.set_cons_zero, List.set_cons_succ])
              refine takeL (i := 8) (v := ?_) rfl (by kernel_rfl) (by kernel_rfl) (by kernel_rfl) (fun _ _ _ h => h) ⟨by rfl, ?_⟩ (by first | assumption | trivial) ?_
              rotate_left
              · intro W9 hSw
                (try dsimp only at hSw)
                go_simp
                try with_reducible rfl
              (try simp only [Act.put, List.setIfInBounds_toArray, List.set_cons_zero, List.set_cons_succ])
              refine takeL (i := 9) (v := ?_) rfl (by kernel_rfl) (by kernel_rfl) (by kernel_rfl) (fun _ _ _ h => h) ⟨by rfl, ?_⟩ (by first | assumption | trivial) ?_
              rotate_left
              · intro W9 hSw
                (try dsimp only at hSw)
                (have x1' := (hSw.cell (p := ⟨bx, 1, none⟩) hbx).trans (XB.out.c 1 _ rfl))
                go_simp
                try with_reducible rfl
              (try simp only [Act.put, List.setIfInBounds_toArray, List.set_cons_zero, List.set_cons_succ])
              clear wi0 wu0
              have kX := hHeld
              clear hHeld
              have OX := Lib.hid (own_keep O7.out (Below.drew (Below.refl w7.heap.size w7)) (Nat.le_refl _))
              clear O7 D7
              generalize w7.drew = X at *
              refine wpAnyH_ready (rs := [1]) (by kernel_rfl) (by simp) ?_
              refine consL rfl (by rfl) (fun K hK => ?_) ?_
              · go_simp
                have kX2 : Below w4.heap.size w4 (X.alloc (.cells #[.int .u8 0] 5)) := kX.alloc kX.size _
                refine hK.out _ _ kX2 (fun _ => ?_)
                have RN : Hid (Rd (X.alloc (.cells #[.int .u8 0] 5)) (X.alloc (.cells #[.int .u8 0] 5)).heap.size (some ⟨X.heap.size, 0, none⟩) [.int .u8 0]) := Lib.hid (rd_frC _ _ _ _)
                have OX2 := Lib.hid (OX.out.alloc (.cells #[.int .u8 0] 5))
                clear hK K kX OX
                have OX := OX2
                clear OX2
                generalize X.alloc (.cells #[.int .u8 0] 5) = X2 at *
                generalize X.heap.size = hN at *
                obtain ⟨X, rfl⟩ : ∃ x, x = X2 := ⟨_, rfl⟩
                have kX := kX2
                clear kX2
                (try simp only [Act.put, List.setIfInBounds_toArray, List.set_cons_zero, List.set_cons_succ])
                refine wpAnyH_ready (rs := [2]) (by kernel_rfl) (by simp) ?_
                refine consL rfl (by rfl) (fun K hK => ?_) ?_
                · refine wp_app styB (.tmp 64) (.tmp 65) rfl w4.heap.size OX.out rfl 1 1 RN.out rfl rfl (by simp [Value.oneCell']) (by unfold maxLen; omega) (by omega) kX.size ?_
                  intro vX X2 ownX grX nilX atX
                  have kX2 : Below w4.heap.size w4 X2 := kX.grown grX kX.size (fun g e => (OX.out.lt g e).1)
                  refine hK.out _ _ kX2 (fun _ => ?_)
                  obtain ⟨b8y, A8y, c8y, hqX, rfl, oX, rX⟩ := nxB (base' := w4.heap.size) (b := b7) (ys := [0]) ownX (by rw [bv_append]; rfl) (Nat.le_refl _)
                  have Lb8y : b8y.length ≤ b7.length + 1 := by rw [hqX, List.length_append]; simp
                  have Hb8y := Lib.hid hqX
                  clear hK K kX OX RN
                  have OX := Lib.hid oX
                  clear ownX grX nilX atX hqX oX rX
                  obtain ⟨X, rfl⟩ : ∃ x, x = X2 := ⟨_, rfl⟩
                  have kX := kX2
                  clear kX2
                  (try simp only [Act.put, List.setIfInBounds_toArray, List.set_cons_zero, List.set_cons_succ])
                  refine wpAnyH_ready (rs := [7]) (by kernel_rfl) (by simp) ?_
                  refine consL rfl (by rfl) (fun K hK => ?_) ?_
                  · go_simp
                    go_at_call 36
                    refine (appU_any A8y b8y.length c8y _ b8y rfl (by omega) x.val.size (by omega) _ (own_rdL OX.out) (Nat.le_refl _)).mono ?_
                    rintro e X2 ⟨vX, rfl, ownX, hbX⟩
                    have kX2 := kX.trans (hbX.mono kX.size)
                    refine hK.out _ _ kX2 (fun _ => ?_)
                    obtain ⟨b8z, A8z, c8z, hqX, rfl, oX, rX⟩ := nxB (base' := w4.heap.size) (b := b8y) (ys := uv x.val.size) ownX rfl kX.size
                    have Lb8z : b8z.length ≤ b8y.length + 10 := by rw [hqX, List.length_append]; have := uv_len10 (x := x.val.size) (by omega); omega
                    have Hb8z := Lib.hid hqX
                    clear hK K kX OX
                    have OX := Lib.hid oX
                    clear ownX hbX hqX oX rX
                    obtain ⟨X, rfl⟩ : ∃ x, x = X2 := ⟨_, rfl⟩
                    have kX := kX2
                    clear kX2
                    (try simp only [Act.put, List.setIfInBounds_toArray, List.set_cons_zero, List.set_cons_succ])
                    refine wpAnyH_ready (rs := [10]) (by kernel_rfl) (by simp) ?_
                    refine consL rfl (by rfl) (fun K hK => ?_) ?_
                    · refine wp_appS styB Try.underlying9 (.tmp 71) (.tmp 73) rfl w4.heap.size OX.out rfl (x.val) rfl (by unfold maxLen; omega) (by omega) kX.size ?_
                      intro vX X2 ownX grX
                      have kX2 : Below w4.heap.size w4 X2 := kX.grown grX kX.size (fun g e => (OX.out.lt g e).1)
                      refine hK.out _ _ kX2 (fun _ => ?_)
                      obtain ⟨b8u, A8u, c8u, hqX, rfl, oX, rX⟩ := nxB (base' := w4.heap.size) (b := b8z) (ys := (x.val).data.toList) ownX (by rw [bv_append]) (Nat.le_refl _)
                      have Lb8u : b8u.length ≤ b8z.length + 4096 := by have h3 : (x.val).data.toList.length = (x.val).size := Array.length_toList; rw [hqX, List.length_append]; omega
                      have Hb8u := Lib.hid hqX
                      clear hK K kX OX
                      have OX := Lib.hid oX
                      clear ownX grX hqX oX rX
                      obtain ⟨X, rfl⟩ : ∃ x, x = X2 := ⟨_, rfl⟩
                      have kX := kX2
                      clear kX2
                      (try simp only [Act.put, List.setIfInBounds_toArray, List.set_cons_zero, List.set_cons_succ])
                      refine takeL (i := 11) (v := ?_) rfl (by kernel_rfl) (by kernel_rfl) (by kernel_rfl) (fun _ _ _ h => h) ⟨by rfl, ?_⟩ (by first | assumption | trivial) ?_
                      rotate_left
                      · intro W9 hSw
                        (try dsimp only at hSw)
                        go_simp
                        try with_reducible rfl
                      (try simp only [Act.put, List.setIfInBounds_toArray, List.set_cons_zero, List.set_cons_succ])
                      refine wpAnyH_done (by kernel_rfl) ?_ _
                      obtain ⟨w8, rfl⟩ : ∃ x, x = X := ⟨_, rfl⟩
                      have D8 := Lib.hid kX
                      have O8 := OX
                      clear kX OX
                      have HQ9 : Hid (S = b8u ++ encR (i + 1) x.key (l.drop (i + 1))) := Lib.hid (enc_round HX.out HQ.out b8u (by rw [Hb8u.out, Hb8z.out, Hb8y.out, HQ7.out, Hb6y.out, Hb6x.out, HQ5.out, encE, tEnc, HDL.out, HK0.out, show x.key.size - 0 = x.key.size by omega, hqq.out]; simp))
                      have L9 : Hid (b8u.length ≤ 10 + (i + 1) * 5000) := Lib.hid (by omega)
                      have HP9 : Hid (∀ j y, i + 1 = j + 1 → l[j]? = some y → x.key = y.key) := Lib.hid (fun j y hj hy => key_same HX.out (by omega) hy)
                      have O91 := Lib.hid (own_base O8.out B4.out.size)
                      have B91 := Lib.hid (B4.out.trans (D8.out.mono B4.out.size))
                      clear HQ
                      go_wp2_with fail
                      go_roundw
                      case rel => exact ⟨_, _, b8u, i + 1, x.key, rfl, by go_num, by omega, L9, HP9, O91, HQ9, B91⟩
                      case measure => simp [intOf]; omega
                    · exact AllReadyH.nil
                  · exact AllReadyH.nil
                · exact AllReadyH.nil
              · exact AllReadyH.nil
            · have HDL := Lib.hid hdl
              clear hdl
              have x3 := (D7.out.cell (p := ⟨bx, 3, none⟩) hbx).trans (XB.out.c 3 _ rfl)
              have xl := Nat.lt_of_lt_of_le hbx D7.out.size
              rw [HDL.out] at x3
              go_wp2_with (at_builtin; refine wpList_app styB (.tmp 61) (.tmp 62) rfl rfl w4.heap.size (O7.out.alloc _) rfl 1 1 (rd_frC _ _ _ _) rfl rfl (by simp [Value.oneCell']) (by unfold maxLen; omega) (by omega) (by have h1 := D7.out.size; rw [World.size_alloc]; omega) ?_; intro v9 w99 own9 gr9 nil9 at9; obtain ⟨b9, A9, c9, hq9, rfl, o9, r9⟩ := nxB (base' := w4.heap.size) (b := b7) (ys := [1]) own9 (by rw [bv_append]; rfl) (Nat.le_refl _); have HQ99 := Lib.hid hq9; have L99 : b9.length ≤ b7.length + 1 := (by rw [hq9, List.length_append]; simp); clear hq9)
              have D99 := Lib.hid ((D7.out.alloc D7.out.size _).grown gr9 (by have h1 := D7.out.size; rw [World.size_alloc]; omega) (fun g e => (O7.out.lt g e).1))
              have O99 := Lib.hid o9
              clear own9 gr9 nil9 at9 o9 r9
              have HQ9 : Hid (S = b9 ++ encR (i + 1) x.key (l.drop (i + 1))) := Lib.hid (enc_round HX.out HQ.out b9 (by rw [HQ99.out, HQ7.out, Hb6y.out, Hb6x.out, HQ5.out, encE, tEnc, HDL.out, HK0.out, show x.key.size - 0 = x.key.size by omega, hqq.out]; simp))
              have L9 : Hid (b9.length ≤ 10 + (i + 1) * 5000) := Lib.hid (by omega)
              have HP9 : Hid (∀ j y, i + 1 = j + 1 → l[j]? = some y → x.key = y.key) := Lib.hid (fun j y hj hy => key_same HX.out (by omega) hy)
              have O91 := Lib.hid (own_base O99.out B4.out.size)
              have B91 := Lib.hid (B4.out.trans (D99.out.mono B4.out.size))
              clear HQ
              go_wp2_with fail
              go_roundw
              case rel => exact ⟨_, _, b9, i + 1, x.key, rfl, by go_num, by omega, L9, HP9, O91, HQ9, B91⟩
              case measure => simp [intOf]; omega
          · exact AllReadyH.nil
        · exact AllReadyH.nil
      · obtain ⟨j, hj⟩ : ∃ j, i = j + 1 := ⟨i - 1, by omega⟩
        obtain ⟨y, hy⟩ : ∃ y, l[j]? = some y := ⟨_, List.getElem?_eq_getElem (by rw [HL.out]; omega)⟩
        have hpy := HPK.out j y hj hy
        have hk0 : kEnc i p x = shrL y.key.data.toList x.key.data.toList := by unfold kEnc; rw [if_neg h8, hpy]
        obtain ⟨k, hkk⟩ : ∃ k, k = shrL y.key.data.toList x.key.data.toList := ⟨_, rfl⟩
        rw [← hkk] at hk0
        have hdk : x.key.size = k + d := by rw [← hk0]; exact hd
        have HK0 := Lib.hid hk0
        have HSH := Lib.hid (fun W => shared_any y.key x.key (by have := okE_b (HOK.out.2.2.1 y (List.mem_of_getElem? hy)); omega) (by omega) W)
        rw [← hkk] at HSH
        obtain ⟨b', off', eA, hb', hce'⟩ := en_at R1.out hy
        injection eA with eA
        injection eA with eb eo
        subst eb eo
        have HCE := Lib.hid hce'
        have e8 : ((i : Int) % 8 != 0) = true := by rw [bne_iff_ne]; omega
        have j2 : (i : Int) - 1 = (j : Int) := by omega
        have j3 : (j : Int) < (n : Int) := by omega
        have j4 : IntKind.i64.wrap (j : Int) = (j : Int) := IntWalk.i64_in _ (by omega)
        have j5 : (0 : Int) ≤ (j : Int) := by omega
        clear h8 hk0 hd hpy hy hce' hb' hkk hj
        obtain ⟨d0, d1, d2, d3⟩ := XL3.out.i
        have dl := XL3.out.lt
        go_wp2_with fail
        have XB : Hid (BxV (w3.alloc (.cells #[.string x.key, .string x.val, .int .i64 x.seq, .bool x.del] 40)) w3.heap.size [.string x.key, .string x.val, .int .i64 x.seq, .bool x.del]) := Lib.hid (BxV.new w3 _ _)
        have hb4 : Below w3.heap.size w3 (w3.alloc (.cells #[.string x.key, .string x.val, .int .i64 x.seq, .bool x.del] 40)) := (Below.refl _ _).alloc (Nat.le_refl _) _
        have XL := Lib.hid (XL3.out.next hb4)
        have B4 := Lib.hid (BA.out.trans (hb4.mono BA.out.size))
        have O4 := Lib.hid (own_keep OA.out hb4 (Nat.le_refl _))
        have bx3 : w3.heap.size < (w3.alloc (.cells #[.string x.key, .string x.val, .int .i64 x.seq, .bool x.del] 40)).heap.size := by simp
        clear hb4 XL3 BA OA d0 d1 d2 d3 dl
        generalize w3.alloc (.cells #[.string x.key, .string x.val, .int .i64 x.seq, .bool x.del] 40) = w4 at *
        generalize w3.heap.size = bx at *
        have f0 := (HCE.out.below (Nat.lt_of_lt_of_le hb hB1) B4.out).c0
        have fl : b < w4.heap.size := XL.out.lt
        have x0 := XB.out.c 0 _ rfl
        have xl := XB.out.lt
        go_wp2_with fail
        refine wp_qall (by kernel_rfl) (by kernel_rfl) ?_
        intro hcg
        repeat (first | go_big_quiet_step ((with_reducible (exact Calls.reg (HSH.out _)))) | quiet_step ((with_reducible (exact Calls.reg (HSH.out _)))))
        refine wpQuiet_nil ?_
        intro wq hbwq hcwq hfwq
        clear hcg
        obtain ⟨w5, rfl⟩ : ∃ x, x = wq := ⟨_, rfl⟩
        have O5 := Lib.hid (own_keep O4.out hbwq (Nat.le_refl _))
        have B5 := Lib.hid (B4.out.trans (hbwq.mono B4.out.size))
        have XB' := Lib.hid (XB.out.next hbwq)
        clear XB
        have XB := XB'
        clear XB'
        have XL' := Lib.hid (XL.out.next hbwq)
        clear XL
        have XL := XL'
        clear XL'
        clear hbwq hcwq hfwq O4 B4 f0 fl j2 j3 j4 j5 x0 xl HSH
        have hsub : (x.key.size : Int) - (k : Int) = (d : Int) := by omega
        have hkn : (0 : Int) ≤ (k : Int) := by omega
        have hks : (k : Int) ≤ (x.key.size : Int) := by omega
        have hk5 : k ≤ 512 := by omega
        have hd5 : d ≤ 512 := by omega
        have HDK := Lib.hid hdk
        clear hdk
        have hbx : bx < w5.heap.size := XB.out.lt
        have D5 : Hid (Below w5.heap.size w5 w5) := Lib.hid (Below.refl _ _)
        go_wp2_with fail
        refine (appU_any A5 acc.length c5 _ acc rfl (by omega) k (by omega) _ (own_rdL O5.out) (Nat.le_refl _)).mono ?_
        rintro e w6 ⟨v6, rfl, own6, hb6⟩
        obtain ⟨b6, A6, c6, hq6, rfl, o6, r6⟩ := nxB (base' := w5.heap.size) (b := acc) (ys := uv k) own6 rfl D5.out.size
        have HQ6 := Lib.hid hq6
        have L6 : b6.length ≤ acc.length + 10 := by rw [hq6, List.length_append]; have := uv_len10 (x := k) (by omega); omega
        have O6 := Lib.hid o6
        have D6 := Lib.hid (D5.out.trans (hb6.mono D5.out.size))
        clear own6 hb6 o6 r6 hq6 O5 D5 
        go_wp2_with fail
        refine wp_heldall (S := fun X => Below w5.heap.size w5 X) 14 (by kernel_rfl) rfl (Below.drew D6.out) (fun hHeld => ?_)
        have wi0 : IntKind.i64.wrap (d : Int) = (d : Int) := IntWalk.i64_in _ (by omega)
        have wu0 : IntKind.u64.wrap (d : Int) = (d : Int) := IntWalk.u64_in _ (by omega)
        refine takeL (i := 0) (v := ?_) rfl (by kernel_rfl) (by kernel_rfl) (by kernel_rfl) (fun _ _ _ h => h) ⟨by rfl, ?_⟩ (by first | assumption | trivial) ?_
        rotate_left
        · intro W9 hSw
          (try dsimp only at hSw)
          go_simp
          try with_reducible rfl
        (try simp only [Act.put, List.setIfInBounds_toArray, List.set_cons_zero, List.set_cons_succ])
        refine takeL (i := 1) (v := ?_) rfl (by kernel_rfl) (by kernel_rfl) (by kernel_rfl) (fun _ _ _ h => h) ⟨by rfl, ?_⟩ (by first | assumption | trivial) ?_
        rotate_left
        · intro W9 hSw
          (try dsimp only at hSw)
          go_simp
          try with_reducible rfl
        (try simp only [Act.put, List.setIfInBounds_toArray, List.set_cons_zero, List.set_cons_succ])
        refine takeL (i := 2) (v := ?_) rfl (by kernel_rfl) (by kernel_rfl) (by kernel_rfl) (fun _ _ _ h => h) ⟨by rfl, ?_⟩ (by first | assumption | trivial) ?_
        rotate_left
        · intro W9 hSw
          (try dsimp only at hSw)
          (have x0' := (hSw.cell (p := ⟨bx, 0, none⟩) hbx).trans (XB.out.c 0 _ rfl))
          go_simp
          try with_reducible rfl
        (try simp only [Act.put, List.setIfInBounds_toArray, List.set_cons_zero, List.set_cons_succ])
        refine takeL (i := 3) (v := ?_) rfl (by kernel_rfl) (by kernel_rfl) (by kernel_rfl) (fun _ _ _ h => h) ⟨by rfl, ?_⟩ (by first | assumption | trivial) ?_
        rotate_left
        · intro W9 hSw
          (try dsimp only at hSw)
          go_simp
          try with_reducible rfl
        (try simp only [Act.put, List.setIfInBounds_toArray, List.set_cons_zero, List.set_cons_succ])
        refine takeL (i := 4) (v := ?_) rfl (by kernel_rfl) (by kernel_rfl) (by kernel_rfl) (fun _ _ _ h => h) ⟨by rfl, ?_⟩ (by first | assumption | trivial) ?_
        rotate_left
        · intro W9 hSw
          (try dsimp only at hSw)
          go_simp
          try with_reducible rfl
        (try simp only [Act.put, List.setIfInBounds_toArray, List.set_cons_zero, List.set_cons_succ])
        refine takeL (i := 5) (v := ?_) rfl (by kernel_rfl) (by kernel_rfl) (by kernel_rfl) (fun _ _ _ h => h) ⟨by rfl, ?_⟩ (by first | assumption | trivial) ?_
        rotate_left
        · intro W9 hSw
          (try dsimp only at hSw)
          go_simp
          try with_reducible rfl
        (try simp only [Act.put, List.setIfInBounds_toArray, List.set_cons_zero, List.set_cons_succ])
        refine takeL (i := 6) (v := ?_) rfl (by kernel_rfl) (by kernel_rfl) (by kernel_rfl) (fun _ _ _ h => h) ⟨by rfl, ?_⟩ (by first | assumption | trivial) ?_
        rotate_left
        · intro W9 hSw
          (try dsimp only at hSw)
          go_simp
          try with_reducible rfl
        (try simp only [Act.put, List.setIfInBounds_toArray, List.set_cons_zero, List.set_cons_succ])
        refine takeL (i := 8) (v := ?_) rfl (by kernel_rfl) (by kernel_rfl) (by kernel_rfl) (fun _ _ _ h => h) ⟨by rfl, ?_⟩ (by first | assumption | trivial) ?_
        rotate_left
        · intro W9 hSw
          (try dsimp only at hSw)
          go_simp
          try with_reducible rfl
        (try simp only [Act.put, List.setIfInBounds_toArray, List.set_cons_zero, List.set_cons_succ])
        refine takeL (i := 9) (v := ?_) rfl (by kernel_rfl) (by kernel_rfl) (by kernel_rfl) (fun _ _ _ h => h) ⟨by rfl, ?_⟩ (by first | assumption | trivial) ?_
        rotate_left
        · intro W9 hSw
          (try dsimp only at hSw)
          (have x0' := (hSw.cell (p := ⟨bx, 0, none⟩) hbx).trans (XB.out.c 0 _ rfl))
          go_simp
          try with_reducible rfl
        (try simp only [Act.put, List.setIfInBounds_toArray, List.set_cons_zero, List.set_cons_succ])
        refine takeL (i := 10) (v := ?_) rfl (by kernel_rfl) (by kernel_rfl) (by kernel_rfl) (fun _ _ _ h => h) ⟨by rfl, ?_⟩ (by first | assumption | trivial) ?_
        rotate_left
        · intro W9 hSw
          (try dsimp only at hSw)
          go_simp
          try with_reducible rfl
        (try simp only [Act.put, List.setIfInBounds_toArray, List.set_cons_zero, List.set_cons_succ])
        refine takeL (i := 11) (v := ?_) rfl (by kernel_rfl) (by kernel_rfl) (by kernel_rfl) (fun _ _ _ h => h) ⟨by rfl, ?_⟩ (by first | assumption | trivial) ?_
        rotate_left
        · intro W9 hSw
          (try dsimp only at hSw)
          go_simp
          try with_reducible rfl
        (try simp only [Act.put, List.setIfInBounds_toArray, List.set_cons_zero, List.set_cons_succ])
        clear wi0 wu0
        have kX := hHeld
        clear hHeld
        have OX := Lib.hid (own_keep O6.out (Below.drew (Below.refl w6.heap.size w6)) (Nat.le_refl _))
        clear O6 D6
        generalize w6.drew = X at *
        refine wpAnyH_ready (rs := [7]) (by kernel_rfl) (by simp) ?_
        refine consL rfl (by rfl) (fun K hK => ?_) ?_
        · go_simp
          go_at_call 36
          refine (appU_any A6 b6.length c6 _ b6 rfl (by omega) d (by omega) _ (own_rdL OX.out) (Nat.le_refl _)).mono ?_
          rintro e X2 ⟨vX, rfl, ownX, hbX⟩
          have kX2 := kX.trans (hbX.mono kX.size)
          refine hK.out _ _ kX2 (fun _ => ?_)
          obtain ⟨b7x, A7x, c7x, hqX, rfl, oX, rX⟩ := nxB (base' := w5.heap.size) (b := b6) (ys := uv d) ownX rfl kX.size
          have Lb7x : b7x.length ≤ b6.length + 10 := by rw [hqX, List.length_append]; have := uv_len10 (x := d) (by omega); omega
          have Hb7x := Lib.hid hqX
          clear hK K kX OX
          have OX := Lib.hid oX
          clear ownX hbX hqX oX rX
          obtain ⟨X, rfl⟩ : ∃ x, x = X2 := ⟨_, rfl⟩
          have kX := kX2
          clear kX2
          (try simp only [Act.put, List.setIfInBounds_toArray, List.set_cons_zero, List.set_cons_succ])
          refine wpAnyH_ready (rs := [12]) (by kernel_rfl) (by simp) ?_
          refine consL rfl (by rfl) (fun K hK => ?_) ?_
          · refine wp_appS styB Try.underlying9 (.tmp 48) (.tmp 52) rfl w5.heap.size OX.out rfl (x.key.extract k x.key.size) rfl (by rw [ext_size x.key _ d HDK.out]; unfold maxLen; omega) (by rw [ext_size x.key _ d HDK.out]; omega) kX.size ?_
            intro vX X2 ownX grX
            have kX2 : Below w5.heap.size w5 X2 := kX.grown grX kX.size (fun g e => (OX.out.lt g e).1)
            refine hK.out _ _ kX2 (fun _ => ?_)
            obtain ⟨b7y, A7y, c7y, hqX, rfl, oX, rX⟩ := nxB (base' := w5.heap.size) (b := b7x) (ys := (x.key.extract k x.key.size).data.toList) ownX (by rw [bv_append]) (Nat.le_refl _)
            have Lb7y : b7y.length ≤ b7x.length + 512 := by have h3 : (x.key.extract k x.key.size).data.toList.length = (x.key.extract k x.key.size).size := Array.length_toList; rw [ext_size x.key _ d HDK.out] at h3; rw [hqX, List.length_append]; omega
            have Hb7y := Lib.hid hqX
            clear hK K kX OX
            have OX := Lib.hid oX
            clear ownX grX hqX oX rX
            obtain ⟨X, rfl⟩ : ∃ x, x = X2 := ⟨_, rfl⟩
            have kX := kX2
            clear kX2
            (try simp only [Act.put, List.setIfInBounds_toArray, List.set_cons_zero, List.set_cons_succ])
            refine takeL (i := 13) (v := ?_) rfl (by kernel_rfl) (by kernel_rfl) (by kernel_rfl) (fun _ _ _ h => h) ⟨by rfl, ?_⟩ (by first | assumption | trivial) ?_
            rotate_left
            · intro W9 hSw
              (try dsimp only at hSw)
              go_simp
              try with_reducible rfl
            (try simp only [Act.put, List.setIfInBounds_toArray, List.set_cons_zero, List.set_cons_succ])
            refine wpAnyH_done (by kernel_rfl) ?_ _
            obtain ⟨w7, rfl⟩ : ∃ x, x = X := ⟨_, rfl⟩
            have D7 := Lib.hid kX
            have O7 := OX
            clear kX OX
            have x2 := (D7.out.cell (p := ⟨bx, 2, none⟩) hbx).trans (XB.out.c 2 _ rfl)
            rw [HQS.out] at x2
            have xl := Nat.lt_of_lt_of_le hbx D7.out.size
            go_wp2_with fail
            refine (appU_any A7y b7y.length c7y _ b7y rfl (by omega) q (by omega) _ (own_rdL O7.out) (Nat.le_refl _)).mono ?_
            rintro e w8 ⟨v8, rfl, own8, hb8⟩
            obtain ⟨b8, A8, c8, hq8, rfl, o8, r8⟩ := nxB (base' := w5.heap.size) (b := b7y) (ys := uv q) own8 rfl D7.out.size
            have HQ8 := Lib.hid hq8
            have L8 : b8.length ≤ b7y.length + 10 := by rw [hq8, List.length_append]; have := uv_len10 (x := q) (by omega); omega
            have O8 := Lib.hid o8
            have D8 := Lib.hid (D7.out.trans (hb8.mono D7.out.size))
            clear own8 hb8 o8 r8 hq8 O7 D7 x2 xl
            have hqq : Hid (x.seq.toNat = q) := Lib.hid (by have := HQS.out; omega)
            cases hdl : x.del
            · have HDL := Lib.hid hdl
              clear hdl
              have x3 := (D8.out.cell (p := ⟨bx, 3, none⟩) hbx).trans (XB.out.c 3 _ rfl)
              have xl := Nat.lt_of_lt_of_le hbx D8.out.size
              rw [HDL.out] at x3
              go_wp2_with fail
              clear x3 xl
              go_wp2_with fail
              refine wp_heldall (S := fun X => Below w5.heap.size w5 X) 12 (by kernel_rfl) rfl (Below.drew D8.out) (fun hHeld => ?_)
              have wi0 : IntKind.i64.wrap (x.val.size : Int) = (x.val.size : Int) := IntWalk.i64_in _ (by omega)
              have wu0 : IntKind.u64.wrap (x.val.size : Int) = (x.val.size : Int) := IntWalk.u64_in _ (by omega)
              refine takeL (i := 0) (v := ?_) rfl (by kernel_rfl) (by kernel_rfl) (by kernel_rfl) (fun _ _ _ h => h) ⟨by rfl, ?_⟩ (by first | assumption | trivial) ?_
              rotate_left
              · intro W9 hSw
                (try dsimp only at hSw)
                go_simp
                try with_reducible rfl
              (try simp only [Act.put, List.setIfInBounds_toArray, List.set_cons_zero, List.set_cons_succ])
              refine takeL (i := 3) (v := ?_) rfl (by kernel_rfl) (by kernel_rfl) (by kernel_rfl) (fun _ _ _ h => h) ⟨by rfl, ?_⟩ (by first | assumption | trivial) ?_
              rotate_left
              · intro W9 hSw
                (try dsimp only at hSw)
                go_simp
                try with_reducible rfl
              (try simp only [Act.put, List.setIfInBounds_toArray, List.set_cons_zero, List.set_cons_succ])
              refine takeL (i := 4) (v := ?_) rfl (by kernel_rfl) (by kernel_rfl) (by kernel_rfl) (fun _ _ _ h => h) ⟨by rfl, ?_⟩ (by first | assumption | trivial) ?_
              rotate_left
              · intro W9 hSw
                (try dsimp only at hSw)
                (have x1' := (hSw.cell (p := ⟨bx, 1, none⟩) hbx).trans (XB.out.c 1 _ rfl))
                go_simp
                try with_reducible rfl
              (try simp only [Act.put, List.setIfInBounds_toArray, List.set_cons_zero, List.set_cons_succ])
              refine takeL (i := 5) (v := ?_) rfl (by kernel_rfl) (by kernel_rfl) (by kernel_rfl) (fun _ _ _ h => h) ⟨by rfl, ?_⟩ (by first | assumption | trivial) ?_
              rotate_left
              · intro W9 hSw
                (try dsimp only at hSw)
                go_simp
                try with_reducible rfl
              (try simp only [Act.put, List.setIfInBounds_toArray, List.set_cons_zero, List.set_cons_succ])
              refine takeL (i := 6) (v := ?_) rfl (by kernel_rfl) (by kernel_rfl) (by kernel_rfl) (fun _ _ _ h => h) ⟨by rfl, ?_⟩ (by first | assumption | trivial) ?_
              rotate_left
              · intro W9 hSw
                (try dsimp only at hSw)
                go_simp
                try with_reducible rfl
              (try simp only [Act.put, List.setIfInBounds_toArray, List.set_cons_zero, List.set_cons_succ])
              refine takeL (i := 8) (v := ?_) rfl (by kernel_rfl) (by kernel_rfl) (by kernel_rfl) (fun _ _ _ h => h) ⟨by rfl, ?_⟩ (by first | assumption | trivial) ?_
              rotate_left
              · intro W9 hSw
                (try dsimp only at hSw)
                go_simp
                try with_reducible rfl
              (try simp only [Act.put, List.setIfInBounds_toArray, List.set_cons_zero, List.set_cons_succ])
              refine takeL (i := 9) (v := ?_) rfl (by kernel_rfl) (by kernel_rfl) (by kernel_rfl) (fun _ _ _ h => h) ⟨by rfl, ?_⟩ (by first | assumption | trivial) ?_
              rotate_left
              · intro W9 hSw
                (try dsimp only at hSw)
                (have x1' := (hSw.cell (p := ⟨bx, 1, none⟩) hbx).trans (XB.out.c 1 _ rfl))
                go_simp
                try with_reducible rfl
              (try simp only [Act.put, List.setIfInBounds_toArray, List.set_cons_zero, List.set_cons_succ])
              clear wi0 wu0
              have kX := hHeld
              clear hHeld
              have OX := Lib.hid (own_keep O8.out (Below.drew (Below.refl w8.heap.size w8)) (Nat.le_refl _))
              clear O8 D8
              generalize w8.drew = X at *
              refine wpAnyH_ready (rs := [1]) (by kernel_rfl) (by simp) ?_
              refine consL rfl (by rfl) (fun K hK => ?_) ?_
              · go_simp
                have kX2 : Below w5.heap.size w5 (X.alloc (.cells #[.int .u8 0] 5)) := kX.alloc kX.size _
                refine hK.out _ _ kX2 (fun _ => ?_)
                have RN : Hid (Rd (X.alloc (.cells #[.int .u8 0] 5)) (X.alloc (.cells #[.int .u8 0] 5)).heap.size (some ⟨X.heap.size, 0, none⟩) [.int .u8 0]) := Lib.hid (rd_frC _ _ _ _)
                have OX2 := Lib.hid (OX.out.alloc (.cells #[.int .u8 0] 5))
                clear hK K kX OX
                have OX := OX2
                clear OX2
                generalize X.alloc (.cells #[.int .u8 0] 5) = X2 at *
                generalize X.heap.size = hN at *
                obtain ⟨X, rfl⟩ : ∃ x, x = X2 := ⟨_, rfl⟩
                have kX := kX2
                clear kX2
                (try simp only [Act.put, List.setIfInBounds_toArray, List.set_cons_zero, List.set_cons_succ])
                refine wpAnyH_ready (rs := [2]) (by kernel_rfl) (by simp) ?_
                refine consL rfl (by rfl) (fun K hK => ?_) ?_
                · refine wp_app styB (.tmp 64) (.tmp 65) rfl w5.heap.size OX.out rfl 1 1 RN.out rfl rfl (by simp [Value.oneCell']) (by unfold maxLen; omega) (by omega) kX.size ?_
                  intro vX X2 ownX grX nilX atX
                  have kX2 : Below w5.heap.size w5 X2 := kX.grown grX kX.size (fun g e => (OX.out.lt g e).1)
                  refine hK.out _ _ kX2 (fun _ => ?_)
                  obtain ⟨b9y, A9y, c9y, hqX, rfl, oX, rX⟩ := nxB (base' := w5.heap.size) (b := b8) (ys := [0]) ownX (by rw [bv_append]; rfl) (Nat.le_refl _)
                  have Lb9y : b9y.length ≤ b8.length + 1 := by rw [hqX, List.length_append]; simp
                  have Hb9y := Lib.hid hqX
                  clear hK K kX OX RN
                  have OX := Lib.hid oX
                  clear ownX grX nilX atX hqX oX rX
                  obtain ⟨X, rfl⟩ : ∃ x, x = X2 := ⟨_, rfl⟩
                  have kX := kX2
                  clear kX2
                  (try simp only [Act.put, List.setIfInBounds_toArray, List.set_cons_zero, List.set_cons_succ])
                  refine wpAnyH_ready (rs := [7]) (by kernel_rfl) (by simp) ?_
                  refine consL rfl (by rfl) (fun K hK => ?_) ?_
                  · go_simp
                    go_at_call 36
                    refine (appU_any A9y b9y.length c9y _ b9y rfl (by omega) x.val.size (by omega) _ (own_rdL OX.out) (Nat.le_refl _)).mono ?_
                    rintro e X2 ⟨vX, rfl, ownX, hbX⟩
                    have kX2 := kX.trans (hbX.mono kX.size)
                    refine hK.out _ _ kX2 (fun _ => ?_)
                    obtain ⟨b9z, A9z, c9z, hqX, rfl, oX, rX⟩ := nxB (base' := w5.heap.size) (b := b9y) (ys := uv x.val.size) ownX rfl kX.size
                    have Lb9z : b9z.length ≤ b9y.length + 10 := by rw [hqX, List.length_append]; have := uv_len10 (x := x.val.size) (by omega); omega
                    have Hb9z := Lib.hid hqX
                    clear hK K kX OX
                    have OX := Lib.hid oX
                    clear ownX hbX hqX oX rX
                    obtain ⟨X, rfl⟩ : ∃ x, x = X2 := ⟨_, rfl⟩
                    have kX := kX2
                    clear kX2
                    (try simp only [Act.put, List.setIfInBounds_toArray, List.set_cons_zero, List.set_cons_succ])
                    refine wpAnyH_ready (rs := [10]) (by kernel_rfl) (by simp) ?_
                    refine consL rfl (by rfl) (fun K hK => ?_) ?_
                    · refine wp_appS styB Try.underlying9 (.tmp 71) (.tmp 73) rfl w5.heap.size OX.out rfl (x.val) rfl (by unfold maxLen; omega) (by omega) kX.size ?_
                      intro vX X2 ownX grX
                      have kX2 : Below w5.heap.size w5 X2 := kX.grown grX kX.size (fun g e => (OX.out.lt g e).1)
                      refine hK.out _ _ kX2 (fun _ => ?_)
                      obtain ⟨b9u, A9u, c9u, hqX, rfl, oX, rX⟩ := nxB (base' := w5.heap.size) (b := b9z) (ys := (x.val).data.toList) ownX (by rw [bv_append]) (Nat.le_refl _)
                      have Lb9u : b9u.length ≤ b9z.length + 4096 := by have h3 : (x.val).data.toList.length = (x.val).size := Array.length_toList; rw [hqX, List.length_append]; omega
                      have Hb9u := Lib.hid hqX
                      clear hK K kX OX
                      have OX := Lib.hid oX
                      clear ownX grX hqX oX rX
                      obtain ⟨X, rfl⟩ : ∃ x, x = X2 := ⟨_, rfl⟩
                      have kX := kX2
                      clear kX2
                      (try simp only [Act.put, List.setIfInBounds_toArray, List.set_cons_zero, List.set_cons_succ])
                      refine takeL (i := 11) (v := ?_) rfl (by kernel_rfl) (by kernel_rfl) (by kernel_rfl) (fun _ _ _ h => h) ⟨by rfl, ?_⟩ (by first | assumption | trivial) ?_
                      rotate_left
                      · intro W9 hSw
                        (try dsimp only at hSw)
                        go_simp
                        try with_reducible rfl
                      (try simp only [Act.put, List.setIfInBounds_toArray, List.set_cons_zero, List.set_cons_succ])
                      refine wpAnyH_done (by kernel_rfl) ?_ _
                      obtain ⟨w9, rfl⟩ : ∃ x, x = X := ⟨_, rfl⟩
                      have D9 := Lib.hid kX
                      have O9 := OX
                      clear kX OX
                      have HQ9 : Hid (S = b9u ++ encR (i + 1) x.key (l.drop (i + 1))) := Lib.hid (enc_round HX.out HQ.out b9u (by rw [Hb9u.out, Hb9z.out, Hb9y.out, HQ8.out, Hb7y.out, Hb7x.out, HQ6.out, encE, tEnc, HDL.out, HK0.out, show x.key.size - k = d by have := HDK.out; omega, hqq.out, ext_drop]; simp))
                      have L9 : Hid (b9u.length ≤ 10 + (i + 1) * 5000) := Lib.hid (by omega)
                      have HP9 : Hid (∀ j y, i + 1 = j + 1 → l[j]? = some y → x.key = y.key) := Lib.hid (fun j y hj hy => key_same HX.out (by omega) hy)
                      have O91 := Lib.hid (own_base O9.out B5.out.size)
                      have B91 := Lib.hid (B5.out.trans (D9.out.mono B5.out.size))
                      clear HQ
                      go_wp2_with fail
                      go_roundw
                      case rel => exact ⟨_, _, b9u, i + 1, x.key, rfl, by go_num, by omega, L9, HP9, O91, HQ9, B91⟩
                      case measure => simp [intOf]; omega
                    · exact AllReadyH.nil
                  · exact AllReadyH.nil
                · exact AllReadyH.nil
              · exact AllReadyH.nil
            · have HDL := Lib.hid hdl
              clear hdl
              have x3 := (D8.out.cell (p := ⟨bx, 3, none⟩) hbx).trans (XB.out.c 3 _ rfl)
              have xl := Nat.lt_of_lt_of_le hbx D8.out.size
              rw [HDL.out] at x3
              go_wp2_with (at_builtin; refine wpList_app styB (.tmp 61) (.tmp 62) rfl rfl w5.heap.size (O8.out.alloc _) rfl 1 1 (rd_frC _ _ _ _) rfl rfl (by simp [Value.oneCell']) (by unfold maxLen; omega) (by omega) (by have h1 := D8.out.size; rw [World.size_alloc]; omega) ?_; intro v9 w99 own9 gr9 nil9 at9; obtain ⟨b9, A9, c9, hq9, rfl, o9, r9⟩ := nxB (base' := w5.heap.size) (b := b8) (ys := [1]) own9 (by rw [bv_append]; rfl) (Nat.le_refl _); have HQ99 := Lib.hid hq9; have L99 : b9.length ≤ b8.length + 1 := (by rw [hq9, List.length_append]; simp); clear hq9)
              have D99 := Lib.hid ((D8.out.alloc D8.out.size _).grown gr9 (by have h1 := D8.out.size; rw [World.size_alloc]; omega) (fun g e => (O8.out.lt g e).1))
              have O99 := Lib.hid o9
              clear own9 gr9 nil9 at9 o9 r9
              have HQ9 : Hid (S = b9 ++ encR (i + 1) x.key (l.drop (i + 1))) := Lib.hid (enc_round HX.out HQ.out b9 (by rw [HQ99.out, HQ8.out, Hb7y.out, Hb7x.out, HQ6.out, encE, tEnc, HDL.out, HK0.out, show x.key.size - k = d by have := HDK.out; omega, hqq.out, ext_drop]; simp))
              have L9 : Hid (b9.length ≤ 10 + (i + 1) * 5000) := Lib.hid (by omega)
              have HP9 : Hid (∀ j y, i + 1 = j + 1 → l[j]? = some y → x.key = y.key) := Lib.hid (fun j y hj hy => key_same HX.out (by omega) hy)
              have O91 := Lib.hid (own_base O99.out B5.out.size)
              have B91 := Lib.hid (B5.out.trans (D99.out.mono B5.out.size))
              clear HQ
              go_wp2_with fail
              go_roundw
              case rel => exact ⟨_, _, b9, i + 1, x.key, rfl, by go_num, by omega, L9, HP9, O91, HQ9, B91⟩
              case measure => simp [intOf]; omega
          · exact AllReadyH.nil
        · exact AllReadyH.nil
    · have i1 : ¬ (i : Int) < (n : Int) := by omega
      have SEQ : Hid (S = acc) := Lib.hid (by rw [HQ.out, List.drop_eq_nil_of_le (by rw [HL.out]; omega)]; simp [encR])
      clear HQ hlt
      go_wp2_with fail
      go_ret2
      exact ⟨_, by rw [E0.out] <;> rfl, by rw [SEQ.out]; exact own_base OA.out B1.out.size, B1.out.trans (BA.out.mono B1.out.size)⟩
set_option maxHeartbeats 12800000 in
theorem rencode_any (A : Option Addr) (n c : Nat) (l : List Ent) (hl : l.length = n) (hn : n ≤ 1000000) (hk : ∀ x ∈ l, x.key.size ≤ maxLen) (B : Nat) (w : World) (hr : Rd w B A (env l)) (hB : B ≤ w.heap.size) :
    Calls Try.prog 42 #[.slice A n c] w fun e w' => ∃ v, e = .returned (.tuple #[v, .int .i64 (chkL l)]) ∧ w'.ownsRow w.heap.size 5 1 v (encL l).length (bv (encL l)) ∧ Below w.heap.size w w' := by
  have HCK := Lib.hid (fun W h k => rcheck7_any A n c l hl hn hk B W h k)
  obtain ⟨E, hE⟩ : ∃ E, E = chkL l := ⟨_, rfl⟩
  obtain ⟨S, hS⟩ : ∃ S, S = encL l := ⟨_, rfl⟩
  rw [← hE, ← hS]
  rw [← hE] at HCK
  have HE := Lib.hid hE
  have HS := Lib.hid hS
  have HL := Lib.hid hl
  have HR := Lib.hid hr
  clear hE hS hl hr hk
  go_enter Try.func42, Try.ntmps42
  go_wp2_with fail
  refine (HCK.out w HR.out hB).mono ?_
  rintro e w1 ⟨rfl, hb⟩
  have B1 := Lib.hid hb
  have R1 := Lib.hid (HR.out.below (hb.mono hB))
  have hB1 : B ≤ w1.heap.size := by have := hb.size; omega
  clear hb HR HCK
  by_cases h0 : E = 0
  case neg =>
    have e1 : (E != 0) = true := by simpa using h0
    have SEQ : Hid (S = []) := Lib.hid (by rw [HS.out]; unfold encL; rw [if_neg (by rw [← HE.out]; exact h0)])
    clear h0 HE HS
    go_wp2_with fail
    go_ret2
    exact ⟨_, rfl, by rw [SEQ.out]; exact World.ownsRow_nil _ _ _ _, B1.out⟩
  have HOK := Lib.hid (chkL_ok (by rw [← HE.out]; exact h0))
  have SEQ : Hid (S = uv n ++ encR 0 zB (l.drop 0)) := Lib.hid (by rw [HS.out]; unfold encL encB; rw [if_pos (by rw [← HE.out]; exact h0), HL.out]; rfl)
  have hn64 : n ≤ 64 := by have := HOK.out.2.1; rw [HL.out] at this; exact this
  have E0 := Lib.hid h0
  clear HE HS
  rw [h0]
  clear h0
  go_wp2_with fail
  refine (rbytes_any n w1 (by omega)).mono ?_
  rintro e w2 ⟨v2, rfl, own2, hb2⟩
  obtain ⟨b2, A2, c2, hq2, rfl, o2, r2⟩ := nxB (base' := w1.heap.size) (b := []) (ys := uv n) own2 (by simp) (Nat.le_refl _)
  have B2 : Hid (Below w1.heap.size w1 w2) := Lib.hid hb2
  have O2 := Lib.hid o2
  have L2 : b2.length ≤ 10 := by rw [hq2]; have := uv_len10 (x := n) (by omega); simpa using this
  have Q2 : Hid (S = b2 ++ encR 0 zB (l.drop 0)) := Lib.hid (by rw [SEQ.out, hq2]; rfl)
  clear own2 hb2 hq2 o2 r2 SEQ
  go_wp2_with fail
  go_loopw [5, 6] (fun s5 s6 wr => ∃ (A5 : Option Addr) (c5 : Nat) (acc : List UInt8) (i : Nat) (p : ByteArray), s5 = .slice A5 acc.length c5 ∧ s6 = .int .i64 (i : Int) ∧ i ≤ n ∧ Hid (acc.length ≤ 10 + i * 5000) ∧ Hid (∀ j y, i = j + 1 → l[j]? = some y → p = y.key) ∧ Hid (wr.ownsRow w1.heap.size 5 1 (.slice A5 acc.length c5) acc.length (bv acc)) ∧ Hid (S = acc ++ encR i p (l.drop i)) ∧ Hid (Below w1.heap.size w1 wr)) (fun _ s6 _ => n - (intOf s6).toNat)
  case atStart => exact ⟨A2, c2, b2, 0, zB, rfl, rfl, Nat.zero_le _, Lib.hid (by omega), Lib.hid (fun j y hj => by omega), O2, Q2, B2⟩
  case round =>
    clear O2 L2 Q2 B2
    obtain ⟨A5, c5, acc, i, p, rfl, rfl, hi, HAL, HPK, OA, HQ, BA⟩ := hrel
    obtain ⟨w3, rfl⟩ : ∃ x, x = wr := ⟨_, rfl⟩
    by_cases hlt : i < n
    · obtain ⟨x, hx⟩ : ∃ x, l[i]? = some x := ⟨_, List.getElem?_eq_getElem (by rw [HL.out]; exact hlt)⟩
      obtain ⟨b, off, rfl, hb, hce⟩ := en_at R1.out hx
      have XL3 : Hid (EnX w3 b (off + i * 4) x) := Lib.hid ⟨hce.below (Nat.lt_of_lt_of_le hb hB1) BA.out, by have := BA.out.size; omega⟩
      have HX := Lib.hid hx
      have i1 : (i : Int) < (n : Int) := by omega
      have i0 : (0 : Int) ≤ (i : Int) := by omega
      obtain ⟨y1, y2, y3, y4, y5, y6⟩ := okE_b (HOK.out.2.2.1 x (List.mem_of_getElem? hx))
      obtain ⟨q, hq⟩ : ∃ q : Nat, x.seq = (q : Int) := ⟨x.seq.toNat, by omega⟩
      have hq0 : q ≤ 1073741824 := by omega
      have HQS := Lib.hid hq
      clear hq
      obtain ⟨d, hd⟩ : ∃ d, x.key.size = kEnc i p x + d := ⟨x.key.size - kEnc i p x, by have := kEnc_le i p x; omega⟩
      have hal : acc.length ≤ 10 + i * 5000 := HAL.out
      clear hce hx y6
      by_cases h8 : i % 8 = 0
      · have hk0 : kEnc i p x = 0 := by unfold kEnc; rw [if_pos h8]
        have e8 : ((i : Int) % 8 != 0) = false := by rw [show (i : Int) % 8 = 0 by omega]; rfl
        have HK0 := Lib.hid hk0
        clear h8 hk0 hd
        have XL := XL3
        have B4 := BA
        have O4 := OA
        clear XL3 BA OA
        obtain ⟨w4, rfl⟩ : ∃ x, x = w3 := ⟨_, rfl⟩
        have hbx : b < w4.heap.size := XL.out.lt
        have D4 : Hid (Below w4.heap.size w4 w4) := Lib.hid (Below.refl _ _)
        go_wp2_with fail
        refine wp_heldall (S := fun X => Below w4.heap.size w4 X) 15 (by kernel_rfl) rfl (Below.drew D4.out) (fun hHeld => ?_)
        have wi0 : IntKind.i64.wrap (x.key.size : Int) = (x.key.size : Int) := IntWalk.i64_in _ (by omega)
        have wu0 : IntKind.u64.wrap (x.key.size : Int) = (x.key.size : Int) := IntWalk.u64_in _ (by omega)
        refine takeL (i := 0) (v := ?_) rfl (by kernel_rfl) (by kernel_rfl) (by kernel_rfl) (fun _ _ _ h => h) ⟨by rfl, ?_⟩ (by first | assumption | trivial) ?_
        rotate_left
        · intro W9 hSw
          (try dsimp only at hSw)
          go_simp
          try with_reducible rfl
        (try simp only [Act.put, List.setIfInBounds_toArray, List.set_cons_zero, List.set_cons_succ])
        refine takeL (i := 1) (v := ?_) rfl (by kernel_rfl) (by kernel_rfl) (by kernel_rfl) (fun _ _ _ h => h) ⟨by rfl, ?_⟩ (by first | assumption | trivial) ?_
        rotate_left
        · intro W9 hSw
          (try dsimp only at hSw)
          go_simp
          try with_reducible rfl
        (try simp only [Act.put, List.setIfInBounds_toArray, List.set_cons_zero, List.set_cons_succ])
        refine takeL (i := 2) (v := ?_) rfl (by kernel_rfl) (by kernel_rfl) (by kernel_rfl) (fun _ _ _ h => h) ⟨by rfl, ?_⟩ (by first | assumption | trivial) ?_
        rotate_left
        · intro W9 hSw
          (try dsimp only at hSw)
          go_simp
          try with_reducible rfl
        (try simp only [Act.put, List.setIfInBounds_toArray, List.set_cons_zero, List.set_cons_succ])
        refine takeL (i := 4) (v := ?_) rfl (by kernel_rfl) (by kernel_rfl) (by kernel_rfl) (fun _ _ _ h => h) ⟨by rfl, ?_⟩ (by first | assumption | trivial) ?_
        rotate_left
        · intro W9 hSw
          (try dsimp only at hSw)
          go_simp
          try with_reducible rfl
        (try simp only [Act.put, List.setIfInBounds_toArray, List.set_cons_zero, List.set_cons_succ])
        refine takeL (i := 5) (v := ?_) rfl (by kernel_rfl) (by kernel_rfl) (by kernel_rfl) (fun _ _ _ h => h) ⟨by rfl, ?_⟩ (by first | assumption | trivial) ?_
        rotate_left
        · intro W9 hSw
          (try dsimp only at hSw)
          go_simp
          try with_reducible rfl
        (try simp only [Act.put, List.setIfInBounds_toArray, List.set_cons_zero, List.set_cons_succ])
        refine takeL (i := 6) (v := ?_) rfl (by kernel_rfl) (by kernel_rfl) (by kernel_rfl) (fun _ _ _ h => h) ⟨by rfl, ?_⟩ (by first | assumption | trivial) ?_
        rotate_left
        · intro W9 hSw
          (try dsimp only at hSw)
          go_simp
          try with_reducible rfl
        (try simp only [Act.put, List.setIfInBounds_toArray, List.set_cons_zero, List.set_cons_succ])
        refine takeL (i := 7) (v := ?_) rfl (by kernel_rfl) (by kernel_rfl) (by kernel_rfl) (fun _ _ _ h => h) ⟨by rfl, ?_⟩ (by first | assumption | trivial) ?_
        rotate_left
        · intro W9 hSw
          (try dsimp only at hSw)
          go_simp
          try with_reducible rfl
        (try simp only [Act.put, List.setIfInBounds_toArray, List.set_cons_zero, List.set_cons_succ])
        refine takeL (i := 8) (v := ?_) rfl (by kernel_rfl) (by kernel_rfl) (by kernel_rfl) (fun _ _ _ h => h) ⟨by rfl, ?_⟩ (by first | assumption | trivial) ?_
        rotate_left
        · intro W9 hSw
          (try dsimp only at hSw)
          (have x0' := (hSw.cell (p := ⟨b, off + i * 4, none⟩) hbx).trans (XL.out.i.c0))
          go_simp
          try with_reducible rfl
        (try simp only [Act.put, List.setIfInBounds_toArray, List.set_cons_zero, List.set_cons_succ])
        refine takeL (i := 9) (v := ?_) rfl (by kernel_rfl) (by kernel_rfl) (by kernel_rfl) (fun _ _ _ h => h) ⟨by rfl, ?_⟩ (by first | assumption | trivial) ?_
        rotate_left
        · intro W9 hSw
          (try dsimp only at hSw)
          go_simp
          try with_reducible rfl
        (try simp only [Act.put, List.setIfInBounds_toArray, List.set_cons_zero, List.set_cons_succ])
        refine takeL (i := 10) (v := ?_) rfl (by kernel_rfl) (by kernel_rfl) (by kernel_rfl) (fun _ _ _ h => h) ⟨by rfl, ?_⟩ (by first | assumption | trivial) ?_
        rotate_left
        · intro W9 hSw
          (try dsimp only at hSw)
          go_simp
          try with_reducible rfl
        (try simp only [Act.put, List.setIfInBounds_toArray, List.set_cons_zero, List.set_cons_succ])
        refine takeL (i := 11) (v := ?_) rfl (by kernel_rfl) (by kernel_rfl) (by kernel_rfl) (fun _ _ _ h => h) ⟨by rfl, ?_⟩ (by first | assumption | trivial) ?_
        rotate_left
        · intro W9 hSw
          (try dsimp only at hSw)
          go_simp
          try with_reducible rfl
        (try simp only [Act.put, List.setIfInBounds_toArray, List.set_cons_zero, List.set_cons_succ])
        refine takeL (i := 12) (v := ?_) rfl (by kernel_rfl) (by kernel_rfl) (by kernel_rfl) (fun _ _ _ h => h) ⟨by rfl, ?_⟩ (by first | assumption | trivial) ?_
        rotate_left
        · intro W9 hSw
          (try dsimp only at hSw)
          go_simp
          try with_reducible rfl
        (try simp only [Act.put, List.setIfInBounds_toArray, List.set_cons_zero, List.set_cons_succ])
        clear wi0 wu0
        have kX := hHeld
        clear hHeld
        have OX := Lib.hid (own_keep O4.out (Below.drew (Below.refl w4.heap.size w4)) (Nat.le_refl _))
        clear O4 D4
        generalize w4.drew = X at *
        refine wpAnyH_ready (rs := [3]) (by kernel_rfl) (by simp) ?_
        refine consL rfl (by rfl) (fun K hK => ?_) ?_
        · go_simp
          go_at_call 44
          refine (rappU_any0 A5 acc.length c5 _ acc rfl (by omega)  _ (own_rdL OX.out) (Nat.le_refl _)).mono ?_
          rintro e X2 ⟨vX, rfl, ownX, hbX⟩
          have kX2 := kX.trans (hbX.mono kX.size)
          refine hK.out _ _ kX2 (fun _ => ?_)
          obtain ⟨b5x, A5x, c5x, hqX, rfl, oX, rX⟩ := nxB (base' := w4.heap.size) (b := acc) (ys := uv 0) ownX rfl kX.size
          have Lb5x : b5x.length ≤ acc.length + 10 := by rw [hqX, List.length_append]; have := uv_len10 (x := 0) (by omega); omega
          have Hb5x := Lib.hid hqX
          clear hK K kX OX
          have OX := Lib.hid oX
          clear ownX hbX hqX oX rX
          obtain ⟨X, rfl⟩ : ∃ x, x = X2 := ⟨_, rfl⟩
          have kX := kX2
          clear kX2
          (try simp only [Act.put, List.setIfInBounds_toArray, List.set_cons_zero, List.set_cons_succ])
          refine wpAnyH_ready (rs := [13]) (by kernel_rfl) (by simp) ?_
          refine consL rfl (by rfl) (fun K hK => ?_) ?_
          · go_simp
            go_at_call 44
            refine (rappU_any A5x b5x.length c5x _ b5x rfl (by omega) x.key.size (by omega) _ (own_rdL OX.out) (Nat.le_refl _)).mono ?_
            rintro e X2 ⟨vX, rfl, ownX, hbX⟩
            have kX2 := kX.trans (hbX.mono kX.size)
            refine hK.out _ _ kX2 (fun _ => ?_)
            obtain ⟨b5y, A5y, c5y, hqX, rfl, oX, rX⟩ := nxB (base' := w4.heap.size) (b := b5x) (ys := uv x.key.size) ownX rfl kX.size
            have Lb5y : b5y.length ≤ b5x.length + 10 := by rw [hqX, List.length_append]; have := uv_len10 (x := x.key.size) (by omega); omega
            have Hb5y := Lib.hid hqX
            clear hK K kX OX
            have OX := Lib.hid oX
            clear ownX hbX hqX oX rX
            obtain ⟨X, rfl⟩ : ∃ x, x = X2 := ⟨_, rfl⟩
            have kX := kX2
            clear kX2
            (try simp only [Act.put, List.setIfInBounds_toArray, List.set_cons_zero, List.set_cons_succ])
            refine takeL (i := 14) (v := ?_) rfl (by kernel_rfl) (by kernel_rfl) (by kernel_rfl) (fun _ _ _ h => h) ⟨by rfl, ?_⟩ (by first | assumption | trivial) ?_
            rotate_left
            · intro W9 hSw
              (try dsimp only at hSw)
              go_simp
              try with_reducible rfl
            (try simp only [Act.put, List.setIfInBounds_toArray, List.set_cons_zero, List.set_cons_succ])
            refine wpAnyH_done (by kernel_rfl) ?_ _
            obtain ⟨w5, rfl⟩ : ∃ x, x = X := ⟨_, rfl⟩
            have D5 := Lib.hid kX
            have O5 := OX
            clear kX OX
            go_wp2_with fail
            refine wp_heldall (S := fun X => Below w4.heap.size w4 X) 17 (by kernel_rfl) rfl (Below.drew D5.out) (fun hHeld => ?_)
            have wi0 : IntKind.i64.wrap (q : Int) = (q : Int) := IntWalk.i64_in _ (by omega)
            have wu0 : IntKind.u64.wrap (q : Int) = (q : Int) := IntWalk.u64_in _ (by omega)
            refine takeL (i := 0) (v := ?_) rfl (by kernel_rfl) (by kernel_rfl) (by kernel_rfl) (fun _ _ _ h => h) ⟨by rfl, ?_⟩ (by first | assumption | trivial) ?_
            rotate_left
            · intro W9 hSw
              (try dsimp only at hSw)
              go_simp
              try with_reducible rfl
            (try simp only [Act.put, List.setIfInBounds_toArray, List.set_cons_zero, List.set_cons_succ])
            refine takeL (i := 1) (v := ?_) rfl (by kernel_rfl) (by kernel_rfl) (by kernel_rfl) (fun _ _ _ h => h) ⟨by rfl, ?_⟩ (by first | assumption | trivial) ?_
            rotate_left
            · intro W9 hSw
              (try dsimp only at hSw)
              go_simp
              try with_reducible rfl
            (try simp only [Act.put, List.setIfInBounds_toArray, List.set_cons_zero, List.set_cons_succ])
            refine takeL (i := 2) (v := ?_) rfl (by kernel_rfl) (by kernel_rfl) (by kernel_rfl) (fun _ _ _ h => h) ⟨by rfl, ?_⟩ (by first | assumption | trivial) ?_
            rotate_left
            · intro W9 hSw
              (try dsimp only at hSw)
              go_simp
              try with_reducible rfl
            (try simp only [Act.put, List.setIfInBounds_toArray, List.set_cons_zero, List.set_cons_succ])
            refine takeL (i := 3) (v := ?_) rfl (by kernel_rfl) (by kernel_rfl) (by kernel_rfl) (fun _ _ _ h => h) ⟨by rfl, ?_⟩ (by first | assumption | trivial) ?_
            rotate_left
            · intro W9 hSw
              (try dsimp only at hSw)
              go_simp
              try with_reducible rfl
            (try simp only [Act.put, List.setIfInBounds_toArray, List.set_cons_zero, List.set_cons_succ])
            refine takeL (i := 4) (v := ?_) rfl (by kernel_rfl) (by kernel_rfl) (by kernel_rfl) (fun _ _ _ h => h) ⟨by rfl, ?_⟩ (by first | assumption | trivial) ?_
            rotate_left
            · intro W9 hSw
              (try dsimp only at hSw)
              go_simp
              try with_reducible rfl
            (try simp only [Act.put, List.setIfInBounds_toArray, List.set_cons_zero, List.set_cons_succ])
            refine takeL (i := 5) (v := ?_) rfl (by kernel_rfl) (by kernel_rfl) (by kernel_rfl) (fun _ _ _ h => h) ⟨by rfl, ?_⟩ (by first | assumption | trivial) ?_
            rotate_left
            · intro W9 hSw
              (try dsimp only at hSw)
              (have x0' := (hSw.cell (p := ⟨b, off + i * 4, none⟩) hbx).trans (XL.out.i.c0); have x2' := (hSw.cell (p := ⟨b, off + i * 4 + 2, none⟩) hbx).trans (XL.out.i.c2); rw [HQS.out] at x2')
              go_simp
              try with_reducible rfl
            (try simp only [Act.put, List.setIfInBounds_toArray, List.set_cons_zero, List.set_cons_succ])
            refine takeL (i := 6) (v := ?_) rfl (by kernel_rfl) (by kernel_rfl) (by kernel_rfl) (fun _ _ _ h => h) ⟨by rfl, ?_⟩ (by first | assumption | trivial) ?_
            rotate_left
            · intro W9 hSw
              (try dsimp only at hSw)
              go_simp
              try with_reducible rfl
            (try simp only [Act.put, List.setIfInBounds_toArray, List.set_cons_zero, List.set_cons_succ])
            refine takeL (i := 7) (v := ?_) rfl (by kernel_rfl) (by kernel_rfl) (by kernel_rfl) (fun _ _ _ h => h) ⟨by rfl, ?_⟩ (by first | assumption | trivial) ?_
            rotate_left
            · intro W9 hSw
              (try dsimp only at hSw)
              go_simp
              try with_reducible rfl
            (try simp only [Act.put, List.setIfInBounds_toArray, List.set_cons_zero, List.set_cons_succ])
            refine takeL (i := 9) (v := ?_) rfl (by kernel_rfl) (by kernel_rfl) (by kernel_rfl) (fun _ _ _ h => h) ⟨by rfl, ?_⟩ (by first | assumption | trivial) ?_
            rotate_left
            · intro W9 hSw
              (try dsimp only at hSw)
              go_simp
              try with_reducible rfl
            (try simp only [Act.put, List.setIfInBounds_toArray, List.set_cons_zero, List.set_cons_succ])
            refine takeL (i := 10) (v := ?_) rfl (by kernel_rfl) (by kernel_rfl) (by kernel_rfl) (fun _ _ _ h => h) ⟨by rfl, ?_⟩ (by first | assumption | trivial) ?_
            rotate_left
            · intro W9 hSw
              (try dsimp only at hSw)
              go_simp
              try with_reducible rfl
            (try simp only [Act.put, List.setIfInBounds_toArray, List.set_cons_zero, List.set_cons_succ])
            refine takeL (i := 11) (v := ?_) rfl (by kernel_rfl) (by kernel_rfl) (by kernel_rfl) (fun _ _ _ h => h) ⟨by rfl, ?_⟩ (by first | assumption | trivial) ?_
            rotate_left
            · intro W9 hSw
              (try dsimp only at hSw)
              go_simp
              try with_reducible rfl
            (try simp only [Act.put, List.setIfInBounds_toArray, List.set_cons_zero, List.set_cons_succ])
            refine takeL (i := 12) (v := ?_) rfl (by kernel_rfl) (by kernel_rfl) (by kernel_rfl) (fun _ _ _ h => h) ⟨by rfl, ?_⟩ (by first | assumption | trivial) ?_
            rotate_left
            · intro W9 hSw
              (try dsimp only at hSw)
              go_simp
              try with_reducible rfl
            (try simp only [Act.put, List.setIfInBounds_toArray, List.set_cons_zero, List.set_cons_succ])
            refine takeL (i := 13) (v := ?_) rfl (by kernel_rfl) (by kernel_rfl) (by kernel_rfl) (fun _ _ _ h => h) ⟨by rfl, ?_⟩ (by first | assumption | trivial) ?_
            rotate_left
            · intro W9 hSw
              (try dsimp only at hSw)
              (have x0' := (hSw.cell (p := ⟨b, off + i * 4, none⟩) hbx).trans (XL.out.i.c0); have x2' := (hSw.cell (p := ⟨b, off + i * 4 + 2, none⟩) hbx).trans (XL.out.i.c2); rw [HQS.out] at x2')
              go_simp
              try with_reducible rfl
            (try simp only [Act.put, List.setIfInBounds_toArray, List.set_cons_zero, List.set_cons_succ])
            refine takeL (i := 14) (v := ?_) rfl (by kernel_rfl) (by kernel_rfl) (by kernel_rfl) (fun _ _ _ h => h) ⟨by rfl, ?_⟩ (by first | assumption | trivial) ?_
            rotate_left
            · intro W9 hSw
              (try dsimp only at hSw)
              go_simp
              try with_reducible rfl
            (try simp only [Act.put, List.setIfInBounds_toArray, List.set_cons_zero, List.set_cons_succ])
            clear wi0 wu0
            have kX := hHeld
            clear hHeld
            have OX := Lib.hid (own_keep O5.out (Below.drew (Below.refl w5.heap.size w5)) (Nat.le_refl _))
            clear O5 D5
            generalize w5.drew = X at *
            refine wpAnyH_ready (rs := [8]) (by kernel_rfl) (by simp) ?_
            refine consL rfl (by rfl) (fun K hK => ?_) ?_
            · refine wp_appS styB Try.underlying9 (.tmp 52) (.tmp 59) rfl w4.heap.size OX.out rfl (x.key) rfl (by unfold maxLen; omega) (by omega) kX.size ?_
              intro vX X2 ownX grX
              have kX2 : Below w4.heap.size w4 X2 := kX.grown grX kX.size (fun g e => (OX.out.lt g e).1)
              refine hK.out _ _ kX2 (fun _ => ?_)
              obtain ⟨b6x, A6x, c6x, hqX, rfl, oX, rX⟩ := nxB (base' := w4.heap.size) (b := b5y) (ys := (x.key).data.toList) ownX (by rw [bv_append]) (Nat.le_refl _)
              have Lb6x : b6x.length ≤ b5y.length + 512 := by have h3 : (x.key).data.toList.length = (x.key).size := Array.length_toList; rw [hqX, List.length_append]; omega
              have Hb6x := Lib.hid hqX
              clear hK K kX OX
              have OX := Lib.hid oX
              clear ownX grX hqX oX rX
              obtain ⟨X, rfl⟩ : ∃ x, x = X2 := ⟨_, rfl⟩
              have kX := kX2
              clear kX2
              (try simp only [Act.put, List.setIfInBounds_toArray, List.set_cons_zero, List.set_cons_succ])
              refine wpAnyH_ready (rs := [15]) (by kernel_rfl) (by simp) ?_
              refine consL rfl (by rfl) (fun K hK => ?_) ?_
              · go_simp
                go_at_call 44
                refine (rappU_any A6x b6x.length c6x _ b6x rfl (by omega) q (by omega) _ (own_rdL OX.out) (Nat.le_refl _)).mono ?_
                rintro e X2 ⟨vX, rfl, ownX, hbX⟩
                have kX2 := kX.trans (hbX.mono kX.size)
                refine hK.out _ _ kX2 (fun _ => ?_)
                obtain ⟨b6y, A6y, c6y, hqX, rfl, oX, rX⟩ := nxB (base' := w4.heap.size) (b := b6x) (ys := uv q) ownX rfl kX.size
                have Lb6y : b6y.length ≤ b6x.length + 10 := by rw [hqX, List.length_append]; have := uv_len10 (x := q) (by omega); omega
                have Hb6y := Lib.hid hqX
                clear hK K kX OX
                have OX := Lib.hid oX
                clear ownX hbX hqX oX rX
                obtain ⟨X, rfl⟩ : ∃ x, x = X2 := ⟨_, rfl⟩
                have kX := kX2
                clear kX2
                (try simp only [Act.put, List.setIfInBounds_toArray, List.set_cons_zero, List.set_cons_succ])
                refine takeL (i := 16) (v := ?_) rfl (by kernel_rfl) (by kernel_rfl) (by kernel_rfl) (fun _ _ _ h => h) ⟨by rfl, ?_⟩ (by first | assumption | trivial) ?_
                rotate_left
                · intro W9 hSw
                  (try dsimp only at hSw)
                  go_simp
                  try with_reducible rfl
                (try simp only [Act.put, List.setIfInBounds_toArray, List.set_cons_zero, List.set_cons_succ])
                refine wpAnyH_done (by kernel_rfl) ?_ _
                obtain ⟨w6, rfl⟩ : ∃ x, x = X := ⟨_, rfl⟩
                have D6 := Lib.hid kX
                have O6 := OX
                clear kX OX
                have hqq : Hid (x.seq.toNat = q) := Lib.hid (by have := HQS.out; omega)
                cases hdl : x.del
                · have HDL := Lib.hid hdl
                  clear hdl
                  have x3 := (D6.out.cell (p := ⟨b, off + i * 4 + 3, none⟩) hbx).trans (XL.out.i.c3)
                  have xl := Nat.lt_of_lt_of_le hbx D6.out.size
                  rw [HDL.out] at x3
                  go_wp2_with fail
                  clear x3 xl
                  go_wp2_with fail
                  refine wp_heldall (S := fun X => Below w4.heap.size w4 X) 18 (by kernel_rfl) rfl (Below.drew D6.out) (fun hHeld => ?_)
                  have wi0 : IntKind.i64.wrap (x.val.size : Int) = (x.val.size : Int) := IntWalk.i64_in _ (by omega)
                  have wu0 : IntKind.u64.wrap (x.val.size : Int) = (x.val.size : Int) := IntWalk.u64_in _ (by omega)
                  refine takeL (i := 0) (v := ?_) rfl (by kernel_rfl) (by kernel_rfl) (by kernel_rfl) (fun _ _ _ h => h) ⟨by rfl, ?_⟩ (by first | assumption | trivial) ?_
                  rotate_left
                  · intro W9 hSw
                    (try dsimp only at hSw)
                    go_simp
                    try with_reducible rfl
                  (try simp only [Act.put, List.setIfInBounds_toArray, List.set_cons_zero, List.set_cons_succ])
                  refine takeL (i := 3) (v := ?_) rfl (by kernel_rfl) (by kernel_rfl) (by kernel_rfl) (fun _ _ _ h => h) ⟨by rfl, ?_⟩ (by first | assumption | trivial) ?_
                  rotate_left
                  · intro W9 hSw
                    (try dsimp only at hSw)
                    go_simp
                    try with_reducible rfl
                  (try simp only [Act.put, List.setIfInBounds_toArray, List.set_cons_zero, List.set_cons_succ])
                  refine takeL (i := 4) (v := ?_) rfl (by kernel_rfl) (by kernel_rfl) (by kernel_rfl) (fun _ _ _ h => h) ⟨by rfl, ?_⟩ (by first | assumption | trivial) ?_
                  rotate_left
                  · intro W9 hSw
                    (try dsimp only at hSw)
                    go_simp
                    try with_reducible rfl
                  (try simp only [Act.put, List.setIfInBounds_toArray, List.set_cons_zero, List.set_cons_succ])
                  refine takeL (i := 5) (v := ?_) rfl (by kernel_rfl) (by kernel_rfl) (by kernel_rfl) (fun _ _ _ h => h) ⟨by rfl, ?_⟩ (by first | assumption | trivial) ?_
                  rotate_left
                  · intro W9 hSw
                    (try dsimp only at hSw)
                    go_simp
                    try with_reducible rfl
                  (try simp only [Act.put, List.setIfInBounds_toArray, List.set_cons_zero, List.set_cons_succ])
                  refine takeL (i := 6) (v := ?_) rfl (by kernel_rfl) (by kernel_rfl) (by kernel_rfl) (fun _ _ _ h => h) ⟨by rfl, ?_⟩ (by first | assumption | trivial) ?_
                  rotate_left
                  · intro W9 hSw
                    (try dsimp only at hSw)
                    go_simp
                    try with_reducible rfl
                  (try simp only [Act.put, List.setIfInBounds_toArray, List.set_cons_zero, List.set_cons_succ])
                  refine takeL (i := 7) (v := ?_) rfl (by kernel_rfl) (by kernel_rfl) (by kernel_rfl) (fun _ _ _ h => h) ⟨by rfl, ?_⟩ (by first | assumption | trivial) ?_
                  rotate_left
                  · intro W9 hSw
                    (try dsimp only at hSw)
                    (have x1' := (hSw.cell (p := ⟨b, off + i * 4 + 1, none⟩) hbx).trans (XL.out.i.c1))
                    go_simp
                    try with_reducible rfl
                  (try simp only [Act.put, List.setIfInBounds_toArray, List.set_cons_zero, List.set_cons_succ])
                  refine takeL (i := 8) (v := ?_) rfl (by kernel_rfl) (by kernel_rfl) (by kernel_rfl) (fun _ _ _ h => h) ⟨by rfl, ?_⟩ (by first | assumption | trivial) ?_
                  rotate_left
                  · intro W9 hSw
                    (try dsimp only at hSw)
                    go_simp
                    try with_reducible rfl
                  (try simp only [Act.put, List.setIfInBounds_toArray, List.set_cons_zero, List.set_cons_succ])
                  refine takeL (i := 9) (v := ?_) rfl (by kernel_rfl) (by kernel_rfl) (by kernel_rfl) (fun _ _ _ h => h) ⟨by rfl, ?_⟩ (by first | assumption | trivial) ?_
                  rotate_left
                  · intro W9 hSw
                    (try dsimp only at hSw)
                    go_simp
                    try with_reducible rfl
                  (try simp only [Act.put, List.setIfInBounds_toArray, List.set_cons_zero, List.set_cons_succ])
                  refine takeL (i := 11) (v := ?_) rfl (by kernel_rfl) (by kernel_rfl) (by kernel_rfl) (fun _ _ _ h => h) ⟨by rfl, ?_⟩ (by first | assumption | trivial) ?_
                  rotate_left
                  · intro W9 hSw
                    (try dsimp only at hSw)
                    go_simp
                    try with_reducible rfl
                  (try simp only [Act.put, List.setIfInBounds_toArray, List.set_cons_zero, List.set_cons_succ])
                  refine takeL (i := 12) (v := ?_) rfl (by kernel_rfl) (by kernel_rfl) (by kernel_rfl) (fun _ _ _ h => h) ⟨by rfl, ?_⟩ (by first | assumption | trivial) ?_
                  rotate_left
                  · intro W9 hSw
                    (try dsimp only at hSw)
                    go_simp
                    try with_reducible rfl
                  (try simp only [Act.put, List.setIfInBounds_toArray, List.set_cons_zero, List.set_cons_succ])
                  refine takeL (i := 13) (v := ?_) rfl (by kernel_rfl) (by kernel_rfl) (by kernel_rfl) (fun _ _ _ h => h) ⟨by rfl, ?_⟩ (by first | assumption | trivial) ?_
                  rotate_left
                  · intro W9 hSw
                    (try dsimp only at hSw)
                    go_simp
                    try with_reducible rfl
                  (try simp only [Act.put, List.setIfInBounds_toArray, List.set_cons_zero, List.set_cons_succ])
                  refine takeL (i := 14) (v := ?_) rfl (by kernel_rfl) (by kernel_rfl) (by kernel_rfl) (fun _ _ _ h => h) ⟨by rfl, ?_⟩ (by first | assumption | trivial) ?_
                  rotate_left
                  · intro W9 hSw
                    (try dsimp only at hSw)
                    go_simp
                    try with_reducible rfl
                  (try simp only [Act.put, List.setIfInBounds_toArray, List.set_cons_zero, List.set_cons_succ])
                  refine takeL (i := 15) (v := ?_) rfl (by kernel_rfl) (by kernel_rfl) (by kernel_rfl) (fun _ _ _ h => h) ⟨by rfl, ?_⟩ (by first | assumption | trivial) ?_
                  rotate_left
                  · intro W9 hSw
                    (try dsimp only at hSw)
                    (have x1' := (hSw.cell (p := ⟨b, off + i * 4 + 1, none⟩) hbx).trans (XL.out.i.c1))
                    go_simp
                    try with_reducible rfl
                  (try simp only [Act.put, List.setIfInBounds_toArray, List.set_cons_zero, List.set_cons_succ])
                  clear wi0 wu0
                  have kX := hHeld
                  clear hHeld
                  have OX := Lib.hid (own_keep O6.out (Below.drew (Below.refl w6.heap.size w6)) (Nat.le_refl _))
                  clear O6 D6
                  generalize w6.drew = X at *
                  refine wpAnyH_ready (rs := [1]) (by kernel_rfl) (by simp) ?_
                  refine consL rfl (by rfl) (fun K hK => ?_) ?_
                  · go_simp
                    have kX2 : Below w4.heap.size w4 (X.alloc (.cells #[.int .u8 0] 5)) := kX.alloc kX.size _
                    refine hK.out _ _ kX2 (fun _ => ?_)
                    have RN : Hid (Rd (X.alloc (.cells #[.int .u8 0] 5)) (X.alloc (.cells #[.int .u8 0] 5)).heap.size (some ⟨X.heap.size, 0, none⟩) [.int .u8 0]) := Lib.hid (rd_frC _ _ _ _)
                    have OX2 := Lib.hid (OX.out.alloc (.cells #[.int .u8 0] 5))
                    clear hK K kX OX
                    have OX := OX2
                    clear OX2
                    generalize X.alloc (.cells #[.int .u8 0] 5) = X2 at *
                    generalize X.heap.size = hN at *
                    obtain ⟨X, rfl⟩ : ∃ x, x = X2 := ⟨_, rfl⟩
                    have kX := kX2
                    clear kX2
                    (try simp only [Act.put, List.setIfInBounds_toArray, List.set_cons_zero, List.set_cons_succ])
                    refine wpAnyH_ready (rs := [2]) (by kernel_rfl) (by simp) ?_
                    refine consL rfl (by rfl) (fun K hK => ?_) ?_
                    · refine wp_app styB (.tmp 76) (.tmp 77) rfl w4.heap.size OX.out rfl 1 1 RN.out rfl rfl (by simp [Value.oneCell']) (by unfold maxLen; omega) (by omega) kX.size ?_
                      intro vX X2 ownX grX nilX atX
                      have kX2 : Below w4.heap.size w4 X2 := kX.grown grX kX.size (fun g e => (OX.out.lt g e).1)
                      refine hK.out _ _ kX2 (fun _ => ?_)
                      obtain ⟨b7y, A7y, c7y, hqX, rfl, oX, rX⟩ := nxB (base' := w4.heap.size) (b := b6y) (ys := [0]) ownX (by rw [bv_append]; rfl) (Nat.le_refl _)
                      have Lb7y : b7y.length ≤ b6y.length + 1 := by rw [hqX, List.length_append]; simp
                      have Hb7y := Lib.hid hqX
                      clear hK K kX OX RN
                      have OX := Lib.hid oX
                      clear ownX grX nilX atX hqX oX rX
                      obtain ⟨X, rfl⟩ : ∃ x, x = X2 := ⟨_, rfl⟩
                      have kX := kX2
                      clear kX2
                      (try simp only [Act.put, List.setIfInBounds_toArray, List.set_cons_zero, List.set_cons_succ])
                      refine wpAnyH_ready (rs := [10]) (by kernel_rfl) (by simp) ?_
                      refine consL rfl (by rfl) (fun K hK => ?_) ?_
                      · go_simp
                        go_at_call 44
                        refine (rappU_any A7y b7y.length c7y _ b7y rfl (by omega) x.val.size (by omega) _ (own_rdL OX.out) (Nat.le_refl _)).mono ?_
                        rintro e X2 ⟨vX, rfl, ownX, hbX⟩
                        have kX2 := kX.trans (hbX.mono kX.size)
                        refine hK.out _ _ kX2 (fun _ => ?_)
                        obtain ⟨b7z, A7z, c7z, hqX, rfl, oX, rX⟩ := nxB (base' := w4.heap.size) (b := b7y) (ys := uv x.val.size) ownX rfl kX.size
                        have Lb7z : b7z.length ≤ b7y.length + 10 := by rw [hqX, List.length_append]; have := uv_len10 (x := x.val.size) (by omega); omega
                        have Hb7z := Lib.hid hqX
                        clear hK K kX OX
                        have OX := Lib.hid oX
                        clear ownX hbX hqX oX rX
                        obtain ⟨X, rfl⟩ : ∃ x, x = X2 := ⟨_, rfl⟩
                        have kX := kX2
                        clear kX2
                        (try simp only [Act.put, List.setIfInBounds_toArray, List.set_cons_zero, List.set_cons_succ])
                        refine wpAnyH_ready (rs := [16]) (by kernel_rfl) (by simp) ?_
                        refine consL rfl (by rfl) (fun K hK => ?_) ?_
                        · refine wp_appS styB Try.underlying9 (.tmp 86) (.tmp 91) rfl w4.heap.size OX.out rfl (x.val) rfl (by unfold maxLen; omega) (by omega) kX.size ?_
                          intro vX X2 ownX grX
                          have kX2 : Below w4.heap.size w4 X2 := kX.grown grX kX.size (fun g e => (OX.out.lt g e).1)
                          refine hK.out _ _ kX2 (fun _ => ?_)
                          obtain ⟨b7u, A7u, c7u, hqX, rfl, oX, rX⟩ := nxB (base' := w4.heap.size) (b := b7z) (ys := (x.val).data.toList) ownX (by rw [bv_append]) (Nat.le_refl _)
                          have Lb7u : b7u.length ≤ b7z.length + 4096 := by have h3 : (x.val).data.toList.length = (x.val).size := Array.length_toList; rw [hqX, List.length_append]; omega
                          have Hb7u := Lib.hid hqX
                          clear hK K kX OX
                          have OX := Lib.hid oX
                          clear ownX grX hqX oX rX
                          obtain ⟨X, rfl⟩ : ∃ x, x = X2 := ⟨_, rfl⟩
                          have kX := kX2
                          clear kX2
                          (try simp only [Act.put, List.setIfInBounds_toArray, List.set_cons_zero, List.set_cons_succ])
                          refine takeL (i := 17) (v := ?_) rfl (by kernel_rfl) (by kernel_rfl) (by kernel_rfl) (fun _ _ _ h => h) ⟨by rfl, ?_⟩ (by first | assumption | trivial) ?_
                          rotate_left
                          · intro W9 hSw
                            (try dsimp only at hSw)
                            go_simp
                            try with_reducible rfl
                          (try simp only [Act.put, List.setIfInBounds_toArray, List.set_cons_zero, List.set_cons_succ])
                          refine wpAnyH_done (by kernel_rfl) ?_ _
                          obtain ⟨w7, rfl⟩ : ∃ x, x = X := ⟨_, rfl⟩
                          have D7 := Lib.hid kX
                          have O7 := OX
                          clear kX OX
                          have HQ9 : Hid (S = b7u ++ encR (i + 1) x.key (l.drop (i + 1))) := Lib.hid (enc_round HX.out HQ.out b7u (by rw [Hb7u.out, Hb7z.out, Hb7y.out, Hb6y.out, Hb6x.out, Hb5y.out, Hb5x.out, encE, tEnc, HDL.out, HK0.out, show x.key.size - 0 = x.key.size by omega, hqq.out]; simp))
                          have L9 : Hid (b7u.length ≤ 10 + (i + 1) * 5000) := Lib.hid (by omega)
                          have HP9 : Hid (∀ j y, i + 1 = j + 1 → l[j]? = some y → x.key = y.key) := Lib.hid (fun j y hj hy => key_same HX.out (by omega) hy)
                          have O91 := Lib.hid (own_base O7.out B4.out.size)
                          have B91 := Lib.hid (B4.out.trans (D7.out.mono B4.out.size))
                          clear HQ
                          go_wp2_with fail
                          go_roundw
                          case rel => exact ⟨_, _, b7u, i + 1, x.key, rfl, by go_num, by omega, L9, HP9, O91, HQ9, B91⟩
                          case measure => simp [intOf]; omega
                        · exact AllReadyH.nil
                      · exact AllReadyH.nil
                    · exact AllReadyH.nil
                  · exact AllReadyH.nil
                · have HDL := Lib.hid hdl
                  clear hdl
                  have x3 := (D6.out.cell (p := ⟨b, off + i * 4 + 3, none⟩) hbx).trans (XL.out.i.c3)
                  have xl := Nat.lt_of_lt_of_le hbx D6.out.size
                  rw [HDL.out] at x3
                  go_wp2_with (at_builtin; refine wpList_app styB (.tmp 73) (.tmp 74) rfl rfl w4.heap.size (O6.out.alloc _) rfl 1 1 (rd_frC _ _ _ _) rfl rfl (by simp [Value.oneCell']) (by unfold maxLen; omega) (by omega) (by have h1 := D6.out.size; rw [World.size_alloc]; omega) ?_; intro v9 w99 own9 gr9 nil9 at9; obtain ⟨b9, A9, c9, hq9, rfl, o9, r9⟩ := nxB (base' := w4.heap.size) (b := b6y) (ys := [1]) own9 (by rw [bv_append]; rfl) (Nat.le_refl _); have HQ99 := Lib.hid hq9; have L99 : b9.length ≤ b6y.length + 1 := (by rw [hq9, List.length_append]; simp); clear hq9)
                  have D99 := Lib.hid ((D6.out.alloc D6.out.size _).grown gr9 (by have h1 := D6.out.size; rw [World.size_alloc]; omega) (fun g e => (O6.out.lt g e).1))
                  have O99 := Lib.hid o9
                  clear own9 gr9 nil9 at9 o9 r9
                  have HQ9 : Hid (S = b9 ++ encR (i + 1) x.key (l.drop (i + 1))) := Lib.hid (enc_round HX.out HQ.out b9 (by rw [HQ99.out, Hb6y.out, Hb6x.out, Hb5y.out, Hb5x.out, encE, tEnc, HDL.out, HK0.out, show x.key.size - 0 = x.key.size by omega, hqq.out]; simp))
                  have L9 : Hid (b9.length ≤ 10 + (i + 1) * 5000) := Lib.hid (by omega)
                  have HP9 : Hid (∀ j y, i + 1 = j + 1 → l[j]? = some y → x.key = y.key) := Lib.hid (fun j y hj hy => key_same HX.out (by omega) hy)
                  have O91 := Lib.hid (own_base O99.out B4.out.size)
                  have B91 := Lib.hid (B4.out.trans (D99.out.mono B4.out.size))
                  clear HQ
                  go_wp2_with fail
                  go_roundw
                  case rel => exact ⟨_, _, b9, i + 1, x.key, rfl, by go_num, by omega, L9, HP9, O91, HQ9, B91⟩
                  case measure => simp [intOf]; omega
              · exact AllReadyH.nil
            · exact AllReadyH.nil
          · exact AllReadyH.nil
        · exact AllReadyH.nil
      · obtain ⟨j, hj⟩ : ∃ j, i = j + 1 := ⟨i - 1, by omega⟩
        obtain ⟨y, hy⟩ : ∃ y, l[j]? = some y := ⟨_, List.getElem?_eq_getElem (by rw [HL.out]; omega)⟩
        have hpy := HPK.out j y hj hy
        have hk0 : kEnc i p x = shrL y.key.data.toList x.key.data.toList := by unfold kEnc; rw [if_neg h8, hpy]
        obtain ⟨k, hkk⟩ : ∃ k, k = shrL y.key.data.toList x.key.data.toList := ⟨_, rfl⟩
        rw [← hkk] at hk0
        have hdk : x.key.size = k + d := by rw [← hk0]; exact hd
        have HK0 := Lib.hid hk0
        have HSH := Lib.hid (fun W => rshared_any y.key x.key (by have := okE_b (HOK.out.2.2.1 y (List.mem_of_getElem? hy)); omega) (by omega) W)
        rw [← hkk] at HSH
        obtain ⟨b', off', eA, hb', hce'⟩ := en_at R1.out hy
        injection eA with eA
        injection eA with eb eo
        subst eb eo
        have HCE := Lib.hid hce'
        have e8 : ((i : Int) % 8 != 0) = true := by rw [bne_iff_ne]; omega
        have j2 : (i : Int) - 1 = (j : Int) := by omega
        have j3 : (j : Int) < (n : Int) := by omega
        have j4 : IntKind.i64.wrap (j : Int) = (j : Int) := IntWalk.i64_in _ (by omega)
        have j5 : (0 : Int) ≤ (j : Int) := by omega
        clear h8 hk0 hd hpy hy hce' hb' hkk hj
        have XL := XL3
        have B4 := BA
        have O4 := OA
        clear XL3 BA OA
        obtain ⟨w4, rfl⟩ : ∃ x, x = w3 := ⟨_, rfl⟩
        have f0 := (HCE.out.below (Nat.lt_of_lt_of_le hb hB1) B4.out).c0
        have fl : b < w4.heap.size := XL.out.lt
        have x0 := XL.out.i.c0
        have xl := XL.out.lt
        go_wp2_with fail
        refine wp_qall (by kernel_rfl) (by kernel_rfl) ?_
        intro hcg
        repeat (first | go_big_quiet_step ((with_reducible (exact Calls.reg (HSH.out _)))) | quiet_step ((with_reducible (exact Calls.reg (HSH.out _)))))
        refine wpQuiet_nil ?_
        intro wq hbwq hcwq hfwq
        clear hcg
        obtain ⟨w5, rfl⟩ : ∃ x, x = wq := ⟨_, rfl⟩
        have O5 := Lib.hid (own_keep O4.out hbwq (Nat.le_refl _))
        have B5 := Lib.hid (B4.out.trans (hbwq.mono B4.out.size))
        have XL' := Lib.hid (XL.out.next hbwq)
        clear XL
        have XL := XL'
        clear XL'
        clear hbwq hcwq hfwq O4 B4 f0 fl j2 j3 j4 j5 x0 xl HSH
        have hsub : (x.key.size : Int) - (k : Int) = (d : Int) := by omega
        have hkn : (0 : Int) ≤ (k : Int) := by omega
        have hks : (k : Int) ≤ (x.key.size : Int) := by omega
        have hk5 : k ≤ 512 := by omega
        have hd5 : d ≤ 512 := by omega
        have HDK := Lib.hid hdk
        clear hdk
        have hbx : b < w5.heap.size := XL.out.lt
        have D5 : Hid (Below w5.heap.size w5 w5) := Lib.hid (Below.refl _ _)
        go_wp2_with fail
        refine wp_heldall (S := fun X => Below w5.heap.size w5 X) 15 (by kernel_rfl) rfl (Below.drew D5.out) (fun hHeld => ?_)
        have wi0 : IntKind.i64.wrap (d : Int) = (d : Int) := IntWalk.i64_in _ (by omega)
        have wu0 : IntKind.u64.wrap (d : Int) = (d : Int) := IntWalk.u64_in _ (by omega)
        have wi1 : IntKind.i64.wrap (k : Int) = (k : Int) := IntWalk.i64_in _ (by omega)
        have wu1 : IntKind.u64.wrap (k : Int) = (k : Int) := IntWalk.u64_in _ (by omega)
        refine takeL (i := 0) (v := ?_) rfl (by kernel_rfl) (by kernel_rfl) (by kernel_rfl) (fun _ _ _ h => h) ⟨by rfl, ?_⟩ (by first | assumption | trivial) ?_
        rotate_left
        · intro W9 hSw
          (try dsimp only at hSw)
          go_simp
          try with_reducible rfl
        (try simp only [Act.put, List.setIfInBounds_toArray, List.set_cons_zero, List.set_cons_succ])
        refine takeL (i := 1) (v := ?_) rfl (by kernel_rfl) (by kernel_rfl) (by kernel_rfl) (fun _ _ _ h => h) ⟨by rfl, ?_⟩ (by first | assumption | trivial) ?_
        rotate_left
        · intro W9 hSw
          (try dsimp only at hSw)
          go_simp
          try with_reducible rfl
        (try simp only [Act.put, List.setIfInBounds_toArray, List.set_cons_zero, List.set_cons_succ])
        refine takeL (i := 2) (v := ?_) rfl (by kernel_rfl) (by kernel_rfl) (by kernel_rfl) (fun _ _ _ h => h) ⟨by rfl, ?_⟩ (by first | assumption | trivial) ?_
        rotate_left
        · intro W9 hSw
          (try dsimp only at hSw)
          go_simp
          try with_reducible rfl
        (try simp only [Act.put, List.setIfInBounds_toArray, List.set_cons_zero, List.set_cons_succ])
        refine takeL (i := 4) (v := ?_) rfl (by kernel_rfl) (by kernel_rfl) (by kernel_rfl) (fun _ _ _ h => h) ⟨by rfl, ?_⟩ (by first | assumption | trivial) ?_
        rotate_left
        · intro W9 hSw
          (try dsimp only at hSw)
          go_simp
          try with_reducible rfl
        (try simp only [Act.put, List.setIfInBounds_toArray, List.set_cons_zero, List.set_cons_succ])
        refine takeL (i := 5) (v := ?_) rfl (by kernel_rfl) (by kernel_rfl) (by kernel_rfl) (fun _ _ _ h => h) ⟨by rfl, ?_⟩ (by first | assumption | trivial) ?_
        rotate_left
        · intro W9 hSw
          (try dsimp only at hSw)
          go_simp
          try with_reducible rfl
        (try simp only [Act.put, List.setIfInBounds_toArray, List.set_cons_zero, List.set_cons_succ])
        refine takeL (i := 6) (v := ?_) rfl (by kernel_rfl) (by kernel_rfl) (by kernel_rfl) (fun _ _ _ h => h) ⟨by rfl, ?_⟩ (by first | assumption | trivial) ?_
        rotate_left
        · intro W9 hSw
          (try dsimp only at hSw)
          go_simp
          try with_reducible rfl
        (try simp only [Act.put, List.setIfInBounds_toArray, List.set_cons_zero, List.set_cons_succ])
        refine takeL (i := 7) (v := ?_) rfl (by kernel_rfl) (by kernel_rfl) (by kernel_rfl) (fun _ _ _ h => h) ⟨by rfl, ?_⟩ (by first | assumption | trivial) ?_
        rotate_left
        · intro W9 hSw
          (try dsimp only at hSw)
          go_simp
          try with_reducible rfl
        (try simp only [Act.put, List.setIfInBounds_toArray, List.set_cons_zero, List.set_cons_succ])
        refine takeL (i := 8) (v := ?_) rfl (by kernel_rfl) (by kernel_rfl) (by kernel_rfl) (fun _ _ _ h => h) ⟨by rfl, ?_⟩ (by first | assumption | trivial) ?_
        rotate_left
        · intro W9 hSw
          (try dsimp only at hSw)
          (have x0' := (hSw.cell (p := ⟨b, off + i * 4, none⟩) hbx).trans (XL.out.i.c0))
          go_simp
          try with_reducible rfl
        (try simp only [Act.put, List.setIfInBounds_toArray, List.set_cons_zero, List.set_cons_succ])
        refine takeL (i := 9) (v := ?_) rfl (by kernel_rfl) (by kernel_rfl) (by kernel_rfl) (fun _ _ _ h => h) ⟨by rfl, ?_⟩ (by first | assumption | trivial) ?_
        rotate_left
        · intro W9 hSw
          (try dsimp only at hSw)
          go_simp
          try with_reducible rfl
        (try simp only [Act.put, List.setIfInBounds_toArray, List.set_cons_zero, List.set_cons_succ])
        refine takeL (i := 10) (v := ?_) rfl (by kernel_rfl) (by kernel_rfl) (by kernel_rfl) (fun _ _ _ h => h) ⟨by rfl, ?_⟩ (by first | assumption | trivial) ?_
        rotate_left
        · intro W9 hSw
          (try dsimp only at hSw)
          go_simp
          try with_reducible rfl
        (try simp only [Act.put, List.setIfInBounds_toArray, List.set_cons_zero, List.set_cons_succ])
        refine takeL (i := 11) (v := ?_) rfl (by kernel_rfl) (by kernel_rfl) (by kernel_rfl) (fun _ _ _ h => h) ⟨by rfl, ?_⟩ (by first | assumption | trivial) ?_
        rotate_left
        · intro W9 hSw
          (try dsimp only at hSw)
          go_simp
          try with_reducible rfl
        (try simp only [Act.put, List.setIfInBounds_toArray, List.set_cons_zero, List.set_cons_succ])
        refine takeL (i := 12) (v := ?_) rfl (by kernel_rfl) (by kernel_rfl) (by kernel_rfl) (fun _ _ _ h => h) ⟨by rfl, ?_⟩ (by first | assumption | trivial) ?_
        rotate_left
        · intro W9 hSw
          (try dsimp only at hSw)
          go_simp
          try with_reducible rfl
        (try simp only [Act.put, List.setIfInBounds_toArray, List.set_cons_zero, List.set_cons_succ])
        clear wi0 wu0 wi1 wu1
        have kX := hHeld
        clear hHeld
        have OX := Lib.hid (own_keep O5.out (Below.drew (Below.refl w5.heap.size w5)) (Nat.le_refl _))
        clear O5 D5
        generalize w5.drew = X at *
        refine wpAnyH_ready (rs := [3]) (by kernel_rfl) (by simp) ?_
        refine consL rfl (by rfl) (fun K hK => ?_) ?_
        · go_simp
          go_at_call 44
          refine (rappU_any A5 acc.length c5 _ acc rfl (by omega) k (by omega) _ (own_rdL OX.out) (Nat.le_refl _)).mono ?_
          rintro e X2 ⟨vX, rfl, ownX, hbX⟩
          have kX2 := kX.trans (hbX.mono kX.size)
          refine hK.out _ _ kX2 (fun _ => ?_)
          obtain ⟨b6x, A6x, c6x, hqX, rfl, oX, rX⟩ := nxB (base' := w5.heap.size) (b := acc) (ys := uv k) ownX rfl kX.size
          have Lb6x : b6x.length ≤ acc.length + 10 := by rw [hqX, List.length_append]; have := uv_len10 (x := k) (by omega); omega
          have Hb6x := Lib.hid hqX
          clear hK K kX OX
          have OX := Lib.hid oX
          clear ownX hbX hqX oX rX
          obtain ⟨X, rfl⟩ : ∃ x, x = X2 := ⟨_, rfl⟩
          have kX := kX2
          clear kX2
          (try simp only [Act.put, List.setIfInBounds_toArray, List.set_cons_zero, List.set_cons_succ])
          refine wpAnyH_ready (rs := [13]) (by kernel_rfl) (by simp) ?_
          refine consL rfl (by rfl) (fun K hK => ?_) ?_
          · go_simp
            go_at_call 44
            refine (rappU_any A6x b6x.length c6x _ b6x rfl (by omega) d (by omega) _ (own_rdL OX.out) (Nat.le_refl _)).mono ?_
            rintro e X2 ⟨vX, rfl, ownX, hbX⟩
            have kX2 := kX.trans (hbX.mono kX.size)
            refine hK.out _ _ kX2 (fun _ => ?_)
            obtain ⟨b6y, A6y, c6y, hqX, rfl, oX, rX⟩ := nxB (base' := w5.heap.size) (b := b6x) (ys := uv d) ownX rfl kX.size
            have Lb6y : b6y.length ≤ b6x.length + 10 := by rw [hqX, List.length_append]; have := uv_len10 (x := d) (by omega); omega
            have Hb6y := Lib.hid hqX
            clear hK K kX OX
            have OX := Lib.hid oX
            clear ownX hbX hqX oX rX
            obtain ⟨X, rfl⟩ : ∃ x, x = X2 := ⟨_, rfl⟩
            have kX := kX2
            clear kX2
            (try simp only [Act.put, List.setIfInBounds_toArray, List.set_cons_zero, List.set_cons_succ])
            refine takeL (i := 14) (v := ?_) rfl (by kernel_rfl) (by kernel_rfl) (by kernel_rfl) (fun _ _ _ h => h) ⟨by rfl, ?_⟩ (by first | assumption | trivial) ?_
            rotate_left
            · intro W9 hSw
              (try dsimp only at hSw)
              go_simp
              try with_reducible rfl
            (try simp only [Act.put, List.setIfInBounds_toArray, List.set_cons_zero, List.set_cons_succ])
            refine wpAnyH_done (by kernel_rfl) ?_ _
            obtain ⟨w6, rfl⟩ : ∃ x, x = X := ⟨_, rfl⟩
            have D6 := Lib.hid kX
            have O6 := OX
            clear kX OX
            go_wp2_with fail
            refine wp_heldall (S := fun X => Below w5.heap.size w5 X) 17 (by kernel_rfl) rfl (Below.drew D6.out) (fun hHeld => ?_)
            have wi0 : IntKind.i64.wrap (q : Int) = (q : Int) := IntWalk.i64_in _ (by omega)
            have wu0 : IntKind.u64.wrap (q : Int) = (q : Int) := IntWalk.u64_in _ (by omega)
            refine takeL (i := 0) (v := ?_) rfl (by kernel_rfl) (by kernel_rfl) (by kernel_rfl) (fun _ _ _ h => h) ⟨by rfl, ?_⟩ (by first | assumption | trivial) ?_
            rotate_left
            · intro W9 hSw
              (try dsimp only at hSw)
              go_simp
              try with_reducible rfl
            (try simp only [Act.put, List.setIfInBounds_toArray, List.set_cons_zero, List.set_cons_succ])
            refine takeL (i := 1) (v := ?_) rfl (by kernel_rfl) (by kernel_rfl) (by kernel_rfl) (fun _ _ _ h => h) ⟨by rfl, ?_⟩ (by first | assumption | trivial) ?_
            rotate_left
            · intro W9 hSw
              (try dsimp only at hSw)
              go_simp
              try with_reducible rfl
            (try simp only [Act.put, List.setIfInBounds_toArray, List.set_cons_zero, List.set_cons_succ])
            refine takeL (i := 2) (v := ?_) rfl (by kernel_rfl) (by kernel_rfl) (by kernel_rfl) (fun _ _ _ h => h) ⟨by rfl, ?_⟩ (by first | assumption | trivial) ?_
            rotate_left
            · intro W9 hSw
              (try dsimp only at hSw)
              go_simp
              try with_reducible rfl
            (try simp only [Act.put, List.setIfInBounds_toArray, List.set_cons_zero, List.set_cons_succ])
            refine takeL (i := 3) (v := ?_) rfl (by kernel_rfl) (by kernel_rfl) (by kernel_rfl) (fun _ _ _ h => h) ⟨by rfl, ?_⟩ (by first | assumption | trivial) ?_
            rotate_left
            · intro W9 hSw
              (try dsimp only at hSw)
              go_simp
              try with_reducible rfl
            (try simp only [Act.put, List.setIfInBounds_toArray, List.set_cons_zero, List.set_cons_succ])
            refine takeL (i := 4) (v := ?_) rfl (by kernel_rfl) (by kernel_rfl) (by kernel_rfl) (fun _ _ _ h => h) ⟨by rfl, ?_⟩ (by first | assumption | trivial) ?_
            rotate_left
            · intro W9 hSw
              (try dsimp only at hSw)
              go_simp
              try with_reducible rfl
            (try simp only [Act.put, List.setIfInBounds_toArray, List.set_cons_zero, List.set_cons_succ])
            refine takeL (i := 5) (v := ?_) rfl (by kernel_rfl) (by kernel_rfl) (by kernel_rfl) (fun _ _ _ h => h) ⟨by rfl, ?_⟩ (by first | assumption | trivial) ?_
            rotate_left
            · intro W9 hSw
              (try dsimp only at hSw)
              (have x0' := (hSw.cell (p := ⟨b, off + i * 4, none⟩) hbx).trans (XL.out.i.c0); have x2' := (hSw.cell (p := ⟨b, off + i * 4 + 2, none⟩) hbx).trans (XL.out.i.c2); rw [HQS.out] at x2')
              go_simp
              try with_reducible rfl
            (try simp only [Act.put, List.setIfInBounds_toArray, List.set_cons_zero, List.set_cons_succ])
            refine takeL (i := 6) (v := ?_) rfl (by kernel_rfl) (by kernel_rfl) (by kernel_rfl) (fun _ _ _ h => h) ⟨by rfl, ?_⟩ (by first | assumption | trivial) ?_
            rotate_left
            · intro W9 hSw
              (try dsimp only at hSw)
              go_simp
              try with_reducible rfl
            (try simp only [Act.put, List.setIfInBounds_toArray, List.set_cons_zero, List.set_cons_succ])
            refine takeL (i := 7) (v := ?_) rfl (by kernel_rfl) (by kernel_rfl) (by kernel_rfl) (fun _ _ _ h => h) ⟨by rfl, ?_⟩ (by first | assumption | trivial) ?_
            rotate_left
            · intro W9 hSw
              (try dsimp only at hSw)
              go_simp
              try with_reducible rfl
            (try simp only [Act.put, List.setIfInBounds_toArray, List.set_cons_zero, List.set_cons_succ])
            refine takeL (i := 9) (v := ?_) rfl (by kernel_rfl) (by kernel_rfl) (by kernel_rfl) (fun _ _ _ h => h) ⟨by rfl, ?_⟩ (by first | assumption | trivial) ?_
            rotate_left
            · intro W9 hSw
              (try dsimp only at hSw)
              go_simp
              try with_reducible rfl
            (try simp only [Act.put, List.setIfInBounds_toArray, List.set_cons_zero, List.set_cons_succ])
            refine takeL (i := 10) (v := ?_) rfl (by kernel_rfl) (by kernel_rfl) (by kernel_rfl) (fun _ _ _ h => h) ⟨by rfl, ?_⟩ (by first | assumption | trivial) ?_
            rotate_left
            · intro W9 hSw
              (try dsimp only at hSw)
              go_simp
              try with_reducible rfl
            (try simp only [Act.put, List.setIfInBounds_toArray, List.set_cons_zero, List.set_cons_succ])
            refine takeL (i := 11) (v := ?_) rfl (by kernel_rfl) (by kernel_rfl) (by kernel_rfl) (fun _ _ _ h => h) ⟨by rfl, ?_⟩ (by first | assumption | trivial) ?_
            rotate_left
            · intro W9 hSw
              (try dsimp only at hSw)
              go_simp
              try with_reducible rfl
            (try simp only [Act.put, List.setIfInBounds_toArray, List.set_cons_zero, List.set_cons_succ])
            refine takeL (i := 12) (v := ?_) rfl (by kernel_rfl) (by kernel_rfl) (by kernel_rfl) (fun _ _ _ h => h) ⟨by rfl, ?_⟩ (by first | assumption | trivial) ?_
            rotate_left
            · intro W9 hSw
              (try dsimp only at hSw)
              go_simp
              try with_reducible rfl
            (try simp only [Act.put, List.setIfInBounds_toArray, List.set_cons_zero, List.set_cons_succ])
            refine takeL (i := 13) (v := ?_) rfl (by kernel_rfl) (by kernel_rfl) (by kernel_rfl) (fun _ _ _ h => h) ⟨by rfl, ?_⟩ (by first | assumption | trivial) ?_
            rotate_left
            · intro W9 hSw
              (try dsimp only at hSw)
              (have x0' := (hSw.cell (p := ⟨b, off + i * 4, none⟩) hbx).trans (XL.out.i.c0); have x2' := (hSw.cell (p := ⟨b, off + i * 4 + 2, none⟩) hbx).trans (XL.out.i.c2); rw [HQS.out] at x2')
              go_simp
              try with_reducible rfl
            (try simp only [Act.put, List.setIfInBounds_toArray, List.set_cons_zero, List.set_cons_succ])
            refine takeL (i := 14) (v := ?_) rfl (by kernel_rfl) (by kernel_rfl) (by kernel_rfl) (fun _ _ _ h => h) ⟨by rfl, ?_⟩ (by first | assumption | trivial) ?_
            rotate_left
            · intro W9 hSw
              (try dsimp only at hSw)
              go_simp
              try with_reducible rfl
            (try simp only [Act.put, List.setIfInBounds_toArray, List.set_cons_zero, List.set_cons_succ])
            clear wi0 wu0
            have kX := hHeld
            clear hHeld
            have OX := Lib.hid (own_keep O6.out (Below.drew (Below.refl w6.heap.size w6)) (Nat.le_refl _))
            clear O6 D6
            generalize w6.drew = X at *
            refine wpAnyH_ready (rs := [8]) (by kernel_rfl) (by simp) ?_
            refine consL rfl (by rfl) (fun K hK => ?_) ?_
            · refine wp_appS styB Try.underlying9 (.tmp 52) (.tmp 59) rfl w5.heap.size OX.out rfl (x.key.extract k x.key.size) rfl (by rw [ext_size x.key _ d HDK.out]; unfold maxLen; omega) (by rw [ext_size x.key _ d HDK.out]; omega) kX.size ?_
              intro vX X2 ownX grX
              have kX2 : Below w5.heap.size w5 X2 := kX.grown grX kX.size (fun g e => (OX.out.lt g e).1)
              refine hK.out _ _ kX2 (fun _ => ?_)
              obtain ⟨b7x, A7x, c7x, hqX, rfl, oX, rX⟩ := nxB (base' := w5.heap.size) (b := b6y) (ys := (x.key.extract k x.key.size).data.toList) ownX (by rw [bv_append]) (Nat.le_refl _)
              have Lb7x : b7x.length ≤ b6y.length + 512 := by have h3 : (x.key.extract k x.key.size).data.toList.length = (x.key.extract k x.key.size).size := Array.length_toList; rw [ext_size x.key _ d HDK.out] at h3; rw [hqX, List.length_append]; omega
              have Hb7x := Lib.hid hqX
              clear hK K kX OX
              have OX := Lib.hid oX
              clear ownX grX hqX oX rX
              obtain ⟨X, rfl⟩ : ∃ x, x = X2 := ⟨_, rfl⟩
              have kX := kX2
              clear kX2
              (try simp only [Act.put, List.setIfInBounds_toArray, List.set_cons_zero, List.set_cons_succ])
              refine wpAnyH_ready (rs := [15]) (by kernel_rfl) (by simp) ?_
              refine consL rfl (by rfl) (fun K hK => ?_) ?_
              · go_simp
                go_at_call 44
                refine (rappU_any A7x b7x.length c7x _ b7x rfl (by omega) q (by omega) _ (own_rdL OX.out) (Nat.le_refl _)).mono ?_
                rintro e X2 ⟨vX, rfl, ownX, hbX⟩
                have kX2 := kX.trans (hbX.mono kX.size)
                refine hK.out _ _ kX2 (fun _ => ?_)
                obtain ⟨b7y, A7y, c7y, hqX, rfl, oX, rX⟩ := nxB (base' := w5.heap.size) (b := b7x) (ys := uv q) ownX rfl kX.size
                have Lb7y : b7y.length ≤ b7x.length + 10 := by rw [hqX, List.length_append]; have := uv_len10 (x := q) (by omega); omega
                have Hb7y := Lib.hid hqX
                clear hK K kX OX
                have OX := Lib.hid oX
                clear ownX hbX hqX oX rX
                obtain ⟨X, rfl⟩ : ∃ x, x = X2 := ⟨_, rfl⟩
                have kX := kX2
                clear kX2
                (try simp only [Act.put, List.setIfInBounds_toArray, List.set_cons_zero, List.set_cons_succ])
                refine takeL (i := 16) (v := ?_) rfl (by kernel_rfl) (by kernel_rfl) (by kernel_rfl) (fun _ _ _ h => h) ⟨by rfl, ?_⟩ (by first | assumption | trivial) ?_
                rotate_left
                · intro W9 hSw
                  (try dsimp only at hSw)
                  go_simp
                  try with_reducible rfl
                (try simp only [Act.put, List.setIfInBounds_toArray, List.set_cons_zero, List.set_cons_succ])
                refine wpAnyH_done (by kernel_rfl) ?_ _
                obtain ⟨w7, rfl⟩ : ∃ x, x = X := ⟨_, rfl⟩
                have D7 := Lib.hid kX
                have O7 := OX
                clear kX OX
                have hqq : Hid (x.seq.toNat = q) := Lib.hid (by have := HQS.out; omega)
                cases hdl : x.del
                · have HDL := Lib.hid hdl
                  clear hdl
                  have x3 := (D7.out.cell (p := ⟨b, off + i * 4 + 3, none⟩) hbx).trans (XL.out.i.c3)
                  have xl := Nat.lt_of_lt_of_le hbx D7.out.size
                  rw [HDL.out] at x3
                  go_wp2_with fail
                  clear x3 xl
                  go_wp2_with fail
                  refine wp_heldall (S := fun X => Below w5.heap.size w5 X) 18 (by kernel_rfl) rfl (Below.drew D7.out) (fun hHeld => ?_)
                  have wi0 : IntKind.i64.wrap (x.val.size : Int) = (x.val.size : Int) := IntWalk.i64_in _ (by omega)
                  have wu0 : IntKind.u64.wrap (x.val.size : Int) = (x.val.size : Int) := IntWalk.u64_in _ (by omega)
                  refine takeL (i := 0) (v := ?_) rfl (by kernel_rfl) (by kernel_rfl) (by kernel_rfl) (fun _ _ _ h => h) ⟨by rfl, ?_⟩ (by first | assumption | trivial) ?_
                  rotate_left
                  · intro W9 hSw
                    (try dsimp only at hSw)
                    go_simp
                    try with_reducible rfl
                  (try simp only [Act.put, List.setIfInBounds_toArray, List.set_cons_zero, List.set_cons_succ])
                  refine takeL (i := 3) (v := ?_) rfl (by kernel_rfl) (by kernel_rfl) (by kernel_rfl) (fun _ _ _ h => h) ⟨by rfl, ?_⟩ (by first | assumption | trivial) ?_
                  rotate_left
                  · intro W9 hSw
                    (try dsimp only at hSw)
                    go_simp
                    try with_reducible rfl
                  (try simp only [Act.put, List.setIfInBounds_toArray, List.set_cons_zero, List.set_cons_succ])
                  refine takeL (i := 4) (v := ?_) rfl (by kernel_rfl) (by kernel_rfl) (by kernel_rfl) (fun _ _ _ h => h) ⟨by rfl, ?_⟩ (by first | assumption | trivial) ?_
                  rotate_left
                  · intro W9 hSw
                    (try dsimp only at hSw)
                    go_simp
                    try with_reducible rfl
                  (try simp only [Act.put, List.setIfInBounds_toArray, List.set_cons_zero, List.set_cons_succ])
                  refine takeL (i := 5) (v := ?_) rfl (by kernel_rfl) (by kernel_rfl) (by kernel_rfl) (fun _ _ _ h => h) ⟨by rfl, ?_⟩ (by first | assumption | trivial) ?_
                  rotate_left
                  · intro W9 hSw
                    (try dsimp only at hSw)
                    go_simp
                    try with_reducible rfl
                  (try simp only [Act.put, List.setIfInBounds_toArray, List.set_cons_zero, List.set_cons_succ])
                  refine takeL (i := 6) (v := ?_) rfl (by kernel_rfl) (by kernel_rfl) (by kernel_rfl) (fun _ _ _ h => h) ⟨by rfl, ?_⟩ (by first | assumption | trivial) ?_
                  rotate_left
                  · intro W9 hSw
                    (try dsimp only at hSw)
                    go_simp
                    try with_reducible rfl
                  (try simp only [Act.put, List.setIfInBounds_toArray, List.set_cons_zero, List.set_cons_succ])
                  refine takeL (i := 7) (v := ?_) rfl (by kernel_rfl) (by kernel_rfl) (by kernel_rfl) (fun _ _ _ h => h) ⟨by rfl, ?_⟩ (by first | assumption | trivial) ?_
                  rotate_left
                  · intro W9 hSw
                    (try dsimp only at hSw)
                    (have x1' := (hSw.cell (p := ⟨b, off + i * 4 + 1, none⟩) hbx).trans (XL.out.i.c1))
                    go_simp
                    try with_reducible rfl
                  (try simp only [Act.put, List.setIfInBounds_toArray, List.set_cons_zero, List.set_cons_succ])
                  refine takeL (i := 8) (v := ?_) rfl (by kernel_rfl) (by kernel_rfl) (by kernel_rfl) (fun _ _ _ h => h) ⟨by rfl, ?_⟩ (by first | assumption | trivial) ?_
                  rotate_left
                  · intro W9 hSw
                    (try dsimp only at hSw)
                    go_simp
                    try with_reducible rfl
                  (try simp only [Act.put, List.setIfInBounds_toArray, List.set_cons_zero, List.set_cons_succ])
                  refine takeL (i := 9) (v := ?_) rfl (by kernel_rfl) (by kernel_rfl) (by kernel_rfl) (fun _ _ _ h => h) ⟨by rfl, ?_⟩ (by first | assumption | trivial) ?_
                  rotate_left
                  · intro W9 hSw
                    (try dsimp only at hSw)
                    go_simp
                    try with_reducible rfl
                  (try simp only [Act.put, List.setIfInBounds_toArray, List.set_cons_zero, List.set_cons_succ])
                  refine takeL (i := 11) (v := ?_) rfl (by kernel_rfl) (by kernel_rfl) (by kernel_rfl) (fun _ _ _ h => h) ⟨by rfl, ?_⟩ (by first | assumption | trivial) ?_
                  rotate_left
                  · intro W9 hSw
                    (try dsimp only at hSw)
                    go_simp
                    try with_reducible rfl
                  (try simp only [Act.put, List.setIfInBounds_toArray, List.set_cons_zero, List.set_cons_succ])
                  refine takeL (i := 12) (v := ?_) rfl (by kernel_rfl) (by kernel_rfl) (by kernel_rfl) (fun _ _ _ h => h) ⟨by rfl, ?_⟩ (by first | assumption | trivial) ?_
                  rotate_left
                  · intro W9 hSw
                    (try dsimp only at hSw)
                    go_simp
                    try with_reducible rfl
                  (try simp only [Act.put, List.setIfInBounds_toArray, List.set_cons_zero, List.set_cons_succ])
                  refine takeL (i := 13) (v := ?_) rfl (by kernel_rfl) (by kernel_rfl) (by kernel_rfl) (fun _ _ _ h => h) ⟨by rfl, ?_⟩ (by first | assumption | trivial) ?_
                  rotate_left
                  · intro W9 hSw
                    (try dsimp only at hSw)
                    go_simp
                    try with_reducible rfl
                  (try simp only [Act.put, List.setIfInBounds_toArray, List.set_cons_zero, List.set_cons_succ])
                  refine takeL (i := 14) (v := ?_) rfl (by kernel_rfl) (by kernel_rfl) (by kernel_rfl) (fun _ _ _ h => h) ⟨by rfl, ?_⟩ (by first | assumption | trivial) ?_
                  rotate_left
                  · intro W9 hSw
                    (try dsimp only at hSw)
                    go_simp
                    try with_reducible rfl
                  (try simp only [Act.put, List.setIfInBounds_toArray, List.set_cons_zero, List.set_cons_succ])
                  refine takeL (i := 15) (v := ?_) rfl (by kernel_rfl) (by kernel_rfl) (by kernel_rfl) (fun _ _ _ h => h) ⟨by rfl, ?_⟩ (by first | assumption | trivial) ?_
                  rotate_left
                  · intro W9 hSw
                    (try dsimp only at hSw)
                    (have x1' := (hSw.cell (p := ⟨b, off + i * 4 + 1, none⟩) hbx).trans (XL.out.i.c1))
                    go_simp
                    try with_reducible rfl
                  (try simp only [Act.put, List.setIfInBounds_toArray, List.set_cons_zero, List.set_cons_succ])
                  clear wi0 wu0
                  have kX := hHeld
                  clear hHeld
                  have OX := Lib.hid (own_keep O7.out (Below.drew (Below.refl w7.heap.size w7)) (Nat.le_refl _))
                  clear O7 D7
                  generalize w7.drew = X at *
                  refine wpAnyH_ready (rs := [1]) (by kernel_rfl) (by simp) ?_
                  refine consL rfl (by rfl) (fun K hK => ?_) ?_
                  · go_simp
                    have kX2 : Below w5.heap.size w5 (X.alloc (.cells #[.int .u8 0] 5)) := kX.alloc kX.size _
                    refine hK.out _ _ kX2 (fun _ => ?_)
                    have RN : Hid (Rd (X.alloc (.cells #[.int .u8 0] 5)) (X.alloc (.cells #[.int .u8 0] 5)).heap.size (some ⟨X.heap.size, 0, none⟩) [.int .u8 0]) := Lib.hid (rd_frC _ _ _ _)
                    have OX2 := Lib.hid (OX.out.alloc (.cells #[.int .u8 0] 5))
                    clear hK K kX OX
                    have OX := OX2
                    clear OX2
                    generalize X.alloc (.cells #[.int .u8 0] 5) = X2 at *
                    generalize X.heap.size = hN at *
                    obtain ⟨X, rfl⟩ : ∃ x, x = X2 := ⟨_, rfl⟩
                    have kX := kX2
                    clear kX2
                    (try simp only [Act.put, List.setIfInBounds_toArray, List.set_cons_zero, List.set_cons_succ])
                    refine wpAnyH_ready (rs := [2]) (by kernel_rfl) (by simp) ?_
                    refine consL rfl (by rfl) (fun K hK => ?_) ?_
                    · refine wp_app styB (.tmp 76) (.tmp 77) rfl w5.heap.size OX.out rfl 1 1 RN.out rfl rfl (by simp [Value.oneCell']) (by unfold maxLen; omega) (by omega) kX.size ?_
                      intro vX X2 ownX grX nilX atX
                      have kX2 : Below w5.heap.size w5 X2 := kX.grown grX kX.size (fun g e => (OX.out.lt g e).1)
                      refine hK.out _ _ kX2 (fun _ => ?_)
                      obtain ⟨b8y, A8y, c8y, hqX, rfl, oX, rX⟩ := nxB (base' := w5.heap.size) (b := b7y) (ys := [0]) ownX (by rw [bv_append]; rfl) (Nat.le_refl _)
                      have Lb8y : b8y.length ≤ b7y.length + 1 := by rw [hqX, List.length_append]; simp
                      have Hb8y := Lib.hid hqX
                      clear hK K kX OX RN
                      have OX := Lib.hid oX
                      clear ownX grX nilX atX hqX oX rX
                      obtain ⟨X, rfl⟩ : ∃ x, x = X2 := ⟨_, rfl⟩
                      have kX := kX2
                      clear kX2
                      (try simp only [Act.put, List.setIfInBounds_toArray, List.set_cons_zero, List.set_cons_succ])
                      refine wpAnyH_ready (rs := [10]) (by kernel_rfl) (by simp) ?_
                      refine consL rfl (by rfl) (fun K hK => ?_) ?_
                      · go_simp
                        go_at_call 44
                        refine (rappU_any A8y b8y.length c8y _ b8y rfl (by omega) x.val.size (by omega) _ (own_rdL OX.out) (Nat.le_refl _)).mono ?_
                        rintro e X2 ⟨vX, rfl, ownX, hbX⟩
                        have kX2 := kX.trans (hbX.mono kX.size)
                        refine hK.out _ _ kX2 (fun _ => ?_)
                        obtain ⟨b8z, A8z, c8z, hqX, rfl, oX, rX⟩ := nxB (base' := w5.heap.size) (b := b8y) (ys := uv x.val.size) ownX rfl kX.size
                        have Lb8z : b8z.length ≤ b8y.length + 10 := by rw [hqX, List.length_append]; have := uv_len10 (x := x.val.size) (by omega); omega
                        have Hb8z := Lib.hid hqX
                        clear hK K kX OX
                        have OX := Lib.hid oX
                        clear ownX hbX hqX oX rX
                        obtain ⟨X, rfl⟩ : ∃ x, x = X2 := ⟨_, rfl⟩
                        have kX := kX2
                        clear kX2
                        (try simp only [Act.put, List.setIfInBounds_toArray, List.set_cons_zero, List.set_cons_succ])
                        refine wpAnyH_ready (rs := [16]) (by kernel_rfl) (by simp) ?_
                        refine consL rfl (by rfl) (fun K hK => ?_) ?_
                        · refine wp_appS styB Try.underlying9 (.tmp 86) (.tmp 91) rfl w5.heap.size OX.out rfl (x.val) rfl (by unfold maxLen; omega) (by omega) kX.size ?_
                          intro vX X2 ownX grX
                          have kX2 : Below w5.heap.size w5 X2 := kX.grown grX kX.size (fun g e => (OX.out.lt g e).1)
                          refine hK.out _ _ kX2 (fun _ => ?_)
                          obtain ⟨b8u, A8u, c8u, hqX, rfl, oX, rX⟩ := nxB (base' := w5.heap.size) (b := b8z) (ys := (x.val).data.toList) ownX (by rw [bv_append]) (Nat.le_refl _)
                          have Lb8u : b8u.length ≤ b8z.length + 4096 := by have h3 : (x.val).data.toList.length = (x.val).size := Array.length_toList; rw [hqX, List.length_append]; omega
                          have Hb8u := Lib.hid hqX
                          clear hK K kX OX
                          have OX := Lib.hid oX
                          clear ownX grX hqX oX rX
                          obtain ⟨X, rfl⟩ : ∃ x, x = X2 := ⟨_, rfl⟩
                          have kX := kX2
                          clear kX2
                          (try simp only [Act.put, List.setIfInBounds_toArray, List.set_cons_zero, List.set_cons_succ])
                          refine takeL (i := 17) (v := ?_) rfl (by kernel_rfl) (by kernel_rfl) (by kernel_rfl) (fun _ _ _ h => h) ⟨by rfl, ?_⟩ (by first | assumption | trivial) ?_
                          rotate_left
                          · intro W9 hSw
                            (try dsimp only at hSw)
                            go_simp
                            try with_reducible rfl
                          (try simp only [Act.put, List.setIfInBounds_toArray, List.set_cons_zero, List.set_cons_succ])
                          refine wpAnyH_done (by kernel_rfl) ?_ _
                          obtain ⟨w8, rfl⟩ : ∃ x, x = X := ⟨_, rfl⟩
                          have D8 := Lib.hid kX
                          have O8 := OX
                          clear kX OX
                          have HQ9 : Hid (S = b8u ++ encR (i + 1) x.key (l.drop (i + 1))) := Lib.hid (enc_round HX.out HQ.out b8u (by rw [Hb8u.out, Hb8z.out, Hb8y.out, Hb7y.out, Hb7x.out, Hb6y.out, Hb6x.out, encE, tEnc, HDL.out, HK0.out, show x.key.size - k = d by have := HDK.out; omega, hqq.out, ext_drop]; simp))
                          have L9 : Hid (b8u.length ≤ 10 + (i + 1) * 5000) := Lib.hid (by omega)
                          have HP9 : Hid (∀ j y, i + 1 = j + 1 → l[j]? = some y → x.key = y.key) := Lib.hid (fun j y hj hy => key_same HX.out (by omega) hy)
                          have O91 := Lib.hid (own_base O8.out B5.out.size)
                          have B91 := Lib.hid (B5.out.trans (D8.out.mono B5.out.size))
                          clear HQ
                          go_wp2_with fail
                          go_roundw
                          case rel => exact ⟨_, _, b8u, i + 1, x.key, rfl, by go_num, by omega, L9, HP9, O91, HQ9, B91⟩
                          case measure => simp [intOf]; omega
                        · exact AllReadyH.nil
                      · exact AllReadyH.nil
                    · exact AllReadyH.nil
                  · exact AllReadyH.nil
                · have HDL := Lib.hid hdl
                  clear hdl
                  have x3 := (D7.out.cell (p := ⟨b, off + i * 4 + 3, none⟩) hbx).trans (XL.out.i.c3)
                  have xl := Nat.lt_of_lt_of_le hbx D7.out.size
                  rw [HDL.out] at x3
                  go_wp2_with (at_builtin; refine wpList_app styB (.tmp 73) (.tmp 74) rfl rfl w5.heap.size (O7.out.alloc _) rfl 1 1 (rd_frC _ _ _ _) rfl rfl (by simp [Value.oneCell']) (by unfold maxLen; omega) (by omega) (by have h1 := D7.out.size; rw [World.size_alloc]; omega) ?_; intro v9 w99 own9 gr9 nil9 at9; obtain ⟨b9, A9, c9, hq9, rfl, o9, r9⟩ := nxB (base' := w5.heap.size) (b := b7y) (ys := [1]) own9 (by rw [bv_append]; rfl) (Nat.le_refl _); have HQ99 := Lib.hid hq9; have L99 : b9.length ≤ b7y.length + 1 := (by rw [hq9, List.length_append]; simp); clear hq9)
                  have D99 := Lib.hid ((D7.out.alloc D7.out.size _).grown gr9 (by have h1 := D7.out.size; rw [World.size_alloc]; omega) (fun g e => (O7.out.lt g e).1))
                  have O99 := Lib.hid o9
                  clear own9 gr9 nil9 at9 o9 r9
                  have HQ9 : Hid (S = b9 ++ encR (i + 1) x.key (l.drop (i + 1))) := Lib.hid (enc_round HX.out HQ.out b9 (by rw [HQ99.out, Hb7y.out, Hb7x.out, Hb6y.out, Hb6x.out, encE, tEnc, HDL.out, HK0.out, show x.key.size - k = d by have := HDK.out; omega, hqq.out, ext_drop]; simp))
                  have L9 : Hid (b9.length ≤ 10 + (i + 1) * 5000) := Lib.hid (by omega)
                  have HP9 : Hid (∀ j y, i + 1 = j + 1 → l[j]? = some y → x.key = y.key) := Lib.hid (fun j y hj hy => key_same HX.out (by omega) hy)
                  have O91 := Lib.hid (own_base O99.out B5.out.size)
                  have B91 := Lib.hid (B5.out.trans (D99.out.mono B5.out.size))
                  clear HQ
                  go_wp2_with fail
                  go_roundw
                  case rel => exact ⟨_, _, b9, i + 1, x.key, rfl, by go_num, by omega, L9, HP9, O91, HQ9, B91⟩
                  case measure => simp [intOf]; omega
              · exact AllReadyH.nil
            · exact AllReadyH.nil
          · exact AllReadyH.nil
        · exact AllReadyH.nil
    · have i1 : ¬ (i : Int) < (n : Int) := by omega
      have SEQ : Hid (S = acc) := Lib.hid (by rw [HQ.out, List.drop_eq_nil_of_le (by rw [HL.out]; omega)]; simp [encR])
      clear HQ hlt
      go_wp2_with fail
      go_ret2
      exact ⟨_, by rw [E0.out] <;> rfl, by rw [SEQ.out]; exact own_base OA.out B1.out.size, B1.out.trans (BA.out.mono B1.out.size)⟩
end Go.Proofs.Ytdmpimgbnhgiaaa
