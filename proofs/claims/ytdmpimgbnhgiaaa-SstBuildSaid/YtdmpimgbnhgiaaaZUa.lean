/- Walks: numbers of eight bytes, frames of a table. -/
import Derived.Test.YtdmpimgbnhgiaaaZBox
import Derived.Test.YtdmpimgbnhgiaaaZK

namespace Go.Proofs.Ytdmpimgbnhgiaaa
open Go.RowKit Go.St
set_option linter.unusedVariables false
set_option linter.unusedSimpArgs false
set_option maxRecDepth 100000

/-- A number's eight bytes, the lowest first. -/
def le8 (x : Nat) : List UInt8 := [UInt8.ofNat x, UInt8.ofNat (x / 256), UInt8.ofNat (x / 65536), UInt8.ofNat (x / 16777216), UInt8.ofNat (x / 4294967296), UInt8.ofNat (x / 1099511627776), UInt8.ofNat (x / 281474976710656), UInt8.ofNat (x / 72057594037927936)]
theorem le8_len (x : Nat) : (le8 x).length = 8 := rfl
/-- A row that grew from another: no other block has changed. -/
structure GrT (w : World) (v : Value) (w' : World) (v' : Value) : Prop where
  gr : w.grownBy w' v.ownBlock
  own : ∀ g, v'.ownBlock = some g → v.ownBlock = some g ∨ w.heap.size ≤ g
theorem GrT.refl (w : World) (v : Value) : GrT w v w v := ⟨World.grownBy.refl w _, fun g h => .inl h⟩
theorem GrT.alloc {w w' : World} {v v' : Value} (h : GrT w v w' v') (o : Obj) : GrT w v (w'.alloc o) v' :=
  ⟨⟨h.gr.os, h.gr.tape, h.gr.output, by have := h.gr.size; simp; omega, fun k hk hne => (Below.heap_alloc _ _ _ (Nat.lt_of_lt_of_le hk h.gr.size)).trans (h.gr.block k hk hne)⟩, h.own⟩
theorem GrT.app {w w' w'' : World} {v v' v'' : Value} (h : GrT w v w' v') (hg : w'.grownBy w'' v'.ownBlock) (ho : v''.ownBlock = v'.ownBlock ∨ v''.ownBlock = some w'.heap.size) : GrT w v w'' v'' := by
  refine ⟨⟨hg.os.trans h.gr.os, hg.tape.trans h.gr.tape, hg.output.trans h.gr.output, Nat.le_trans h.gr.size hg.size, fun k hk hne => (hg.block k (Nat.lt_of_lt_of_le hk h.gr.size) (fun e => ?_)).trans (h.gr.block k hk hne)⟩, fun g hgg => ?_⟩
  · rcases h.own k e.symm with h1 | h1
    · exact hne h1.symm
    · omega
  · rcases ho with h1 | h1
    · exact h.own g (by rw [← h1]; exact hgg)
    · rw [h1] at hgg
      injection hgg with hgg
      exact .inr (by have := h.gr.size; omega)
theorem GrT.below {w w' : World} {v v' : Value} (h : GrT w v w' v') {B : Nat} (hB : B ≤ w.heap.size) (hv : ∀ g, v.ownBlock = some g → B ≤ g) : Below B w w' := (Below.refl B w).grown h.gr hB hv
set_option maxHeartbeats 3200000 in
theorem eight_any (base : Nat) (v : Value) (n : Nat) (bs : List UInt8) (hn : n ≤ 100000000) (x : Nat) (hx : x < 9223372036854775808) (w : World) (own : w.ownsRow base 5 1 v n (bv bs)) (hb : base ≤ w.heap.size) :
    Calls Try.prog 39 #[v, .int .i64 (x : Int)] w fun e w' => ∃ v', e = .returned v' ∧ w'.ownsRow base 5 1 v' (n + 8) (bv (bs ++ le8 x)) ∧ GrT w v w' v' := by
  have HO := Lib.hid own
  clear own
  have hw : IntKind.u64.wrap (x : Int) = (x : Int) := IntWalk.u64_in _ (by omega)
  go_enter Try.func39, Try.ntmps39
  go_wp2_with fail
  go_loopw [0, 6] (fun s0 s6 wr => ∃ k : Nat, s6 = .int .i64 (k : Int) ∧ k ≤ 8 ∧ Hid (wr.ownsRow base 5 1 s0 (n + k) (bv (bs ++ (le8 x).take k))) ∧ Hid (GrT w v wr s0)) (fun _ s6 _ => 8 - (intOf s6).toNat)
  case atStart => exact ⟨0, rfl, Nat.zero_le _, Lib.hid (own_eq HO.out rfl (by simp)), Lib.hid (GrT.refl w v)⟩
  case round =>
    obtain ⟨k, rfl, hk, OW, G⟩ := hrel
    rename_i s0 _
    obtain ⟨w1, rfl⟩ : ∃ x, x = wr := ⟨_, rfl⟩
    have hz : base ≤ w1.heap.size := Nat.le_trans hb G.out.gr.size
    by_cases hk8 : k < 8
    · obtain ⟨A, c, rfl, -, -⟩ := own_sl OW.out
      rcases (by omega : k = 0 ∨ k = 1 ∨ k = 2 ∨ k = 3 ∨ k = 4 ∨ k = 5 ∨ k = 6 ∨ k = 7) with rfl | rfl | rfl | rfl | rfl | rfl | rfl | rfl
      all_goals
        go_wp2_with (at_builtin; refine wpList_app sty22 (.tmp 9) (.tmp 16) rfl rfl base (OW.out.alloc _) rfl 1 1 (rd_one _ _ _) rfl rfl (by simp [Value.oneCell']) (by unfold maxLen; omega) (by omega) (by simp; omega) ?_; intro v2 w2 own2 gr2 nil2 at2)
        have O9 := Lib.hid own2
        have G9 := Lib.hid ((G.out.alloc _).app gr2 at2)
        clear own2 gr2 nil2 at2
      · exact ⟨⟨0 + 1, rfl, by omega, Lib.hid (own_eq O9.out (by omega) (by simp [bv, le8, bt_ofNat])), G9⟩, by simp [intOf]⟩
      · exact ⟨⟨1 + 1, rfl, by omega, Lib.hid (own_eq O9.out (by omega) (by simp [bv, le8, bt_ofNat])), G9⟩, by simp [intOf]⟩
      · exact ⟨⟨2 + 1, rfl, by omega, Lib.hid (own_eq O9.out (by omega) (by simp [bv, le8, bt_ofNat])), G9⟩, by simp [intOf]⟩
      · exact ⟨⟨3 + 1, rfl, by omega, Lib.hid (own_eq O9.out (by omega) (by simp [bv, le8, bt_ofNat])), G9⟩, by simp [intOf]⟩
      · exact ⟨⟨4 + 1, rfl, by omega, Lib.hid (own_eq O9.out (by omega) (by simp [bv, le8, bt_ofNat])), G9⟩, by simp [intOf]⟩
      · exact ⟨⟨5 + 1, rfl, by omega, Lib.hid (own_eq O9.out (by omega) (by simp [bv, le8, bt_ofNat])), G9⟩, by simp [intOf]⟩
      · exact ⟨⟨6 + 1, rfl, by omega, Lib.hid (own_eq O9.out (by omega) (by simp [bv, le8, bt_ofNat])), G9⟩, by simp [intOf]⟩
      · exact ⟨⟨7 + 1, rfl, by omega, Lib.hid (own_eq O9.out (by omega) (by simp [bv, le8, bt_ofNat]; omega)), G9⟩, by simp [intOf]⟩
    · obtain rfl : k = 8 := by omega
      go_wp2_with fail
      go_ret
      exact ⟨_, rfl, own_eq OW.out rfl rfl, G.out⟩
set_option maxHeartbeats 3200000 in
theorem reight_any (x : Nat) (hx : x < 9223372036854775808) (w : World) :
    Calls Try.prog 47 #[.int .i64 (x : Int)] w fun e w' => ∃ v', e = .returned v' ∧ w'.ownsRow w.heap.size 5 1 v' 8 (bv (le8 x)) ∧ Below w.heap.size w w' := by
  obtain ⟨base, hbase⟩ : ∃ b, b = w.heap.size := ⟨_, rfl⟩
  have hb : base ≤ w.heap.size := by omega
  rw [← hbase]
  obtain ⟨v, hv⟩ : ∃ v, v = Value.slice none 0 0 := ⟨_, rfl⟩
  have HV := Lib.hid hv
  clear hbase hv
  obtain ⟨bs, hbs⟩ : ∃ bs : List UInt8, bs = [] := ⟨_, rfl⟩
  obtain ⟨n, hn⟩ : ∃ n : Nat, n = 0 := ⟨_, rfl⟩
  have HN := Lib.hid (And.intro hbs hn)
  have hn1 : n ≤ 0 := by omega
  clear hbs hn
  go_enter Try.func47, Try.ntmps47
  go_wp2_with fail
  go_loopw [3, 4] (fun s0 s6 wr => ∃ k : Nat, s6 = .int .i64 (k : Int) ∧ k ≤ 8 ∧ Hid (wr.ownsRow base 5 1 s0 (n + k) (bv (bs ++ (le8 x).take k))) ∧ Hid (GrT w v wr s0)) (fun _ s6 _ => 8 - (intOf s6).toNat)
  case atStart => exact ⟨0, rfl, Nat.zero_le _, Lib.hid (by rw [HN.out.1, HN.out.2]; exact World.ownsRow_nil _ _ _ _), Lib.hid (by rw [HV.out]; exact GrT.refl w _)⟩
  case round =>
    obtain ⟨k, rfl, hk, OW, G⟩ := hrel
    obtain ⟨w1, rfl⟩ : ∃ x, x = wr := ⟨_, rfl⟩
    have hz : base ≤ w1.heap.size := Nat.le_trans hb G.out.gr.size
    by_cases hk8 : k < 8
    · obtain ⟨A, c, rfl, -, -⟩ := own_sl OW.out
      rcases (by omega : k = 0 ∨ k = 1 ∨ k = 2 ∨ k = 3 ∨ k = 4 ∨ k = 5 ∨ k = 6 ∨ k = 7) with rfl | rfl | rfl | rfl | rfl | rfl | rfl | rfl
      all_goals
        go_wp2_with (at_builtin; refine wpList_app sty22 (.tmp 9) (.tmp 15) rfl rfl base (OW.out.alloc _) rfl 1 1 (rd_one _ _ _) rfl rfl (by simp [Value.oneCell']) (by unfold maxLen; omega) (by omega) (by simp; omega) ?_; intro v2 w2 own2 gr2 nil2 at2)
        have O9 := Lib.hid own2
        have G9 := Lib.hid ((G.out.alloc _).app gr2 at2)
        clear own2 gr2 nil2 at2
      · exact ⟨⟨0 + 1, rfl, by omega, Lib.hid (own_eq O9.out (by omega) (by simp [bv, le8, bt_ofNat])), G9⟩, by simp [intOf]⟩
      · exact ⟨⟨1 + 1, rfl, by omega, Lib.hid (own_eq O9.out (by omega) (by simp [bv, le8, bt_ofNat])), G9⟩, by simp [intOf]⟩
      · exact ⟨⟨2 + 1, rfl, by omega, Lib.hid (own_eq O9.out (by omega) (by simp [bv, le8, bt_ofNat])), G9⟩, by simp [intOf]⟩
      · exact ⟨⟨3 + 1, rfl, by omega, Lib.hid (own_eq O9.out (by omega) (by simp [bv, le8, bt_ofNat])), G9⟩, by simp [intOf]⟩
      · exact ⟨⟨4 + 1, rfl, by omega, Lib.hid (own_eq O9.out (by omega) (by simp [bv, le8, bt_ofNat])), G9⟩, by simp [intOf]⟩
      · exact ⟨⟨5 + 1, rfl, by omega, Lib.hid (own_eq O9.out (by omega) (by simp [bv, le8, bt_ofNat])), G9⟩, by simp [intOf]⟩
      · exact ⟨⟨6 + 1, rfl, by omega, Lib.hid (own_eq O9.out (by omega) (by simp [bv, le8, bt_ofNat])), G9⟩, by simp [intOf]⟩
      · exact ⟨⟨7 + 1, rfl, by omega, Lib.hid (own_eq O9.out (by omega) (by simp [bv, le8, bt_ofNat]; omega)), G9⟩, by simp [intOf]⟩
    · obtain rfl : k = 8 := by omega
      go_wp2_with fail
      go_ret
      have h := OW.out
      rw [HN.out.1, HN.out.2] at h
      exact ⟨_, rfl, own_eq h (by omega) rfl, G.out.below hb (fun g hg => by rw [HV.out] at hg; simp [Value.ownBlock] at hg)⟩
/-- The number that eight bytes say. -/
def of8 (b : List UInt8) : Nat := (b.take 8).foldr (fun c x => c.toNat + 256 * x) 0
theorem of8_lt : ∀ (b : List UInt8), b.foldr (fun c x => c.toNat + 256 * x) 0 < 256 ^ b.length
  | [] => by simp
  | c :: r => by
    have h := of8_lt r
    have hc := c.toNat_lt
    rw [List.foldr_cons, List.length_cons, Nat.pow_succ]
    omega
theorem of8_step {b : List UInt8} {j : Nat} (h : j < (b.take 8).length) : ((b.take 8).drop j).foldr (fun c x => c.toNat + 256 * x) 0 = ((b.take 8)[j]).toNat + 256 * ((b.take 8).drop (j + 1)).foldr (fun c x => c.toNat + 256 * x) 0 := by
  rw [List.drop_eq_getElem_cons h, List.foldr_cons]
theorem of8_or {c X : Nat} (hc : c < 256) (hX : X < 72057594037927936) : bits .or .u64 ((X : Int) * 256) (c : Int) = ((c + 256 * X : Nat) : Int) := by
  have e1 : (X : Int) * 256 = ((X * 256 : Nat) : Int) := by omega
  rw [e1, u64_or_nat _ _ (by omega) (by omega)]
  have h := Nat.shiftLeft_add_eq_or_of_lt (b := c) (i := 8) (by omega) X
  rw [Nat.shiftLeft_eq] at h
  rw [← h]
  omega
set_option maxHeartbeats 1600000 in
theorem uneight_any (A : Option Addr) (n c B : Nat) (b : List UInt8) (hl : b.length = n) (h8 : 8 ≤ n) (w : World) (hr : Rd w B A (bv b)) (hB : B ≤ w.heap.size) :
    Calls Try.prog 50 #[.slice A n c] w fun e w' => e = .returned (.int .u64 (of8 b : Nat)) ∧ w = w' := by
  have HL := Lib.hid hl
  have HR := Lib.hid hr
  clear hl hr
  have ht : (b.take 8).length = 8 := by rw [List.length_take, HL.out]; omega
  have HT := Lib.hid ht
  clear ht
  obtain ⟨E, hE⟩ : ∃ E, E = of8 b := ⟨_, rfl⟩
  rw [← hE]
  have HE := Lib.hid hE
  clear hE
  go_enter Try.func50, Try.ntmps50
  go_wp2_with fail
  go_loopw [3, 4] (fun s3 s4 wr => ∃ j X : Nat, s3 = .int .u64 (X : Int) ∧ s4 = .int .i64 ((j : Int) - 1) ∧ j ≤ 8 ∧ Hid (X = ((b.take 8).drop j).foldr (fun c x => c.toNat + 256 * x) 0) ∧ wr = w) (fun _ s4 _ => (intOf s4 + 1).toNat)
  case atStart => exact ⟨8, 0, rfl, rfl, Nat.le_refl _, Lib.hid (by rw [List.drop_eq_nil_of_le (by rw [HT.out]; omega)]; rfl), rfl⟩
  case round =>
    obtain ⟨j, X, rfl, rfl, hj, HX, rfl⟩ := hrel
    obtain ⟨w, rfl⟩ : ∃ x, x = wr := ⟨_, rfl⟩
    by_cases h0 : j = 0
    · subst h0
      have SEQ : Hid (E = X) := Lib.hid (by rw [HE.out, HX.out]; rfl)
      clear HX HE
      go_wp2_with fail
      go_ret
      exact ⟨by rw [SEQ.out]; rfl, rfl⟩
    · obtain ⟨i, rfl⟩ : ∃ i, j = i + 1 := ⟨j - 1, by omega⟩
      have hi : i < (b.take 8).length := by rw [HT.out]; omega
      have hst := of8_step hi
      obtain ⟨bk, off, rfl, hbk, hc⟩ := HR.out.at_ (bv_get b i (by rw [HL.out]; omega))
      have hlt : X < 72057594037927936 := by
        have h := of8_lt ((b.take 8).drop (i + 1))
        rw [← HX.out, List.length_drop, HT.out] at h
        have : (256 : Nat) ^ (8 - (i + 1)) ≤ 256 ^ 7 := Nat.pow_le_pow_right (by omega) (by omega)
        have e : (256 : Nat) ^ 7 = 72057594037927936 := by decide
        omega
      rw [← HX.out] at hst
      have e0 : (b.take 8)[i] = b[i]'(by rw [HL.out]; omega) := by rw [List.getElem_take]
      rw [e0] at hst
      unfold bt at hc
      have hc8 := (b[i]'(by rw [HL.out]; omega)).toNat_lt
      generalize (b[i]'(by rw [HL.out]; omega)).toNat = y at *
      have HST := Lib.hid hst
      have hor := of8_or (c := y) (X := X) hc8 hlt
      have i0 : (0 : Int) ≤ (i : Int) := by omega
      have i1 : (i : Int) < (n : Int) := by omega
      have zb : bk < w.heap.size := by omega
      clear hst HX hi e0
      go_wp2_with fail
      exact ⟨⟨i, y + 256 * X, by go_num, rfl, by omega, Lib.hid HST.out.symm, trivial⟩, by first | (simp [intOf]; done) | (simp [intOf]; omega)⟩
theorem framed_any (A A' : Option Addr) (n c B n' c' B' : Nat) (bs rs : List UInt8) (hl : bs.length = n) (hl' : rs.length = n') (hn : n + n' + 12 ≤ 140737488355328) (hn' : n' ≤ 1048576) (w : World)
    (hr : Rd w B A (bv bs)) (hB : B ≤ w.heap.size) (hr' : Rd w B' A' (bv rs)) (hB' : B' ≤ w.heap.size) :
    Calls Try.prog 35 #[.slice A n c, .slice A' n' c'] w fun e w' => ∃ v, e = .returned (.tuple #[v, .int .i64 0]) ∧ w'.ownsRow w.heap.size 5 1 v (n + n' + 12) (bv (bs ++ frameL rs)) ∧ Below w.heap.size w w' := by
  have H := Lib.hid (append_fits A A' n c B n' c' B' bs rs hl hl' hn hn' w hr hB hr' hB')
  clear hl hl' hr hr'
  go_enter Try.func35, Try.ntmps35
  go_wp2_with fail
  refine H.out.mono ?_
  rintro e w2 ⟨v, rfl, own, hb⟩
  have O2 := Lib.hid own
  have B2 := Lib.hid hb
  clear own hb
  go_wp2_with fail
  go_ret2
  exact ⟨v, rfl, O2.out, B2.out⟩
/-- Is it one frame and nothing else? -/
def recB (b : List UInt8) : Bool := decide (readE b = 0) && decide (readN b = b.length)
theorem record_any (A : Option Addr) (n c B : Nat) (bs : List UInt8) (hl : bs.length = n) (hn : n ≤ 140737488355328) (hc : n ≤ c) (w : World) (hr : Rd w B A (bv bs)) (hB : B ≤ w.heap.size) :
    Calls Try.prog 49 #[.slice A n c] w fun e w' => ∃ v, e = .returned (.tuple #[v, .bool (recB bs)]) ∧ w'.ownsRow w.heap.size 5 1 v (readL bs).length (bv (readL bs)) ∧ Below w.heap.size w w' := by
  have H := Lib.hid (fread_any A n c B bs hl hn hc w hr hB)
  have HL := Lib.hid hl
  clear hl hr
  go_enter Try.func49, Try.ntmps49
  go_wp2_with fail
  refine H.out.mono ?_
  rintro e w2 ⟨v, rfl, own, hb⟩
  have O2 := Lib.hid own
  have B2 := Lib.hid hb
  clear own hb H
  by_cases h0 : readE bs = 0
  · have e0 : (readE bs == 0) = true := by rw [beq_iff_eq]; exact h0
    by_cases h1 : readN bs = n
    · have SEQ : Hid (recB bs = true) := Lib.hid (by unfold recB; rw [decide_eq_true h0, decide_eq_true (by rw [HL.out]; exact h1)]; rfl)
      have e1 : (((readN bs : Nat) : Int) == ((n : Nat) : Int)) = true := by rw [beq_iff_eq]; omega
      clear h0 h1
      go_wp2_with fail
      go_ret2
      exact ⟨v, by rw [SEQ.out]; rfl, O2.out, B2.out⟩
    · have SEQ : Hid (recB bs = false) := Lib.hid (by unfold recB; rw [decide_eq_false (p := readN bs = bs.length) (by rw [HL.out]; exact h1), Bool.and_false])
      have e1 : (((readN bs : Nat) : Int) == ((n : Nat) : Int)) = false := by rw [beq_eq_false_iff_ne]; omega
      clear h0 h1
      go_wp2_with fail
      go_ret2
      exact ⟨v, by rw [SEQ.out]; rfl, O2.out, B2.out⟩
  · have e0 : (readE bs == 0) = false := by rw [beq_eq_false_iff_ne]; exact h0
    have SEQ : Hid (recB bs = false) := Lib.hid (by unfold recB; rw [decide_eq_false h0]; rfl)
    clear h0
    go_wp2_with fail
    go_ret2
    exact ⟨v, by rw [SEQ.out]; rfl, O2.out, B2.out⟩
end Go.Proofs.Ytdmpimgbnhgiaaa
