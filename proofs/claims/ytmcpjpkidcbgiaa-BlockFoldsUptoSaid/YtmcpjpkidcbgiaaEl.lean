/- Walks: the document's numbers, written; what two keys share. -/
import Derived.Test.YtmcpjpkidcbgiaaEk
import Derived.Lib.AppendStr
namespace Go.Proofs.Ytmcpjpkidcbgiaa
open Go.RowKit Go.St Go.Maps
set_option linter.unusedVariables false
set_option linter.unusedSimpArgs false
set_option maxRecDepth 100000

/-- append(b, s...) of a string. -/
theorem wp_appS {P : Program} {t u e : TypeId} (E : STy P t e 1 1 (.int .u8 0)) (hu : P.underlying u = some .string) {w : World} {o : Oper} {a : Act} {K : Act → World → Prop} {Q : Exit → Act → World → Prop} (s x : Operand)
    (ho : o.op = .call { callee := .builtin .append, args := #[s, x], argTypes := #[t, u] })
    (base : Nat) {v : Value} {n : Nat} {xs : List Value} (hown : w.ownsRow base e 1 v n xs) (hs : a.eval s = v) (k : ByteArray) (hx : a.eval x = .string k)
    (h63 : n + k.size ≤ maxLen) (hbytes : n + k.size ≤ 140737488355328) (hbase : base ≤ w.heap.size)
    (h : ∀ v' w', w'.ownsRow base e 1 v' (n + k.size) (xs ++ bv k.data.toList) → w.grownBy w' v.ownBlock → K (a.put o.dst v') w') :
    o.wp P a w K Q := by
  obtain ⟨i, hi, hz, hsz, hb⟩ := E.hi
  obtain ⟨v', w', hrun, h2, h3, h4⟩ := Lib.run_append_own_string (P := P) w base t u o.type e i E.ht hu hi hz hsz hb v n xs hown k h63 hbytes hbase
  unfold Oper.wp execOp
  simp only [ho, resolve, invoke, builtin, Sem.run_bind, Sem.run_pure, Result.andThen_ok, List.map_toArray, List.map_cons, List.map_nil, hs, hx, hrun]
  exact h v' w' h2 h3
theorem wpList_appS {P : Program} {t u e : TypeId} (E : STy P t e 1 1 (.int .u8 0)) (hu : P.underlying u = some .string) {w : World} {ops : Array Oper} {rest : List Oper} {o : Oper} {a : Act} {Q : Exit → Act → World → Prop} (s x : Operand) (hgd : o.guard = none)
    (ho : o.op = .call { callee := .builtin .append, args := #[s, x], argTypes := #[t, u] })
    (base : Nat) {v : Value} {n : Nat} {xs : List Value} (hown : w.ownsRow base e 1 v n xs) (hs : a.eval s = v) (k : ByteArray) (hx : a.eval x = .string k)
    (h63 : n + k.size ≤ maxLen) (hbytes : n + k.size ≤ 140737488355328) (hbase : base ≤ w.heap.size)
    (h : ∀ v' w', w'.ownsRow base e 1 v' (n + k.size) (xs ++ bv k.data.toList) → w.grownBy w' v.ownBlock → wpList P ops Q rest (a.put o.dst v') w') :
    wpList P ops Q (o :: rest) a w :=
  wpList_plain hgd fun _ hK => wp_appS E hu s x ho base hown hs k hx h63 hbytes hbase fun v' w' h2 h3 => hK _ _ (h v' w' h2 h3)

set_option maxHeartbeats 1600000 in
theorem rbytes_any (x : Nat) : ∀ (w : World), x < 18446744073709551616 →
    Calls Try.prog 42 #[.int .u64 (x : Int)] w fun e w' => ∃ v, e = .returned v ∧ w'.ownsRow w.heap.size 5 1 v (uv x).length (bv (uv x)) ∧ Below w.heap.size w w' := by
  induction x using Nat.strongRecOn with
  | _ x ih =>
    intro w hx
    have HX := Lib.hid hx
    have IH := Lib.hid ih
    clear hx ih
    by_cases hlt : x < 128
    · have i1 : (x : Int) < 128 := by omega
      have e1 : (x : Int) % 256 = (x : Int) := by omega
      have HU := Lib.hid (uv_lt hlt)
      have HBT := Lib.hid (bt_last hlt)
      go_enter Try.func42, Try.ntmps42
      go_wp2_with fail
      go_ret
      exact ⟨_, rfl, by
        rw [HU.out]
        have h := World.ownsRow_lit w (base := w.heap.size) (e := 5) (size := 1) #[.int .u8 (x : Int)] 1 (Nat.le_refl _) (by decide) rfl
        exact own_eq h rfl (by simp only [bv, List.map_cons, List.map_nil]; rw [HBT.out]), (Below.refl _ _).alloc (Nat.le_refl _) _⟩
    · have i1 : ¬ ((x : Int) < 128) := by omega
      have HU := Lib.hid (uv_ge hlt)
      have HLE := Lib.hid (uv_len10 HX.out)
      have HBT := Lib.hid (bt_more x)
      have HIH : Hid (∀ W, Calls Try.prog 42 #[.int .u64 ((x : Int) / 128)] W fun e w' => ∃ v, e = .returned v ∧ w'.ownsRow W.heap.size 5 1 v (uv (x / 128)).length (bv (uv (x / 128))) ∧ Below W.heap.size W w') := Lib.hid (fun W => by
        have h := IH.out (x / 128) (by omega) W (by have := HX.out; omega)
        rwa [show ((x / 128 : Nat) : Int) = (x : Int) / 128 by omega] at h)
      clear IH
      generalize uv (x / 128) = U2 at *
      generalize uv x = U at *
      generalize UInt8.ofNat (x % 128 + 128) = b0 at *
      have hx := HX.out
      go_enter Try.func42, Try.ntmps42
      go_wp2_with fail
      refine (HIH.out _).mono ?_
      rintro e w3 ⟨v3, rfl, own3, hb3⟩
      obtain ⟨A3, c3, rfl, -, r3⟩ := own_sl own3
      have O2 := Lib.hid (own_keep (World.ownsRow_lit w (base := w.heap.size) (e := 5) (size := 1) #[.int .u8 ((x : Int) % 128 + 128)] 1 (Nat.le_refl _) (by decide) rfl) hb3 (Nat.le_refl _))
      have B3 : Hid (Below w.heap.size w w3) := Lib.hid (((Below.refl _ _).alloc (Nat.le_refl _) _).trans (hb3.mono (by simp)))
      have R3 := Lib.hid r3
      have HLU : (U2).length ≤ 10 := by have h := HLE.out; rw [HU.out, List.length_cons] at h; omega
      clear own3 hb3 r3
      go_wp2_with (at_builtin; refine wpList_app styB (.tmp 12) (.tmp 15) rfl rfl w.heap.size O2.out rfl (U2).length c3 R3.out rfl (by rw [bv_length]; omega) (bv_one _) (by unfold maxLen; omega) (by omega) B3.out.size ?_; intro v5 w5 own5 gr5 nil5 at5)
      have B5 := Lib.hid (B3.out.grown gr5 B3.out.size (fun g e => (O2.out.lt g e).1))
      have hlu : U.length = 1 + U2.length := by rw [HU.out, List.length_cons]; omega
      have hbu : bv U = [Value.int .u8 ((x : Int) % 128 + 128)] ++ bv U2 := by
        have h := HBT.out
        rw [show ((x % 128 + 128 : Nat) : Int) = (x : Int) % 128 + 128 by omega] at h
        rw [HU.out, ← h]
        rfl
      have O5 := Lib.hid own5
      clear own5 gr5 nil5 at5 O2 B3 R3
      rw [hlu, hbu]
      clear hlu hbu
      go_ret
      exact ⟨v5, rfl, O5.out, B5.out⟩

set_option maxHeartbeats 1600000 in
theorem rappU_any (A : Option Addr) (n c B : Nat) (bs : List UInt8) (hl : bs.length = n) (hn : n ≤ 100000000) (x : Nat) (hx : x < 18446744073709551616) (w : World) (hr : Rd w B A (bv bs)) (hB : B ≤ w.heap.size) :
    Calls Try.prog 44 #[.slice A n c, .int .u64 (x : Int)] w fun e w' => ∃ v, e = .returned v ∧ w'.ownsRow w.heap.size 5 1 v (n + (uv x).length) (bv (bs ++ uv x)) ∧ Below w.heap.size w w' := by
  have HL := Lib.hid hl; clear hl
  have HR := Lib.hid hr; clear hr
  have HLE := Lib.hid (uv_len10 hx)
  have HBY := Lib.hid (fun W => rbytes_any x W hx)
  clear hx
  generalize uv x = U at *
  go_enter Try.func44, Try.ntmps44
  go_wp2_with (at_builtin; refine wpList_app styB (.tmp 5) (.tmp 6) rfl rfl w.heap.size (World.ownsRow_lit w #[] 0 (Nat.le_refl _) (by decide) rfl) rfl n c (HR.out.alloc hB _) rfl (by rw [bv_length, HL.out]; omega) (bv_one _) (by unfold maxLen; omega) (by omega) (by simp) ?_; intro v1 w1 own1 gr1 nil1 at1)
  have B1 : Hid (Below w.heap.size w w1) := Lib.hid (((Below.refl _ _).alloc (Nat.le_refl _) _).grown gr1 (by simp) (by simp [Value.ownBlock]))
  have O1 : Hid (w1.ownsRow w.heap.size 5 1 v1 n (bv bs)) := Lib.hid (own_eq own1 (by omega) (by simp))
  clear own1 gr1 nil1 at1
  refine (HBY.out _).mono ?_
  rintro e w3 ⟨v3, rfl, own3, hb3⟩
  obtain ⟨A3, c3, rfl, -, r3⟩ := own_sl own3
  have O3 := Lib.hid (own_keep O1.out hb3 (Nat.le_refl _))
  have B3 := Lib.hid (B1.out.trans (hb3.mono B1.out.size))
  have R3 := Lib.hid r3
  have HLU := HLE.out
  clear own3 hb3 r3 O1 B1
  go_wp2_with (at_builtin; refine wpList_app styB (.tmp 7) (.tmp 9) rfl rfl w.heap.size O3.out rfl U.length c3 R3.out rfl (by rw [bv_length]; omega) (bv_one _) (by unfold maxLen; omega) (by omega) B3.out.size ?_; intro v5 w5 own5 gr5 nil5 at5)
  have B5 := Lib.hid (B3.out.grown gr5 B3.out.size (fun g e => (O3.out.lt g e).1))
  go_ret
  exact ⟨_, rfl, own_eq own5 rfl (by rw [bv_append]), B5.out⟩

/-- How many first bytes two keys share. -/
def shrL : List UInt8 → List UInt8 → Nat
  | a :: r, b :: s => if a = b then shrL r s + 1 else 0
  | _, _ => 0
theorem shrL_le : ∀ (a b : List UInt8), shrL a b ≤ a.length ∧ shrL a b ≤ b.length
  | [], _ => by simp [shrL]
  | _ :: _, [] => by simp [shrL]
  | a :: r, b :: s => by
    rw [shrL]
    have := shrL_le r s
    split <;> simp only [List.length_cons] <;> omega
theorem shrL_take : ∀ (a b : List UInt8), a.take (shrL a b) = b.take (shrL a b)
  | [], _ => by simp [shrL]
  | _ :: _, [] => by simp [shrL]
  | a :: r, b :: s => by
    rw [shrL]
    split
    · rename_i h
      subst h
      rw [List.take_succ_cons, List.take_succ_cons, shrL_take r s]
    · simp
theorem shr_step {a b : List UInt8} {k : Nat} (ha : k < a.length) (hb : k < b.length) : shrL (a.drop k) (b.drop k) = if a[k] = b[k] then shrL (a.drop (k + 1)) (b.drop (k + 1)) + 1 else 0 := by
  rw [List.drop_eq_getElem_cons ha, List.drop_eq_getElem_cons hb, shrL]
theorem shr_end {a b : List UInt8} {k : Nat} (h : a.length ≤ k ∨ b.length ≤ k) : shrL (a.drop k) (b.drop k) = 0 := by
  rcases h with h | h
  · rw [List.drop_eq_nil_of_le h]
    simp [shrL]
  · rw [List.drop_eq_nil_of_le h]
    cases a.drop k <;> simp [shrL]
theorem key_get (a : ByteArray) (k : Nat) (h : k < a.size) : a.data.toList[k]'(by simpa using h) = a[k] := rfl
set_option maxHeartbeats 1600000 in
theorem shared_any (a b : ByteArray) (ha : a.size ≤ 1000000) (hb : b.size ≤ 1000000) (w : World) : Calls Try.prog 41 #[.string a, .string b] w fun e w' => e = .returned (.int .i64 (shrL a.data.toList b.data.toList : Nat)) ∧ Below w.heap.size w w' := by
  obtain ⟨S, hS⟩ : ∃ S, S = shrL a.data.toList b.data.toList := ⟨_, rfl⟩
  rw [← hS]
  have HS : Hid (S = 0 + shrL (a.data.toList.drop 0) (b.data.toList.drop 0)) := Lib.hid (by rw [hS]; simp)
  clear hS
  have HLA : Hid (a.data.toList.length = a.size) := Lib.hid Array.length_toList
  have HLB : Hid (b.data.toList.length = b.size) := Lib.hid Array.length_toList
  go_enter Try.func41, Try.ntmps41
  go_wp2_with fail
  go_loopw [5] (fun s5 wr => ∃ k : Nat, s5 = .int .i64 (k : Int) ∧ k ≤ a.size ∧ k ≤ b.size ∧ Hid (S = k + shrL (a.data.toList.drop k) (b.data.toList.drop k)) ∧ Hid (Below w.heap.size w wr)) (fun s5 _ => a.size - (intOf s5).toNat)
  case atStart => exact ⟨0, rfl, Nat.zero_le _, Nat.zero_le _, HS, Lib.hid (Below.refl _ _)⟩
  case round =>
    clear HS
    obtain ⟨k, rfl, hka, hkb, HQ, B1⟩ := hrel
    obtain ⟨w2, rfl⟩ : ∃ x, x = wr := ⟨_, rfl⟩
    have k0 : (0 : Int) ≤ (k : Int) := by omega
    by_cases h1 : k < a.size
    case neg =>
      have i1 : ¬ ((k : Int) < (a.size : Int)) := by omega
      have i2 : decide ((k : Int) < (a.size : Int)) = false := decide_eq_false i1
      have i3 : decide (k < a.size) = false := decide_eq_false h1
      have SEQ : Hid (S = k) := Lib.hid (by rw [HQ.out, shr_end (.inl (by rw [HLA.out]; omega))]; rfl)
      clear HQ h1
      go_wp2_with fail
      refine wp_qall (by kernel_rfl) (by kernel_rfl) ?_
      intro hcg
      repeat (first | go_big_quiet_step (fail) | quiet_step (fail))
      refine wpQuiet_nil ?_
      intro wq hbwq hcwq hfwq
      clear hcg
      have B9 := Lib.hid (B1.out.trans (hbwq.mono B1.out.size))
      clear hbwq hcwq hfwq
      go_wp2_with fail
      go_ret
      exact ⟨ret_int (by rw [SEQ.out]), B9.out⟩
    have i1 : (k : Int) < (a.size : Int) := by omega
    have i2 : decide ((k : Int) < (a.size : Int)) = true := decide_eq_true i1
    have i3 : decide (k < a.size) = true := decide_eq_true h1
    by_cases h2 : k < b.size
    case neg =>
      have j1 : ¬ ((k : Int) < (b.size : Int)) := by omega
      have j2 : decide ((k : Int) < (b.size : Int)) = false := decide_eq_false j1
      have j3 : decide (k < b.size) = false := decide_eq_false h2
      have SEQ : Hid (S = k) := Lib.hid (by rw [HQ.out, shr_end (.inr (by rw [HLB.out]; omega))]; rfl)
      clear HQ h2
      go_wp2_with fail
      refine wp_qall (by kernel_rfl) (by kernel_rfl) ?_
      intro hcg
      repeat (first | go_big_quiet_step (fail) | quiet_step (fail))
      refine wpQuiet_nil ?_
      intro wq hbwq hcwq hfwq
      clear hcg
      have B9 := Lib.hid (B1.out.trans (hbwq.mono B1.out.size))
      clear hbwq hcwq hfwq
      go_wp2_with fail
      go_ret
      exact ⟨ret_int (by rw [SEQ.out]), B9.out⟩
    have j1 : (k : Int) < (b.size : Int) := by omega
    have j2 : decide ((k : Int) < (b.size : Int)) = true := decide_eq_true j1
    have j3 : decide (k < b.size) = true := decide_eq_true h2
    have HST := Lib.hid (shr_step (a := a.data.toList) (b := b.data.toList) (k := k) (by rw [HLA.out]; exact h1) (by rw [HLB.out]; exact h2))
    by_cases hq : a[k] = b[k]
    · have e1 : (((a[k]).toNat : Int) == ((b[k]).toNat : Int)) = true := by rw [hq]; simp
      have HQ9 : Hid (S = (k + 1) + shrL (a.data.toList.drop (k + 1)) (b.data.toList.drop (k + 1))) := Lib.hid (by rw [HQ.out, HST.out, if_pos (by rw [key_get a k h1, key_get b k h2]; exact hq)]; omega)
      clear HQ hq HST
      go_wp2_with fail
      refine wp_qall (by kernel_rfl) (by kernel_rfl) ?_
      intro hcg
      repeat (first | go_big_quiet_step (fail) | quiet_step (fail))
      refine wpQuiet_nil ?_
      intro wq hbwq hcwq hfwq
      clear hcg
      have B9 := Lib.hid (B1.out.trans (hbwq.mono B1.out.size))
      clear hbwq hcwq hfwq
      go_wp2_with fail
      go_roundw
      case rel => exact ⟨k + 1, by go_num, by omega, by omega, HQ9, B9⟩
      case measure => simp [intOf]; omega
    · have e1 : (((a[k]).toNat : Int) == ((b[k]).toNat : Int)) = false := by
        rw [beq_eq_false_iff_ne]
        intro e
        exact hq (UInt8.toNat_inj.1 (by omega))
      have SEQ : Hid (S = k) := Lib.hid (by rw [HQ.out, HST.out, if_neg (by rw [key_get a k h1, key_get b k h2]; exact hq)]; rfl)
      clear HQ hq HST
      go_wp2_with fail
      refine wp_qall (by kernel_rfl) (by kernel_rfl) ?_
      intro hcg
      repeat (first | go_big_quiet_step (fail) | quiet_step (fail))
      refine wpQuiet_nil ?_
      intro wq hbwq hcwq hfwq
      clear hcg
      have B9 := Lib.hid (B1.out.trans (hbwq.mono B1.out.size))
      clear hbwq hcwq hfwq
      go_wp2_with fail
      go_ret
      exact ⟨ret_int (by rw [SEQ.out]), B9.out⟩
set_option maxHeartbeats 1600000 in
theorem rshared_any (a b : ByteArray) (ha : a.size ≤ 1000000) (hb : b.size ≤ 1000000) (w : World) : Calls Try.prog 43 #[.string a, .string b] w fun e w' => e = .returned (.int .i64 (shrL a.data.toList b.data.toList : Nat)) ∧ Below w.heap.size w w' := by
  obtain ⟨S, hS⟩ : ∃ S, S = shrL a.data.toList b.data.toList := ⟨_, rfl⟩
  rw [← hS]
  have HS : Hid (S = 0 + shrL (a.data.toList.drop 0) (b.data.toList.drop 0)) := Lib.hid (by rw [hS]; simp)
  clear hS
  have HLA : Hid (a.data.toList.length = a.size) := Lib.hid Array.length_toList
  have HLB : Hid (b.data.toList.length = b.size) := Lib.hid Array.length_toList
  go_enter Try.func43, Try.ntmps43
  go_wp2_with fail
  go_loopw [5] (fun s5 wr => ∃ k : Nat, s5 = .int .i64 (k : Int) ∧ k ≤ a.size ∧ k ≤ b.size ∧ Hid (S = k + shrL (a.data.toList.drop k) (b.data.toList.drop k)) ∧ Hid (Below w.heap.size w wr)) (fun s5 _ => a.size - (intOf s5).toNat)
  case atStart => exact ⟨0, rfl, Nat.zero_le _, Nat.zero_le _, HS, Lib.hid (Below.refl _ _)⟩
  case round =>
    clear HS
    obtain ⟨k, rfl, hka, hkb, HQ, B1⟩ := hrel
    obtain ⟨w2, rfl⟩ : ∃ x, x = wr := ⟨_, rfl⟩
    have k0 : (0 : Int) ≤ (k : Int) := by omega
    by_cases h1 : k < a.size
    case neg =>
      have i1 : ¬ ((k : Int) < (a.size : Int)) := by omega
      have i2 : decide ((k : Int) < (a.size : Int)) = false := decide_eq_false i1
      have i3 : decide (k < a.size) = false := decide_eq_false h1
      have SEQ : Hid (S = k) := Lib.hid (by rw [HQ.out, shr_end (.inl (by rw [HLA.out]; omega))]; rfl)
      clear HQ h1
      go_wp2_with fail
      refine wp_qall (by kernel_rfl) (by kernel_rfl) ?_
      intro hcg
      repeat (first | go_big_quiet_step (fail) | quiet_step (fail))
      refine wpQuiet_nil ?_
      intro wq hbwq hcwq hfwq
      clear hcg
      have B9 := Lib.hid (B1.out.trans (hbwq.mono B1.out.size))
      clear hbwq hcwq hfwq
      go_wp2_with fail
      go_ret
      exact ⟨ret_int (by rw [SEQ.out]), B9.out⟩
    have i1 : (k : Int) < (a.size : Int) := by omega
    have i2 : decide ((k : Int) < (a.size : Int)) = true := decide_eq_true i1
    have i3 : decide (k < a.size) = true := decide_eq_true h1
    by_cases h2 : k < b.size
    case neg =>
      have j1 : ¬ ((k : Int) < (b.size : Int)) := by omega
      have j2 : decide ((k : Int) < (b.size : Int)) = false := decide_eq_false j1
      have j3 : decide (k < b.size) = false := decide_eq_false h2
      have SEQ : Hid (S = k) := Lib.hid (by rw [HQ.out, shr_end (.inr (by rw [HLB.out]; omega))]; rfl)
      clear HQ h2
      go_wp2_with fail
      refine wp_qall (by kernel_rfl) (by kernel_rfl) ?_
      intro hcg
      repeat (first | go_big_quiet_step (fail) | quiet_step (fail))
      refine wpQuiet_nil ?_
      intro wq hbwq hcwq hfwq
      clear hcg
      have B9 := Lib.hid (B1.out.trans (hbwq.mono B1.out.size))
      clear hbwq hcwq hfwq
      go_wp2_with fail
      go_ret
      exact ⟨ret_int (by rw [SEQ.out]), B9.out⟩
    have j1 : (k : Int) < (b.size : Int) := by omega
    have j2 : decide ((k : Int) < (b.size : Int)) = true := decide_eq_true j1
    have j3 : decide (k < b.size) = true := decide_eq_true h2
    have HST := Lib.hid (shr_step (a := a.data.toList) (b := b.data.toList) (k := k) (by rw [HLA.out]; exact h1) (by rw [HLB.out]; exact h2))
    by_cases hq : a[k] = b[k]
    · have e1 : (((a[k]).toNat : Int) == ((b[k]).toNat : Int)) = true := by rw [hq]; simp
      have HQ9 : Hid (S = (k + 1) + shrL (a.data.toList.drop (k + 1)) (b.data.toList.drop (k + 1))) := Lib.hid (by rw [HQ.out, HST.out, if_pos (by rw [key_get a k h1, key_get b k h2]; exact hq)]; omega)
      clear HQ hq HST
      go_wp2_with fail
      refine wp_qall (by kernel_rfl) (by kernel_rfl) ?_
      intro hcg
      repeat (first | go_big_quiet_step (fail) | quiet_step (fail))
      refine wpQuiet_nil ?_
      intro wq hbwq hcwq hfwq
      clear hcg
      have B9 := Lib.hid (B1.out.trans (hbwq.mono B1.out.size))
      clear hbwq hcwq hfwq
      go_wp2_with fail
      go_roundw
      case rel => exact ⟨k + 1, by go_num, by omega, by omega, HQ9, B9⟩
      case measure => simp [intOf]; omega
    · have e1 : (((a[k]).toNat : Int) == ((b[k]).toNat : Int)) = false := by
        rw [beq_eq_false_iff_ne]
        intro e
        exact hq (UInt8.toNat_inj.1 (by omega))
      have SEQ : Hid (S = k) := Lib.hid (by rw [HQ.out, HST.out, if_neg (by rw [key_get a k h1, key_get b k h2]; exact hq)]; rfl)
      clear HQ hq HST
      go_wp2_with fail
      refine wp_qall (by kernel_rfl) (by kernel_rfl) ?_
      intro hcg
      repeat (first | go_big_quiet_step (fail) | quiet_step (fail))
      refine wpQuiet_nil ?_
      intro wq hbwq hcwq hfwq
      clear hcg
      have B9 := Lib.hid (B1.out.trans (hbwq.mono B1.out.size))
      clear hbwq hcwq hfwq
      go_wp2_with fail
      go_ret
      exact ⟨ret_int (by rw [SEQ.out]), B9.out⟩
end Go.Proofs.Ytmcpjpkidcbgiaa
