/- Walks: a call of both nets (SimnetScript's call). -/
import Derived.Test.YtlpdihcgdgkkbaaNc
import Derived.Test.YtlpdihcgdgkkbaaPick
import Derived.Test.YtlpdihcgdgkkbaaOan
namespace Go.Proofs.Ytlpdihcgdgkkbaa
open Go.RowKit Go.St
set_option linter.unusedVariables false
set_option linter.unusedSimpArgs false
set_option maxRecDepth 100000

def actS (s : Nt) (k m n : Int) (bs : List UInt8) : Nt := if k % 4 = 0 then sendS s m n bs else if k % 4 = 2 then againS s n else outS s n
theorem Nt.WF.act {s : Nt} (h : s.WF) (k m n : Int) {bs : List UInt8} (hb : bs.length ≤ 1000000) : (actS s k m n bs).WF := by
  unfold actS
  split
  · exact h.send hb
  · split
    · exact h.again n
    · exact h.out n
theorem act_last (s : Nt) (k m n : Int) (bs : List UInt8) : (actS s k m n bs).last ≤ s.last + 1 := by
  unfold actS sendS againS outS putS
  split
  · split <;> (try dsimp only) <;> omega
  · split
    · split <;> (try dsimp only) <;> omega
    · split <;> (try dsimp only) <;> omega
/-- The call's box. -/
structure ABx (W : World) (q : Nat) (k m n : Int) (A : Option Addr) (z c : Nat) : Prop where
  lt : q < W.heap.size
  c0 : W.cell? ⟨q, 0, none⟩ = some (.int .i64 k)
  c1 : W.cell? ⟨q, 1, none⟩ = some (.int .i64 m)
  c2 : W.cell? ⟨q, 2, none⟩ = some (.int .i64 n)
  c3 : W.cell? ⟨q, 3, none⟩ = some (.slice A z c)
theorem ABx.keep {W W' : World} {q : Nat} {k m n : Int} {A : Option Addr} {z c : Nat} (h : ABx W q k m n A z c) (hs : W.heap.size ≤ W'.heap.size) (hk : W'.heap[q]? = W.heap[q]?) : ABx W' q k m n A z c :=
  have hc := fun o => World.cell?_of_block (w := W) (w' := W') (a := ⟨q, o, none⟩) hk
  ⟨Nat.lt_of_lt_of_le h.lt hs, (hc 0).trans h.c0, (hc 1).trans h.c1, (hc 2).trans h.c2, (hc 3).trans h.c3⟩
theorem abx_new (W : World) (k m n : Int) (A : Option Addr) (z c : Nat) (t : TypeId) : ABx (W.alloc (.cells #[.int .i64 k, .int .i64 m, .int .i64 n, .slice A z c] t)) W.heap.size k m n A z c := by
  have hc := fun o => World.cell?_alloc_mark W #[.int .i64 k, .int .i64 m, .int .i64 n, .slice A z c] t (0, 0) o
  exact ⟨by simp, hc 0, hc 1, hc 2, hc 3⟩
/-- The walk of a call so far. -/
structure Cl (W0 : World) (base bp br : Nat) (vp0 vr0 : Value) (Fp0 Fr0 : Nat → Prop) (q : Nat) (k m n : Int) (A : Option Addr) (z c : Nat) (W : World) (vp vr : Value) (Fp Fr_ : Nat → Prop) (sp sr : Nt) : Prop where
  pr : Pr W base bp br vp vr Fp Fr_ sp sr
  be : Below base W0 W
  sf : ∀ j, Sf W0 bp br vp0 vr0 Fp0 Fr0 j → W.heap[j]? = W0.heap[j]? ∧ Sf W bp br vp vr Fp Fr_ j
  qs : Sf W bp br vp vr Fp Fr_ q
  ab : ABx W q k m n A z c
section
variable {W0 : World} {base bp br : Nat} {vp0 vr0 : Value} {Fp0 Fr0 : Nat → Prop} {q : Nat} {k m n : Int} {A : Option Addr} {z c : Nat} {W : World} {vp vr : Value} {Fp Fr_ : Nat → Prop} {sp sr : Nt}
theorem Cl.start (h : Pr W0 base bp br vp0 vr0 Fp0 Fr0 sp sr) (k m n : Int) (A : Option Addr) (z c : Nat) (t : TypeId) : Cl W0 base bp br vp0 vr0 Fp0 Fr0 W0.heap.size k m n A z c (W0.alloc (.cells #[.int .i64 k, .int .i64 m, .int .i64 n, .slice A z c] t)) vp0 vr0 Fp0 Fr0 sp sr := by
  have B1 : Below W0.heap.size W0 (W0.alloc (.cells #[.int .i64 k, .int .i64 m, .int .i64 n, .slice A z c] t)) := (Below.refl _ _).alloc (Nat.le_refl _) _
  exact ⟨h.next B1, B1.mono (by have := h.p.lt; omega), fun j hj => ⟨B1.block j hj.lt, hj.next B1⟩, h.newSf (Nat.le_refl _) (by simp), abx_new W0 k m n A z c t⟩
theorem Cl.next {W' : World} (h : Cl W0 base bp br vp0 vr0 Fp0 Fr0 q k m n A z c W vp vr Fp Fr_ sp sr) (hb : Below W.heap.size W W') : Cl W0 base bp br vp0 vr0 Fp0 Fr0 q k m n A z c W' vp vr Fp Fr_ sp sr :=
  ⟨h.pr.next hb, h.be.trans (hb.mono (by have := h.pr.p.lt; omega)), fun j hj => ⟨(hb.block j (h.sf j hj).2.lt).trans (h.sf j hj).1, (h.sf j hj).2.next hb⟩, h.qs.next hb, h.ab.keep hb.size (hb.block q h.qs.lt)⟩
theorem Cl.stepP {W' : World} {sp' : Nt} (h : Cl W0 base bp br vp0 vr0 Fp0 Fr0 q k m n A z c W vp vr Fp Fr_ sp sr) (ho : OutP base bp vp.ownBlock Fp sp' W W') :
    ∃ vp' Fp', Cl W0 base bp br vp0 vr0 Fp0 Fr0 q k m n A z c W' vp' vr Fp' Fr_ sp' sr ∧ (∀ j, Sf W bp br vp vr Fp Fr_ j → W'.heap[j]? = W.heap[j]? ∧ Sf W' bp br vp' vr Fp' Fr_ j) ∧ (∀ k, Fp k → W'.heap[k]? = W.heap[k]?) := by
  obtain ⟨vp', Fp', h1, h2, h3, h4⟩ := h.pr.stepP ho
  exact ⟨vp', Fp', ⟨h1, h.be.trans h2, fun j hj => ⟨(h3 j (h.sf j hj).2).1.trans (h.sf j hj).1, (h3 j (h.sf j hj).2).2⟩, (h3 q h.qs).2, h.ab.keep ho.1.size (h3 q h.qs).1⟩, h3, h4⟩
theorem Cl.stepR {W' : World} {sr' : Nt} (h : Cl W0 base bp br vp0 vr0 Fp0 Fr0 q k m n A z c W vp vr Fp Fr_ sp sr) (ho : OutR base br vr.ownBlock Fr_ sr' W W') :
    ∃ vr' Fr', Cl W0 base bp br vp0 vr0 Fp0 Fr0 q k m n A z c W' vp vr' Fp Fr' sp sr' ∧ (∀ j, Sf W bp br vp vr Fp Fr_ j → W'.heap[j]? = W.heap[j]? ∧ Sf W' bp br vp vr' Fp Fr' j) ∧ (∀ k, Fp k → W'.heap[k]? = W.heap[k]?) := by
  obtain ⟨vr', Fr', h1, h2, h3, h4⟩ := h.pr.stepR ho
  exact ⟨vr', Fr', ⟨h1, h.be.trans h2, fun j hj => ⟨(h3 j (h.sf j hj).2).1.trans (h.sf j hj).1, (h3 j (h.sf j hj).2).2⟩, (h3 q h.qs).2, h.ab.keep ho.1.size (h3 q h.qs).1⟩, h3, h4⟩
end
/-- Letters below the nets' memory. -/
theorem ltB_below {W : World} {B base b : Nat} {x : Ltr} (hl : x.k.bs.length = x.n) (hn : x.n ≤ 1000000) (hr : Rd W B x.A (bv x.k.bs)) (hB : B ≤ base) (hb : base ≤ b) (hbW : b < W.heap.size) : LtB W (fun k => k ≠ b) x :=
  ⟨hl, hn, fun hne => by
    obtain ⟨k, o, e, h3, h4⟩ := hr (by simpa [bv] using hne)
    exact ⟨k, o, e, by omega, by omega, h4⟩⟩
/-- What a call of both leaves. -/
def CallO (base bp br : Nat) (vp vr : Value) (Fp Fr_ : Nat → Prop) (s : Nt) (W w' : World) : Prop :=
  ∃ vp' vr' Fp' Fr', Pr w' base bp br vp' vr' Fp' Fr' s s ∧ Below base W w' ∧ ∀ j, Sf W bp br vp vr Fp Fr_ j → w'.heap[j]? = W.heap[j]? ∧ Sf w' bp br vp' vr' Fp' Fr' j
theorem Cl.out {W0 : World} {base bp br : Nat} {vp0 vr0 : Value} {Fp0 Fr0 : Nat → Prop} {q : Nat} {k m n : Int} {A : Option Addr} {z c : Nat} {W : World} {vp vr : Value} {Fp Fr_ : Nat → Prop} {s : Nt} (h : Cl W0 base bp br vp0 vr0 Fp0 Fr0 q k m n A z c W vp vr Fp Fr_ s s) : CallO base bp br vp0 vr0 Fp0 Fr0 s W0 W :=
  ⟨vp, vr, Fp, Fr_, h.pr, h.be, h.sf⟩
set_option maxHeartbeats 1600000 in
theorem call0_any
    {W : World} {base bp br : Nat} {vp vr : Value} {Fp Fr_ : Nat → Prop} {s : Nt} (h : Pr W base bp br vp vr Fp Fr_ s s) (hw : s.WF) (hls : s.last ≤ 4611686018427387000) (k m n : Int) (hkr : -9223372036854775808 ≤ k ∧ k ≤ 9223372036854775807) (A : Option Addr) (z c B : Nat) (bs : List UInt8) (hz : bs.length = z) (hz2 : z ≤ 1000000) (hB : B ≤ base) (hx : Rd W B A (bv bs)) (A2 : Option Addr) (z2 c2 : Nat) (hx2 : LtB W (fun k => k ≠ bp) ⟨⟨0, m, n, bs⟩, A2, z2, c2⟩)
    (hk : k % 4 = 0) : Calls Try.prog 51 #[.pointer (some ⟨bp, 0, none⟩), .pointer (some ⟨br, 0, none⟩), .agg #[.int .i64 k, .int .i64 m, .int .i64 n, .slice A z c], .slice A2 z2 c2] W fun e w' => e = .returned (.bool true) ∧ CallO base bp br vp vr Fp Fr_ (sendS s m n bs) W w' := by
  go_enter Try.func51, Try.ntmps51
  go_wp2_with fail
  have C1 := Lib.hid (Cl.start h k m n A z c 61)
  have X1 := Lib.hid (hx2.keep (W' := (W.alloc (.cells #[.int .i64 k, .int .i64 m, .int .i64 n, .slice A z c] 61))) (by simp) (fun j _ hj => ((Below.refl _ _).alloc (Nat.le_refl _) _).block j hj))
  have Y1 := Lib.hid hx
  have hbW : base ≤ W.heap.size := by have := h.p.lt; omega
  clear h hx2 hx
  generalize (W.alloc (.cells #[.int .i64 k, .int .i64 m, .int .i64 n, .slice A z c] 61)) = w1 at *
  generalize hq : W.heap.size = q at *
  obtain ⟨al, a0, a1, a2, a3⟩ := C1.out.ab
  refine (pick_any k 4 (by omega) (by omega) hkr w1).mono ?_
  rintro e w' ⟨rfl, rfl⟩
  rw [hk]
  go_wp2_with fail
  refine (ssend_any C1.out.pr.p hw (by omega) m n A2 z2 c2 bs X1.out).mono ?_
  rintro e w2 ⟨rfl, ho⟩
  obtain ⟨vp2, Fp2, hC2, -, -⟩ := C1.out.stepP ho
  have C2 := Lib.hid hC2
  obtain ⟨al, a0, a1, a2, a3⟩ := hC2.ab
  clear ho hC2 C1 X1 hq
  go_wp2_with fail
  have hbl := C2.out.pr.r.lt
  refine (rsend_any C2.out.pr.r hw (by omega) m n A z c bs (ltB_below (x := ⟨⟨0, m, n, bs⟩, A, z, c⟩) hz hz2 (Y1.out.below (C2.out.be.mono hB)) hB hbl.1 hbl.2)).mono ?_
  rintro e w3 ⟨rfl, ho⟩
  obtain ⟨vr3, Fr3, hC3, -, -⟩ := C2.out.stepR ho
  have C3 := Lib.hid hC3
  clear ho hC3 C2 Y1 hbl al a0 a1 a2 a3
  go_wp2_with fail
  go_ret
  exact ⟨ret_bool (by simp), C3.out.out⟩
set_option maxHeartbeats 1600000 in
theorem call2_any
    {W : World} {base bp br : Nat} {vp vr : Value} {Fp Fr_ : Nat → Prop} {s : Nt} (h : Pr W base bp br vp vr Fp Fr_ s s) (hw : s.WF) (hls : s.last ≤ 4611686018427387000) (k m n : Int) (hkr : -9223372036854775808 ≤ k ∧ k ≤ 9223372036854775807) (A : Option Addr) (z c B : Nat) (bs : List UInt8) (hz : bs.length = z) (hz2 : z ≤ 1000000) (hB : B ≤ base) (hx : Rd W B A (bv bs)) (A2 : Option Addr) (z2 c2 : Nat) (hx2 : LtB W (fun k => k ≠ bp) ⟨⟨0, m, n, bs⟩, A2, z2, c2⟩)
    (hk : k % 4 = 2) : Calls Try.prog 51 #[.pointer (some ⟨bp, 0, none⟩), .pointer (some ⟨br, 0, none⟩), .agg #[.int .i64 k, .int .i64 m, .int .i64 n, .slice A z c], .slice A2 z2 c2] W fun e w' => e = .returned (.bool true) ∧ CallO base bp br vp vr Fp Fr_ (againS s n) W w' := by
  go_enter Try.func51, Try.ntmps51
  go_wp2_with fail
  have C1 := Lib.hid (Cl.start h k m n A z c 61)
  have X1 := Lib.hid (hx2.keep (W' := (W.alloc (.cells #[.int .i64 k, .int .i64 m, .int .i64 n, .slice A z c] 61))) (by simp) (fun j _ hj => ((Below.refl _ _).alloc (Nat.le_refl _) _).block j hj))
  have Y1 := Lib.hid hx
  have hbW : base ≤ W.heap.size := by have := h.p.lt; omega
  clear h hx2 hx
  generalize (W.alloc (.cells #[.int .i64 k, .int .i64 m, .int .i64 n, .slice A z c] 61)) = w1 at *
  generalize hq : W.heap.size = q at *
  obtain ⟨al, a0, a1, a2, a3⟩ := C1.out.ab
  refine (pick_any k 4 (by omega) (by omega) hkr w1).mono ?_
  rintro e w' ⟨rfl, rfl⟩
  rw [hk]
  go_wp2_with fail
  refine (stwice_any C1.out.pr.p hw (by omega) n).mono ?_
  rintro e w2 ⟨rfl, ho⟩
  obtain ⟨vp2, Fp2, hC2, -, -⟩ := C1.out.stepP ho
  have C2 := Lib.hid hC2
  obtain ⟨al, a0, a1, a2, a3⟩ := hC2.ab
  clear ho hC2 C1 X1 hq
  go_wp2_with fail
  have hbl := C2.out.pr.r.lt
  refine (rtwice_any C2.out.pr.r hw (by omega) n).mono ?_
  rintro e w3 ⟨rfl, ho⟩
  obtain ⟨vr3, Fr3, hC3, -, -⟩ := C2.out.stepR ho
  have C3 := Lib.hid hC3
  clear ho hC3 C2 Y1 hbl al a0 a1 a2 a3
  go_wp2_with fail
  go_ret
  exact ⟨ret_bool (by simp), C3.out.out⟩
set_option maxHeartbeats 1600000 in
theorem call3_any
    {W : World} {base bp br : Nat} {vp vr : Value} {Fp Fr_ : Nat → Prop} {s : Nt} (h : Pr W base bp br vp vr Fp Fr_ s s) (hw : s.WF) (hls : s.last ≤ 4611686018427387000) (k m n : Int) (hkr : -9223372036854775808 ≤ k ∧ k ≤ 9223372036854775807) (A : Option Addr) (z c B : Nat) (bs : List UInt8) (hz : bs.length = z) (hz2 : z ≤ 1000000) (hB : B ≤ base) (hx : Rd W B A (bv bs)) (A2 : Option Addr) (z2 c2 : Nat) (hx2 : LtB W (fun k => k ≠ bp) ⟨⟨0, m, n, bs⟩, A2, z2, c2⟩)
    (hk : k % 4 = 3) : Calls Try.prog 51 #[.pointer (some ⟨bp, 0, none⟩), .pointer (some ⟨br, 0, none⟩), .agg #[.int .i64 k, .int .i64 m, .int .i64 n, .slice A z c], .slice A2 z2 c2] W fun e w' => e = .returned (.bool true) ∧ CallO base bp br vp vr Fp Fr_ (outS s n) W w' := by
  go_enter Try.func51, Try.ntmps51
  go_wp2_with fail
  have C1 := Lib.hid (Cl.start h k m n A z c 61)
  have X1 := Lib.hid (hx2.keep (W' := (W.alloc (.cells #[.int .i64 k, .int .i64 m, .int .i64 n, .slice A z c] 61))) (by simp) (fun j _ hj => ((Below.refl _ _).alloc (Nat.le_refl _) _).block j hj))
  have Y1 := Lib.hid hx
  have hbW : base ≤ W.heap.size := by have := h.p.lt; omega
  clear h hx2 hx
  generalize (W.alloc (.cells #[.int .i64 k, .int .i64 m, .int .i64 n, .slice A z c] 61)) = w1 at *
  generalize hq : W.heap.size = q at *
  obtain ⟨al, a0, a1, a2, a3⟩ := C1.out.ab
  refine (pick_any k 4 (by omega) (by omega) hkr w1).mono ?_
  rintro e w' ⟨rfl, rfl⟩
  rw [hk]
  go_wp2_with fail
  refine wp_heldall (S := fun X => X.cell? ⟨q, 2, none⟩ = some (.int .i64 n)) 10 (by kernel_rfl) rfl a2 (fun hHeld => ?_)
  refine takeL (i := 0) (v := ?_) rfl (by kernel_rfl) (by kernel_rfl) (by kernel_rfl) (fun _ _ _ h => h) ⟨by rfl, ?_⟩ (by first | assumption | trivial) ?_
  rotate_left
  · intro W9 hSw
    (try dsimp only at hSw)
    go_simp
    try with_reducible rfl
  (try simp only [Act.put, List.setIfInBounds_toArray, List.set_cons_zero, List.set_cons_succ])
  refine takeL (i := 1) (v := ?_) rfl (by kernel_rfl) (by kernel_rfl) (by kernel_rfl) (fun _ _ _ h => h) ⟨by rfl, ?_⟩ (by first | assumption | trivial) ?_
  rotate_left
  · intro W9 hSw
    (try dsimp only at hSw)
    go_simp
    try with_reducible rfl
  (try simp only [Act.put, List.setIfInBounds_toArray, List.set_cons_zero, List.set_cons_succ])
  refine takeL (i := 2) (v := ?_) rfl (by kernel_rfl) (by kernel_rfl) (by kernel_rfl) (fun _ _ _ h => h) ⟨by rfl, ?_⟩ (by first | assumption | trivial) ?_
  rotate_left
  · intro W9 hSw
    (try dsimp only at hSw)
    go_simp
    try with_reducible rfl
  (try simp only [Act.put, List.setIfInBounds_toArray, List.set_cons_zero, List.set_cons_succ])
  refine takeL (i := 4) (v := ?_) rfl (by kernel_rfl) (by kernel_rfl) (by kernel_rfl) (fun _ _ _ h => h) ⟨by rfl, ?_⟩ (by first | assumption | trivial) ?_
  rotate_left
  · intro W9 hSw
    (try dsimp only at hSw)
    go_simp
    try with_reducible rfl
  (try simp only [Act.put, List.setIfInBounds_toArray, List.set_cons_zero, List.set_cons_succ])
  refine takeL (i := 5) (v := ?_) rfl (by kernel_rfl) (by kernel_rfl) (by kernel_rfl) (fun _ _ _ h => h) ⟨by rfl, ?_⟩ (by first | assumption | trivial) ?_
  rotate_left
  · intro W9 hSw
    (try dsimp only at hSw)
    go_simp
    try with_reducible rfl
  (try simp only [Act.put, List.setIfInBounds_toArray, List.set_cons_zero, List.set_cons_succ])
  refine takeL (i := 6) (v := ?_) rfl (by kernel_rfl) (by kernel_rfl) (by kernel_rfl) (fun _ _ _ h => h) ⟨by rfl, ?_⟩ (by first | assumption | trivial) ?_
  rotate_left
  · intro W9 hSw
    (try dsimp only at hSw)
    go_simp
    try with_reducible rfl
  (try simp only [Act.put, List.setIfInBounds_toArray, List.set_cons_zero, List.set_cons_succ])
  have C1d := Lib.hid (C1.out.next (Below.drew (Below.refl _ _)))
  generalize w1.drew = X at *
  clear C1 al a0 a1 a2 a3
  refine wpAnyH_ready (rs := [3]) (by kernel_rfl) (by simp) ?_
  refine consL rfl (by rfl) (fun K hK => ?_) ?_
  · go_simp
    go_at_call 38
    refine (sdrop_any C1d.out.pr.p hw n).mono ?_
    rintro e w2 ⟨rfl, ho⟩
    obtain ⟨vp2, Fp2, hC2, -, -⟩ := C1d.out.stepP ho
    have C2 := Lib.hid hC2
    refine hK.out _ _ hC2.ab.c2 (fun _ => ?_)
    clear hK K ho hC2 C1d
    (try simp only [Act.put, List.setIfInBounds_toArray, List.set_cons_zero, List.set_cons_succ])
    refine wpAnyH_ready (rs := [7]) (by kernel_rfl) (by simp) ?_
    refine consL rfl (by rfl) (fun K hK => ?_) ?_
    · go_simp
      go_at_call 82
      refine (rdrop_any C2.out.pr.r n).mono ?_
      rintro e w3 ⟨rfl, ho⟩
      obtain ⟨vr3, Fr3, hC3, -, -⟩ := C2.out.stepR ho
      have C3 := Lib.hid hC3
      refine hK.out _ _ hC3.ab.c2 (fun hS3 => ?_)
      clear hK K ho hC3 C2
      (try simp only [Act.put, List.setIfInBounds_toArray, List.set_cons_zero, List.set_cons_succ])
      refine takeL (i := 8) (v := ?_) rfl (by kernel_rfl) (by kernel_rfl) (by kernel_rfl) (fun _ _ _ h => h) ⟨by rfl, ?_⟩ (by first | assumption | trivial) ?_
      rotate_left
      · intro W9 hSw
        (try dsimp only at hSw)
        go_simp
        try with_reducible rfl
      (try simp only [Act.put, List.setIfInBounds_toArray, List.set_cons_zero, List.set_cons_succ])
      refine takeL (i := 9) (v := ?_) rfl (by kernel_rfl) (by kernel_rfl) (by kernel_rfl) (fun _ _ _ h => h) ⟨by rfl, ?_⟩ (by first | assumption | trivial) ?_
      rotate_left
      · intro W9 hSw
        (try dsimp only at hSw)
        go_simp
        try with_reducible rfl
      (try simp only [Act.put, List.setIfInBounds_toArray, List.set_cons_zero, List.set_cons_succ])
      refine wpAnyH_done (by kernel_rfl) ?_ _
      go_wp2_with fail
      go_ret
      exact ⟨ret_bool (by simp), C3.out.out⟩
    exact AllReadyH.nil
  exact AllReadyH.nil
set_option maxHeartbeats 3200000 in
theorem call1_any
    {W : World} {base bp br : Nat} {vp vr : Value} {Fp Fr_ : Nat → Prop} {s : Nt} (h : Pr W base bp br vp vr Fp Fr_ s s) (hw : s.WF) (hls : s.last ≤ 4611686018427387000) (k m n : Int) (hkr : -9223372036854775808 ≤ k ∧ k ≤ 9223372036854775807) (A : Option Addr) (z c B : Nat) (bs : List UInt8) (hz : bs.length = z) (hz2 : z ≤ 1000000) (hB : B ≤ base) (hx : Rd W B A (bv bs)) (A2 : Option Addr) (z2 c2 : Nat) (hx2 : LtB W (fun k => k ≠ bp) ⟨⟨0, m, n, bs⟩, A2, z2, c2⟩)
    (hk : k % 4 = 1) : Calls Try.prog 51 #[.pointer (some ⟨bp, 0, none⟩), .pointer (some ⟨br, 0, none⟩), .agg #[.int .i64 k, .int .i64 m, .int .i64 n, .slice A z c], .slice A2 z2 c2] W fun e w' => e = .returned (.bool true) ∧ CallO base bp br vp vr Fp Fr_ (outS s n) W w' := by
  go_enter Try.func51, Try.ntmps51
  go_wp2_with fail
  have C1 := Lib.hid (Cl.start h k m n A z c 61)
  have X1 := Lib.hid (hx2.keep (W' := (W.alloc (.cells #[.int .i64 k, .int .i64 m, .int .i64 n, .slice A z c] 61))) (by simp) (fun j _ hj => ((Below.refl _ _).alloc (Nat.le_refl _) _).block j hj))
  have Y1 := Lib.hid hx
  have hbW : base ≤ W.heap.size := by have := h.p.lt; omega
  clear h hx2 hx
  generalize (W.alloc (.cells #[.int .i64 k, .int .i64 m, .int .i64 n, .slice A z c] 61)) = w1 at *
  generalize hq : W.heap.size = q at *
  obtain ⟨al, a0, a1, a2, a3⟩ := C1.out.ab
  refine (pick_any k 4 (by omega) (by omega) hkr w1).mono ?_
  rintro e w' ⟨rfl, rfl⟩
  rw [hk]
  go_wp2_with fail
  refine (sdeliver_any C1.out.pr.p hw n).mono ?_
  rintro e w2 ⟨xl, rfl, hxk, hxb, ho⟩
  obtain ⟨vp2, Fp2, hC2, -, hF2⟩ := C1.out.stepP ho
  have C2 := Lib.hid hC2
  have XK := Lib.hid hxk
  have XB := Lib.hid hxb
  have hF : ∀ j, Fp j → j < w2.heap.size ∧ j ≠ bp ∧ j ≠ br ∧ vr.ownBlock ≠ some j := fun j hj => by
    have h1 := C1.out.pr.p.Fp hj
    have h2 := C1.out.pr.f1 j hj
    exact ⟨Nat.lt_of_lt_of_le h1.1 ho.1.size, h1.2.1, h2.1, h2.2⟩
  have HF := Lib.hid hF
  clear ho hC2 C1 X1 hq hxk hxb hF2 hF al a0 a1 a2 a3
  obtain ⟨al, a0, a1, a2, a3⟩ := C2.out.ab
  unfold ltV
  go_upto_region 8 with (fail)
  have bX : Below w2.heap.size w2 (w2.alloc (.cells #[.int .i64 xl.k.num, .int .i64 xl.k.fr, .int .i64 xl.k.to, .slice xl.A xl.n xl.c] 51)) := (Below.refl _ _).alloc (Nat.le_refl _) _
  have C3 := Lib.hid (C2.out.next bX)
  have XB3 := Lib.hid (XB.out.keep (W' := w2.alloc (.cells #[.int .i64 xl.k.num, .int .i64 xl.k.fr, .int .i64 xl.k.to, .slice xl.A xl.n xl.c] 51)) bX.size (fun j _ hj => bX.block j hj))
  have cx := fun o => World.cell?_alloc_mark w2 #[.int .i64 xl.k.num, .int .i64 xl.k.fr, .int .i64 xl.k.to, .slice xl.A xl.n xl.c] 51 (0, 0) o
  have p1 : Sf (w2.alloc (.cells #[.int .i64 xl.k.num, .int .i64 xl.k.fr, .int .i64 xl.k.to, .slice xl.A xl.n xl.c] 51)) bp br vp2 vr Fp2 Fr_ w2.heap.size := C2.out.pr.newSf (Nat.le_refl _) (by simp)
  have HF3 : Hid (∀ j, Fp j → j < w2.heap.size) := Lib.hid (fun j hj => (HF.out j hj).1)
  have x0 := cx 0; have x1 := cx 1; have x2 := cx 2; have x3 := cx 3
  simp only [List.getElem?_toArray, List.getElem?_cons_zero, List.getElem?_cons_succ] at x0 x1 x2 x3
  have P1 := Lib.hid p1
  clear bX cx C2 XB al a0 a1 a2 a3 p1
  generalize w2.alloc (.cells #[.int .i64 xl.k.num, .int .i64 xl.k.fr, .int .i64 xl.k.to, .slice xl.A xl.n xl.c] 51) = w3 at *
  generalize hp : w2.heap.size = p at *
  obtain ⟨al, a0, a1, a2, a3⟩ := C3.out.ab
  have X0 := Lib.hid x0; have X1 := Lib.hid x1; have X2 := Lib.hid x2; have X3 := Lib.hid x3
  clear x0 x1 x2 x3
  go_wp2_with fail
  refine (rdeliver_any C3.out.pr.r n).mono ?_
  rintro e w4 ⟨yl, rfl, hyk, hyb, ho⟩
  obtain ⟨vr4, Fr4, hC4, hs4, -⟩ := C3.out.stepR ho
  have hf4 := ho.1
  have C4 := Lib.hid hC4
  obtain ⟨k1, k2⟩ := hs4 p P1.out
  have P4 := Lib.hid k2
  have hc4 := fun o => World.cell?_of_block (w := w3) (w' := w4) (a := ⟨p, o, none⟩) k1
  have x0 := (hc4 0).trans X0.out; have x1 := (hc4 1).trans X1.out; have x2 := (hc4 2).trans X2.out; have x3 := (hc4 3).trans X3.out
  have XB4 := Lib.hid (XB3.out.keep (W' := w4) hf4.size (fun j hj hlt => hf4.block j hlt (HF.out j hj).2.2.1 (HF.out j hj).2.2.2))
  have YB4 := Lib.hid hyb
  have XY : Hid (xl.k = yl.k) := Lib.hid (by rw [XK.out, hyk])
  have X0 := Lib.hid x0; have X1 := Lib.hid x1; have X2 := Lib.hid x2; have X3 := Lib.hid x3
  clear ho hC4 hs4 hf4 C3 hyk hyb XB3 k1 k2 hc4 x0 x1 x2 x3 P1 al a0 a1 a2 a3
  unfold ltV
  go_upto_region 9 with (fail)
  have bY : Below w4.heap.size w4 (w4.alloc (.cells #[.int .i64 yl.k.num, .int .i64 yl.k.fr, .int .i64 yl.k.to, .slice yl.A yl.n yl.c] 51)) := (Below.refl _ _).alloc (Nat.le_refl _) _
  have C5 := Lib.hid (C4.out.next bY)
  have XB5 := Lib.hid (XB4.out.keep (W' := w4.alloc (.cells #[.int .i64 yl.k.num, .int .i64 yl.k.fr, .int .i64 yl.k.to, .slice yl.A yl.n yl.c] 51)) bY.size (fun j _ hj => bY.block j hj))
  have YB5 := Lib.hid (YB4.out.keep (W' := w4.alloc (.cells #[.int .i64 yl.k.num, .int .i64 yl.k.fr, .int .i64 yl.k.to, .slice yl.A yl.n yl.c] 51)) bY.size (fun j _ hj => bY.block j hj))
  have cy := fun o => World.cell?_alloc_mark w4 #[.int .i64 yl.k.num, .int .i64 yl.k.fr, .int .i64 yl.k.to, .slice yl.A yl.n yl.c] 51 (0, 0) o
  have y0 := cy 0; have y1 := cy 1; have y2 := cy 2; have y3 := cy 3
  simp only [List.getElem?_toArray, List.getElem?_cons_zero, List.getElem?_cons_succ] at y0 y1 y2 y3
  have x0 := (bY.cell (p := ⟨p, 0, none⟩) P4.out.lt).trans X0.out; have x1 := (bY.cell (p := ⟨p, 1, none⟩) P4.out.lt).trans X1.out; have x2 := (bY.cell (p := ⟨p, 2, none⟩) P4.out.lt).trans X2.out; have x3 := (bY.cell (p := ⟨p, 3, none⟩) P4.out.lt).trans X3.out
  have lp : p < (w4.alloc (.cells #[.int .i64 yl.k.num, .int .i64 yl.k.fr, .int .i64 yl.k.to, .slice yl.A yl.n yl.c] 51)).heap.size := Nat.lt_of_lt_of_le P4.out.lt bY.size
  have lr : w4.heap.size < (w4.alloc (.cells #[.int .i64 yl.k.num, .int .i64 yl.k.fr, .int .i64 yl.k.to, .slice yl.A yl.n yl.c] 51)).heap.size := by simp
  clear bY cy C4 XB4 YB4 X0 X1 X2 X3 P4
  generalize w4.alloc (.cells #[.int .i64 yl.k.num, .int .i64 yl.k.fr, .int .i64 yl.k.to, .slice yl.A yl.n yl.c] 51) = w5 at *
  generalize w4.heap.size = r at *
  go_wp2_with fail
  have b1 : Below w5.heap.size w5 (w5.alloc (.cells #[.int .i64 xl.k.num, .int .i64 xl.k.fr, .int .i64 xl.k.to, .slice xl.A xl.n xl.c] 51)) := (Below.refl _ _).alloc (Nat.le_refl _) _
  have b2 : Below (w5.alloc (.cells #[.int .i64 xl.k.num, .int .i64 xl.k.fr, .int .i64 xl.k.to, .slice xl.A xl.n xl.c] 51)).heap.size (w5.alloc (.cells #[.int .i64 xl.k.num, .int .i64 xl.k.fr, .int .i64 xl.k.to, .slice xl.A xl.n xl.c] 51)) ((w5.alloc (.cells #[.int .i64 xl.k.num, .int .i64 xl.k.fr, .int .i64 xl.k.to, .slice xl.A xl.n xl.c] 51)).alloc (.cells #[.int .i64 yl.k.num, .int .i64 yl.k.fr, .int .i64 yl.k.to, .slice yl.A yl.n yl.c] 51)) := (Below.refl _ _).alloc (Nat.le_refl _) _
  have r1 := rd_fr w5 #[.int .i64 xl.k.num, .int .i64 xl.k.fr, .int .i64 xl.k.to, .slice xl.A xl.n xl.c] 51 (0, 0)
  have r2 := rd_fr (w5.alloc (.cells #[.int .i64 xl.k.num, .int .i64 xl.k.fr, .int .i64 xl.k.to, .slice xl.A xl.n xl.c] 51)) #[.int .i64 yl.k.num, .int .i64 yl.k.fr, .int .i64 yl.k.to, .slice yl.A yl.n yl.c] 51 (0, 0)
  rw [show (w5.alloc (.cells #[.int .i64 xl.k.num, .int .i64 xl.k.fr, .int .i64 xl.k.to, .slice xl.A xl.n xl.c] 51)).heap.size = w5.heap.size + 1 by simp] at r2
  have b3 : Below w5.heap.size w5 ((w5.alloc (.cells #[.int .i64 xl.k.num, .int .i64 xl.k.fr, .int .i64 xl.k.to, .slice xl.A xl.n xl.c] 51)).alloc (.cells #[.int .i64 yl.k.num, .int .i64 yl.k.fr, .int .i64 yl.k.to, .slice yl.A yl.n yl.c] 51)) := b1.trans (b2.mono b1.size)
  have L1 : RdL ((w5.alloc (.cells #[.int .i64 xl.k.num, .int .i64 xl.k.fr, .int .i64 xl.k.to, .slice xl.A xl.n xl.c] 51)).alloc (.cells #[.int .i64 yl.k.num, .int .i64 yl.k.fr, .int .i64 yl.k.to, .slice yl.A yl.n yl.c] 51)) (some ⟨w5.heap.size, 0, none⟩) [xl] := ⟨by
    have := (r1.below b2).more b2.size
    simpa [lv, ltc] using this, fun a ha => by
    have e : a = xl := by simpa using ha
    rw [e]
    have := XB5.out.keep (W' := (w5.alloc (.cells #[.int .i64 xl.k.num, .int .i64 xl.k.fr, .int .i64 xl.k.to, .slice xl.A xl.n xl.c] 51)).alloc (.cells #[.int .i64 yl.k.num, .int .i64 yl.k.fr, .int .i64 yl.k.to, .slice yl.A yl.n yl.c] 51)) b3.size (fun j _ hj => b3.block j hj)
    exact ⟨this.len, this.bnd, this.read⟩⟩
  have L2 : RdL ((w5.alloc (.cells #[.int .i64 xl.k.num, .int .i64 xl.k.fr, .int .i64 xl.k.to, .slice xl.A xl.n xl.c] 51)).alloc (.cells #[.int .i64 yl.k.num, .int .i64 yl.k.fr, .int .i64 yl.k.to, .slice yl.A yl.n yl.c] 51)) (some ⟨w5.heap.size + 1, 0, none⟩) [yl] := ⟨by simpa [lv, ltc] using r2, fun a ha => by
    have e : a = yl := by simpa using ha
    rw [e]
    have := YB5.out.keep (W' := (w5.alloc (.cells #[.int .i64 xl.k.num, .int .i64 xl.k.fr, .int .i64 xl.k.to, .slice xl.A xl.n xl.c] 51)).alloc (.cells #[.int .i64 yl.k.num, .int .i64 yl.k.fr, .int .i64 yl.k.to, .slice yl.A yl.n yl.c] 51)) b3.size (fun j _ hj => b3.block j hj)
    exact ⟨this.len, this.bnd, this.read⟩⟩
  have C6 := Lib.hid (C5.out.next b3)
  refine (flights_yes (some ⟨w5.heap.size, 0, none⟩) (some ⟨w5.heap.size + 1, 0, none⟩) 1 1 1 [xl] [yl] rfl (by decide) (by simp [XY.out]) _ L1 L2).mono ?_
  rintro e w6 ⟨rfl, hb6⟩
  have C7 := Lib.hid (C6.out.next hb6)
  clear hb6 C6 L1 L2 b1 b2 b3 r1 r2 C5 XB5 YB5
  go_wp2_with fail
  go_ret
  exact ⟨rfl, C7.out.out⟩
/-- A call of both nets. -/
theorem call_any
    {W : World} {base bp br : Nat} {vp vr : Value} {Fp Fr_ : Nat → Prop} {s : Nt} (h : Pr W base bp br vp vr Fp Fr_ s s) (hw : s.WF) (hls : s.last ≤ 4611686018427387000) (k m n : Int) (hkr : -9223372036854775808 ≤ k ∧ k ≤ 9223372036854775807) (A : Option Addr) (z c B : Nat) (bs : List UInt8) (hz : bs.length = z) (hz2 : z ≤ 1000000) (hB : B ≤ base) (hx : Rd W B A (bv bs)) (A2 : Option Addr) (z2 c2 : Nat) (hx2 : LtB W (fun k => k ≠ bp) ⟨⟨0, m, n, bs⟩, A2, z2, c2⟩) :
    Calls Try.prog 51 #[.pointer (some ⟨bp, 0, none⟩), .pointer (some ⟨br, 0, none⟩), .agg #[.int .i64 k, .int .i64 m, .int .i64 n, .slice A z c], .slice A2 z2 c2] W fun e w' => e = .returned (.bool true) ∧ CallO base bp br vp vr Fp Fr_ (actS s k m n bs) W w' := by
  unfold actS
  rcases (by omega : k % 4 = 0 ∨ k % 4 = 1 ∨ k % 4 = 2 ∨ k % 4 = 3) with e | e | e | e
  · rw [if_pos e]
    exact call0_any h hw hls k m n hkr A z c B bs hz hz2 hB hx A2 z2 c2 hx2 e
  · rw [if_neg (by omega), if_neg (by omega)]
    exact call1_any h hw hls k m n hkr A z c B bs hz hz2 hB hx A2 z2 c2 hx2 e
  · rw [if_neg (by omega), if_pos e]
    exact call2_any h hw hls k m n hkr A z c B bs hz hz2 hB hx A2 z2 c2 hx2 e
  · rw [if_neg (by omega), if_neg (by omega)]
    exact call3_any h hw hls k m n hkr A z c B bs hz hz2 hB hx A2 z2 c2 hx2 e
end Go.Proofs.Ytlpdihcgdgkkbaa
