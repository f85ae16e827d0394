/- Two caches side by side: whatever is done to both, they answer alike. -/
import Derived.Test.YtnhobjjgpnbnmaaMs
import Derived.Test.YtnhobjjgpnbnmaaMf
namespace Go.Proofs.Ytnhobjjgpnbnmaa
open Go.RowKit Go.St
set_option linter.unusedVariables false
set_option linter.unusedSimpArgs false
set_option maxRecDepth 100000

/-- What a read makes of a cache. -/
def rdOn (s : Stp) (m : Mk) : Bool := decide (chk m.a = 0) && !sEmp m.f m.t && less s m.a
def rdS (s : Stp) (l : List Mk) (m : Mk) : Stp := if rdOn s m then putS s l m else s
def rdL (s : Stp) (l : List Mk) (m : Mk) : List Mk := if rdOn s m then putL s l m else l
def raS (s : Stp) (a : Stp) : Stp := if chk a = 0 then maxS s a else s
def raL (s : Stp) (l : List Mk) (a : Stp) : List Mk := if chk a = 0 then dropL (maxS s a) l else l
theorem rd_len (s : Stp) (l : List Mk) (m : Mk) (h : l.length ≤ 1024) : (rdL s l m).length ≤ 1024 := by
  unfold rdL; split
  · exact put_len s l m h
  · exact h
theorem ra_len (s : Stp) (l : List Mk) (a : Stp) (h : l.length ≤ 1024) : (raL s l a).length ≤ 1024 := by
  unfold raL; split
  · exact Nat.le_trans (drop_len _ _) h
  · exact h
theorem cread_gen {W : World} {base b : Nat} {v : Value} {s : Stp} {l : List Mk} (h : CaB 63 W base b v s l) (hl : l.length ≤ 1024) (m : Mk) : Calls Try.prog 10 #[.pointer (some ⟨b, 0, none⟩), .agg #[.string m.f, .string m.t], .agg #[.int .i64 m.a.wall, .int .i32 m.a.logic, .int .i32 m.a.tag], .agg #[.int .i32 m.nd, .int .i32 m.nu]] W
    fun e w' => e = .returned (.int .i64 (chk m.a)) ∧ RdP 63 base b v.ownBlock (rdS s l m) (rdL s l m) W w' := by
  by_cases hc : chk m.a = 0
  · cases he : sEmp m.f m.t
    · cases hs : less s m.a
      · have e0 : rdOn s m = false := by unfold rdOn; rw [hs]; simp
        have e1 : rdS s l m = s := by unfold rdS; rw [e0]; rfl
        have e2 : rdL s l m = l := by unfold rdL; rw [e0]; rfl
        rw [e1, e2, hc]
        exact (cread_low h m hc he hs).mono (fun e w' q => ⟨q.1, RdP.same h q.2⟩)
      · have e0 : rdOn s m = true := by unfold rdOn; rw [hs, he, hc]; rfl
        have e1 : rdS s l m = putS s l m := by unfold rdS; rw [e0]; rfl
        have e2 : rdL s l m = putL s l m := by unfold rdL; rw [e0]; rfl
        rw [e1, e2, hc]
        by_cases hn : l.length < 1024
        · have e3 : putS s l m = s := by unfold putS; rw [if_pos hn]
          have e4 : putL s l m = l ++ [m] := by unfold putL; rw [if_pos hn]
          rw [e3, e4]
          exact cread_put h m hc he hs hn
        · exact cread_over h m hc he hs (by omega)
    · have e0 : rdOn s m = false := by unfold rdOn; rw [he]; simp
      have e1 : rdS s l m = s := by unfold rdS; rw [e0]; rfl
      have e2 : rdL s l m = l := by unfold rdL; rw [e0]; rfl
      rw [e1, e2, hc]
      exact (cread_emp h m hc he).mono (fun e w' q => ⟨q.1, RdP.same h q.2⟩)
  · have e0 : rdOn s m = false := by unfold rdOn; simp [hc]
    have e1 : rdS s l m = s := by unfold rdS; rw [e0]; rfl
    have e2 : rdL s l m = l := by unfold rdL; rw [e0]; rfl
    rw [e1, e2]
    exact (cread_no h m hc).mono (fun e w' q => ⟨q.1, RdP.same h q.2⟩)
theorem craise_gen {W : World} {base b : Nat} {v : Value} {s : Stp} {l : List Mk} (h : CaB 63 W base b v s l) (a : Stp) : Calls Try.prog 11 #[.pointer (some ⟨b, 0, none⟩), .agg #[.int .i64 a.wall, .int .i32 a.logic, .int .i32 a.tag]] W
    fun e w' => e = .returned (.int .i64 (chk a)) ∧ RdP 63 base b v.ownBlock (raS s a) (raL s l a) W w' := by
  unfold raS raL
  by_cases hc : chk a = 0
  · rw [if_pos hc, if_pos hc, hc]
    exact craise_ok h a hc
  · rw [if_neg hc, if_neg hc]
    exact (craise_no h a hc).mono (fun e w' q => ⟨q.1, RdP.same h q.2⟩)
theorem rread_gen {W : World} {base b : Nat} {v : Value} {s : Stp} {l : List Mk} (h : CaB 74 W base b v s l) (hl : l.length ≤ 1024) (m : Mk) : Calls Try.prog 21 #[.pointer (some ⟨b, 0, none⟩), .agg #[.string m.f, .string m.t], .agg #[.int .i64 m.a.wall, .int .i32 m.a.logic, .int .i32 m.a.tag], .agg #[.int .i32 m.nd, .int .i32 m.nu]] W
    fun e w' => e = .returned (.int .i64 (chk m.a)) ∧ RdP 74 base b v.ownBlock (rdS s l m) (rdL s l m) W w' := by
  by_cases hc : chk m.a = 0
  · cases he : sEmp m.f m.t
    · cases hs : less s m.a
      · have e0 : rdOn s m = false := by unfold rdOn; rw [hs]; simp
        have e1 : rdS s l m = s := by unfold rdS; rw [e0]; rfl
        have e2 : rdL s l m = l := by unfold rdL; rw [e0]; rfl
        rw [e1, e2, hc]
        exact (rread_low h m hc he hs).mono (fun e w' q => ⟨q.1, RdP.same h q.2⟩)
      · have e0 : rdOn s m = true := by unfold rdOn; rw [hs, he, hc]; rfl
        have e1 : rdS s l m = putS s l m := by unfold rdS; rw [e0]; rfl
        have e2 : rdL s l m = putL s l m := by unfold rdL; rw [e0]; rfl
        rw [e1, e2, hc]
        by_cases hn : l.length < 1024
        · have e3 : putS s l m = s := by unfold putS; rw [if_pos hn]
          have e4 : putL s l m = l ++ [m] := by unfold putL; rw [if_pos hn]
          rw [e3, e4]
          exact rread_put h m hc he hs hn
        · exact rread_over h m hc he hs (by omega)
    · have e0 : rdOn s m = false := by unfold rdOn; rw [he]; simp
      have e1 : rdS s l m = s := by unfold rdS; rw [e0]; rfl
      have e2 : rdL s l m = l := by unfold rdL; rw [e0]; rfl
      rw [e1, e2, hc]
      exact (rread_emp h m hc he).mono (fun e w' q => ⟨q.1, RdP.same h q.2⟩)
  · have e0 : rdOn s m = false := by unfold rdOn; simp [hc]
    have e1 : rdS s l m = s := by unfold rdS; rw [e0]; rfl
    have e2 : rdL s l m = l := by unfold rdL; rw [e0]; rfl
    rw [e1, e2]
    exact (rread_no h m hc).mono (fun e w' q => ⟨q.1, RdP.same h q.2⟩)
theorem rraise_gen {W : World} {base b : Nat} {v : Value} {s : Stp} {l : List Mk} (h : CaB 74 W base b v s l) (a : Stp) : Calls Try.prog 22 #[.pointer (some ⟨b, 0, none⟩), .agg #[.int .i64 a.wall, .int .i32 a.logic, .int .i32 a.tag]] W
    fun e w' => e = .returned (.int .i64 (chk a)) ∧ RdP 74 base b v.ownBlock (raS s a) (raL s l a) W w' := by
  unfold raS raL
  by_cases hc : chk a = 0
  · rw [if_pos hc, if_pos hc, hc]
    exact rraise_ok h a hc
  · rw [if_neg hc, if_neg hc]
    exact (rraise_no h a hc).mono (fun e w' q => ⟨q.1, RdP.same h q.2⟩)
/- The document's cache that is not there. -/
theorem rread_nil (f t : ByteArray) (s : Stp) (nd nu : Int) (w : World) : Calls Try.prog 21 #[.pointer none, .agg #[.string f, .string t], .agg #[.int .i64 s.wall, .int .i32 s.logic, .int .i32 s.tag], .agg #[.int .i32 nd, .int .i32 nu]] w fun e w' => e = .returned (.int .i64 1) ∧ Below w.heap.size w w' := by
  go_enter Try.func21, Try.ntmps21
  go_wp2_with fail
  refine (rnone_nil _).mono ?_
  rintro e w' ⟨rfl, rfl⟩
  go_wp2
  go_ret
  exact ⟨rfl, by go_grown⟩
theorem rraise_nil (s : Stp) (w : World) : Calls Try.prog 22 #[.pointer none, .agg #[.int .i64 s.wall, .int .i32 s.logic, .int .i32 s.tag]] w fun e w' => e = .returned (.int .i64 1) ∧ Below w.heap.size w w' := by
  go_enter Try.func22, Try.ntmps22
  go_wp2_with fail
  refine (rnone_nil _).mono ?_
  rintro e w' ⟨rfl, rfl⟩
  go_wp2
  go_ret
  exact ⟨rfl, by go_grown⟩
theorem rat_nil (k : ByteArray) (nd nu : Int) (w : World) : Calls Try.prog 40 #[.pointer none, .string k, .agg #[.int .i32 nd, .int .i32 nu]] w fun e w' => e = .returned (.agg #[.int .i64 0, .int .i32 0, .int .i32 0]) ∧ Below w.heap.size w w' := by
  go_enter Try.func40, Try.ntmps40
  go_wp2_with fail
  refine (rnone_nil _).mono ?_
  rintro e w' ⟨rfl, rfl⟩
  go_wp2
  refine bodyPost_ret (v := .agg #[.int .i64 0, .int .i32 0, .int .i32 0]) (by simp [results, Try.results40, go_sem]) rfl ⟨rfl, by go_grown⟩
theorem rlow_nil (w : World) : Calls Try.prog 23 #[.pointer none] w fun e w' => e = .returned (.agg #[.int .i64 0, .int .i32 0, .int .i32 0]) ∧ Below w.heap.size w w' := by
  go_enter Try.func23, Try.ntmps23
  go_wp2_with fail
  refine (rnone_nil _).mono ?_
  rintro e w' ⟨rfl, rfl⟩
  go_wp2
  refine bodyPost_ret (v := .agg #[.int .i64 0, .int .i32 0, .int .i32 0]) (by simp [results, Try.results23, go_sem]) rfl ⟨rfl, by go_grown⟩
theorem rlen_nil (w : World) : Calls Try.prog 24 #[.pointer none] w fun e w' => e = .returned (.int .i64 0) ∧ w = w' := by
  go_enter Try.func24, Try.ntmps24
  go_wp2_with fail
  refine (rnone_nil _).mono ?_
  rintro e w' ⟨rfl, rfl⟩
  go_wp2
  go_ret
  exact ⟨rfl, rfl⟩
/-- The old blocks below a mark, and those from another on, are as they were. -/
structure Kp (base hi : Nat) (W w' : World) : Prop where
  os : w'.os = W.os
  tape : w'.tape = W.tape
  output : w'.output = W.output
  size : W.heap.size ≤ w'.heap.size
  block : ∀ k, k < W.heap.size → k < base ∨ hi ≤ k → w'.heap[k]? = W.heap[k]?
theorem Kp.of_fr {base hi b : Nat} {row : Option Nat} {W w' : World} (h : Fr b row W w') (h1 : base ≤ b) (h2 : b < hi) (h3 : ∀ k, row = some k → base ≤ k ∧ k < hi) : Kp base hi W w' :=
  ⟨h.os, h.tape, h.output, h.size, fun k hk hh => h.block k hk (by omega) (fun e => by have := h3 k e; omega)⟩
theorem Kp.of_below {base hi : Nat} {W w' : World} (h : Below W.heap.size W w') : Kp base hi W w' := ⟨h.os, h.tape, h.output, h.size, fun k hk _ => h.block k hk⟩
theorem Kp.below {base hi : Nat} {W w' : World} (h : Kp base hi W w') (hb : base ≤ W.heap.size) : Below base W w' := ⟨h.os, h.tape, h.output, h.size, fun k hk => h.block k (by omega) (.inl hk)⟩
theorem Kp.cell {base hi : Nat} {W w' : World} (h : Kp base hi W w') {p : Addr} (h1 : p.block < W.heap.size) (h2 : hi ≤ p.block) : w'.cell? p = W.cell? p := World.cell?_of_block (w := W) (h.block p.block h1 (.inr h2))
/-- Blocks and rows of two caches apart. -/
structure Sep (b b' : Nat) (r r' : Option Nat) : Prop where
  bb : b ≠ b'
  rb : r ≠ some b'
  rb' : r' ≠ some b
  rr : ∀ k, r = some k → r' ≠ some k
/-- Both caches: not there, or alike and apart; all that is theirs lies below hi. -/
inductive PrS (base hi : Nat) (W : World) : Value → Value → Prop where
  | nil (h : base ≤ W.heap.size) (h2 : hi ≤ W.heap.size) : PrS base hi W (.pointer none) (.pointer none)
  | two {b b' : Nat} {v v' : Value} {s : Stp} {l : List Mk} (c : CaB 63 W base b v s l) (r : CaB 74 W base b' v' s l) (hl : l.length ≤ 1024) (sp : Sep b b' v.ownBlock v'.ownBlock) (h2 : hi ≤ W.heap.size)
      (hb : b < hi) (hb' : b' < hi) (hv : ∀ k, v.ownBlock = some k → k < hi) (hv' : ∀ k, v'.ownBlock = some k → k < hi) : PrS base hi W (.pointer (some ⟨b, 0, none⟩)) (.pointer (some ⟨b', 0, none⟩))
theorem PrS.base {base hi : Nat} {W : World} {p q : Value} (h : PrS base hi W p q) : base ≤ W.heap.size := by
  cases h with
  | nil h _ => exact h
  | two c _ _ _ _ _ _ _ _ => exact Nat.le_trans c.lo (Nat.le_of_lt c.lt)
theorem PrS.hiLe {base hi : Nat} {W : World} {p q : Value} (h : PrS base hi W p q) : hi ≤ W.heap.size := by
  cases h with
  | nil _ h => exact h
  | two _ _ _ _ h2 _ _ _ _ => exact h2
theorem PrS.next {base hi : Nat} {W W' : World} {p q : Value} (h : PrS base hi W p q) (hb : Below W.heap.size W W') : PrS base hi W' p q := by
  cases h with
  | nil h h2 => exact .nil (Nat.le_trans h hb.size) (Nat.le_trans h2 hb.size)
  | two c r hl sp h2 h3 h4 h5 h6 => exact .two (c.next hb) (r.next hb) hl sp (Nat.le_trans h2 hb.size) h3 h4 h5 h6
theorem PrS.top {base hi : Nat} {W : World} {p q : Value} (h : PrS base hi W p q) : PrS base W.heap.size W p q := by
  cases h with
  | nil h h2 => exact .nil h (Nat.le_refl _)
  | two c r hl sp h2 h3 h4 h5 h6 => exact .two c r hl sp (Nat.le_refl _) c.lt r.lt (fun k e => (c.own.lt k e).2) (fun k e => (r.own.lt k e).2)
theorem rdp_pair {base b b' hi : Nat} {v v' : Value} {s : Stp} {l : List Mk} {s2 : Stp} {l2 : List Mk} {W w1 : World} (c : CaB 63 W base b v s l) (r : CaB 74 W base b' v' s l) (sp : Sep b b' v.ownBlock v'.ownBlock)
    (hb : b < hi) (hv : ∀ k, v.ownBlock = some k → k < hi) (h : RdP 63 base b v.ownBlock s2 l2 W w1) :
    Kp base hi W w1 ∧ CaB 74 w1 base b' v' s l ∧ ∃ v2, CaB 63 w1 base b v2 s2 l2 ∧ Sep b b' v2.ownBlock v'.ownBlock := by
  obtain ⟨hf, v2, c2, hv2⟩ := h
  have hrow : ∀ k, v'.ownBlock = some k → v.ownBlock ≠ some k := fun k e e2 => sp.rr k e2 e
  refine ⟨Kp.of_fr hf c.lo hb (fun k e => ⟨(c.own.lt k e).1, hv k e⟩), r.fr hf (fun e => sp.bb e.symm) sp.rb sp.rb' ?_, v2, c2, ⟨sp.bb, ?_, sp.rb', ?_⟩⟩
  · cases hv' : v'.ownBlock with
    | none => exact .inl rfl
    | some k => exact .inr (fun e => sp.rr k e.symm hv')
  · rcases hv2 with e | e
    · rw [e]; exact sp.rb
    · intro e2; have h1 := e _ e2; have h2 := r.lt; omega
  · intro k e
    rcases hv2 with e2 | e2
    · rw [e2] at e; exact sp.rr k e
    · intro e3; have h1 := e2 _ e; have h2 := (r.own.lt k e3).2; omega
theorem rdp_pair2 {base b b' : Nat} {v v' : Value} {s : Stp} {l : List Mk} {s2 : Stp} {l2 : List Mk} {w1 w2 : World} (c : CaB 63 w1 base b v s2 l2) (r : CaB 74 w1 base b' v' s l) (sp : Sep b b' v.ownBlock v'.ownBlock) (hl : l2.length ≤ 1024)
    (hi : Nat) (hb' : b' < hi) (hv' : ∀ k, v'.ownBlock = some k → k < hi)
    (h : RdP 74 base b' v'.ownBlock s2 l2 w1 w2) : Kp base hi w1 w2 ∧ PrS base w2.heap.size w2 (.pointer (some ⟨b, 0, none⟩)) (.pointer (some ⟨b', 0, none⟩)) := by
  obtain ⟨hf, v2, r2, hv2⟩ := h
  have hlo : base ≤ w1.heap.size := Nat.le_trans c.lo (Nat.le_of_lt c.lt)
  have c2 : CaB 63 w2 base b v s2 l2 := c.fr hf sp.bb sp.rb' sp.rb (by
    cases hv' : v.ownBlock with
    | none => exact .inl rfl
    | some k => exact .inr (fun e => sp.rr k hv' e.symm))
  have sp2 : Sep b b' v.ownBlock v2.ownBlock := ⟨sp.bb, sp.rb, by
    rcases hv2 with e | e
    · rw [e]; exact sp.rb'
    · intro e2; have h1 := e _ e2; have h2 := c.lt; omega, fun k e => by
    rcases hv2 with e2 | e2
    · rw [e2]; exact sp.rr k e
    · intro e3; have h1 := e2 _ e3; have h2 := (c.own.lt k e).2; omega⟩
  exact ⟨Kp.of_fr hf r.lo hb' (fun k e => ⟨(r.own.lt k e).1, hv' k e⟩), .two c2 r2 hl sp2 (Nat.le_refl _) c2.lt r2.lt (fun k e => (c2.own.lt k e).2) (fun k e => (r2.own.lt k e).2)⟩
/-- A read kept in both. -/
theorem pair_read {base hi : Nat} {W : World} {p q : Value} (h : PrS base hi W p q) (m : Mk) :
    ∃ E : Int, Calls Try.prog 10 #[p, .agg #[.string m.f, .string m.t], .agg #[.int .i64 m.a.wall, .int .i32 m.a.logic, .int .i32 m.a.tag], .agg #[.int .i32 m.nd, .int .i32 m.nu]] W
      fun e w1 => e = .returned (.int .i64 E) ∧ Kp base hi W w1 ∧ Calls Try.prog 21 #[q, .agg #[.string m.f, .string m.t], .agg #[.int .i64 m.a.wall, .int .i32 m.a.logic, .int .i32 m.a.tag], .agg #[.int .i32 m.nd, .int .i32 m.nu]] w1
        fun e w2 => e = .returned (.int .i64 E) ∧ Kp base hi w1 w2 ∧ PrS base w2.heap.size w2 p q := by
  cases h with
  | nil h h2 =>
    refine ⟨1, (cread_nil m.f m.t m.a m.nd m.nu W).mono ?_⟩
    rintro e w1 ⟨rfl, hb⟩
    have hlo : base ≤ w1.heap.size := Nat.le_trans h hb.size
    refine ⟨rfl, Kp.of_below hb, (rread_nil m.f m.t m.a m.nd m.nu w1).mono ?_⟩
    rintro e w2 ⟨rfl, hb2⟩
    exact ⟨rfl, Kp.of_below hb2, .nil (Nat.le_trans hlo hb2.size) (Nat.le_refl _)⟩
  | two c r hl sp h2 h3 h4 h5 h6 =>
    refine ⟨chk m.a, (cread_gen c hl m).mono ?_⟩
    rintro e w1 ⟨rfl, hr⟩
    obtain ⟨hk, r1, v2, c1, sp1⟩ := rdp_pair c r sp h3 h5 hr
    refine ⟨rfl, hk, (rread_gen r1 hl m).mono ?_⟩
    rintro e w2 ⟨rfl, hr2⟩
    exact ⟨rfl, rdp_pair2 c1 r1 sp1 (rd_len _ _ m hl) hi h4 h6 hr2⟩
theorem pair_raise {base hi : Nat} {W : World} {p q : Value} (h : PrS base hi W p q) (a : Stp) :
    ∃ E : Int, Calls Try.prog 11 #[p, .agg #[.int .i64 a.wall, .int .i32 a.logic, .int .i32 a.tag]] W
      fun e w1 => e = .returned (.int .i64 E) ∧ Kp base hi W w1 ∧ Calls Try.prog 22 #[q, .agg #[.int .i64 a.wall, .int .i32 a.logic, .int .i32 a.tag]] w1
        fun e w2 => e = .returned (.int .i64 E) ∧ Kp base hi w1 w2 ∧ PrS base w2.heap.size w2 p q := by
  cases h with
  | nil h h2 =>
    refine ⟨1, (craise_nil a W).mono ?_⟩
    rintro e w1 ⟨rfl, hb⟩
    have hlo : base ≤ w1.heap.size := Nat.le_trans h hb.size
    refine ⟨rfl, Kp.of_below hb, (rraise_nil a w1).mono ?_⟩
    rintro e w2 ⟨rfl, hb2⟩
    exact ⟨rfl, Kp.of_below hb2, .nil (Nat.le_trans hlo hb2.size) (Nat.le_refl _)⟩
  | two c r hl sp h2 h3 h4 h5 h6 =>
    refine ⟨chk a, (craise_gen c a).mono ?_⟩
    rintro e w1 ⟨rfl, hr⟩
    obtain ⟨hk, r1, v2, c1, sp1⟩ := rdp_pair c r sp h3 h5 hr
    refine ⟨rfl, hk, (rraise_gen r1 a).mono ?_⟩
    rintro e w2 ⟨rfl, hr2⟩
    exact ⟨rfl, rdp_pair2 c1 r1 sp1 (ra_len _ _ a hl) hi h4 h6 hr2⟩
theorem pair_at {base hi : Nat} {W : World} {p q : Value} (h : PrS base hi W p q) (k : ByteArray) (nd nu : Int) :
    ∃ x : Stp, (∀ X, Below W.heap.size W X → Calls Try.prog 15 #[p, .string k, .agg #[.int .i32 nd, .int .i32 nu]] X fun e w' => e = .returned (.agg #[.int .i64 x.wall, .int .i32 x.logic, .int .i32 x.tag]) ∧ Below X.heap.size X w') ∧
      ∀ X, Below W.heap.size W X → Calls Try.prog 40 #[q, .string k, .agg #[.int .i32 nd, .int .i32 nu]] X fun e w' => e = .returned (.agg #[.int .i64 x.wall, .int .i32 x.logic, .int .i32 x.tag]) ∧ Below X.heap.size X w' := by
  cases h with
  | nil h h2 => exact ⟨⟨0, 0, 0⟩, fun X _ => cat_nil k nd nu X, fun X _ => rat_nil k nd nu X⟩
  | two c r hl sp h2 h3 h4 h5 h6 => exact ⟨_, fun X hb => cat_any (c.next hb) k nd nu, fun X hb => rat_any (r.next hb) k nd nu⟩
theorem pair_low {base hi : Nat} {W : World} {p q : Value} (h : PrS base hi W p q) :
    ∃ x : Stp, (∀ X, Below W.heap.size W X → Calls Try.prog 19 #[p] X fun e w' => e = .returned (.agg #[.int .i64 x.wall, .int .i32 x.logic, .int .i32 x.tag]) ∧ Below X.heap.size X w') ∧
      ∀ X, Below W.heap.size W X → Calls Try.prog 23 #[q] X fun e w' => e = .returned (.agg #[.int .i64 x.wall, .int .i32 x.logic, .int .i32 x.tag]) ∧ Below X.heap.size X w' := by
  cases h with
  | nil h h2 => exact ⟨⟨0, 0, 0⟩, fun X _ => clow_nil X, fun X _ => rlow_nil X⟩
  | two c r hl sp h2 h3 h4 h5 h6 => exact ⟨_, fun X hb => clow_any (c.next hb), fun X hb => rlow_any (r.next hb)⟩
theorem pair_len {base hi : Nat} {W : World} {p q : Value} (h : PrS base hi W p q) :
    ∃ x : Int, (∀ X, Below W.heap.size W X → Calls Try.prog 17 #[p] X fun e w' => e = .returned (.int .i64 x) ∧ X = w') ∧
      ∀ X, Below W.heap.size W X → Calls Try.prog 24 #[q] X fun e w' => e = .returned (.int .i64 x) ∧ X = w' := by
  cases h with
  | nil h h2 => exact ⟨0, fun X _ => clen_nil X, fun X _ => rlen_nil X⟩
  | two c r hl sp h2 h3 h4 h5 h6 => exact ⟨_, fun X hb => clen_any (c.next hb), fun X hb => rlen_any (r.next hb)⟩
end Go.Proofs.Ytnhobjjgpnbnmaa
