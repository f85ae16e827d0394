/- The walk of the law FrameScan. -/
import Derived.Test.YtmfkngijgellhaaSc
import Derived.Test.YtmfkngijgellhaaSg
import Derived.Test.YtmfkngijgellhaaLj
import Derived.Test.YtmfkngijgellhaaSf
namespace Go.Proofs.Ytmfkngijgellhaa
open Go.RowKit Go.St Go.Shelf
set_option linter.unusedVariables false
attribute [local go_sem] Oper.semAt_some

theorem lent_take (bs : List UInt8) : (lent bs).take bs.length = bs := by simp [lent]

theorem readL_short (bs : List UInt8) : (readL bs).length ≤ bs.length := by
  unfold readL
  split
  · unfold openL
    split
    · unfold bodyOf
      rw [List.length_take, List.length_take, List.length_drop]
      omega
    · exact Nat.zero_le _
  · exact Nat.zero_le _
theorem scan_short : ∀ (f : Nat) (bs r : List UInt8), r ∈ (scan f bs).1 → r.length ≤ bs.length
  | 0, bs, r, h => by simp [scan] at h
  | f + 1, bs, r, h => by
    unfold scan at h
    split at h
    · simp at h
    · split at h
      · rcases List.mem_cons.1 h with rfl | h
        · exact readL_short bs
        · have := scan_short f _ _ h
          rw [List.length_drop] at this
          omega
      · simp at h
theorem scan_count : ∀ (f : Nat) (bs : List UInt8), (scan f bs).1.length ≤ bs.length
  | 0, bs => by simp [scan]
  | f + 1, bs => by
    unfold scan
    split
    · simp
    · split
      · rename_i h
        have h1 := readN_ge h
        have h2 := readN_le bs
        have h3 := scan_count f (bs.drop (readN bs))
        rw [List.length_drop] at h3
        simp only [List.length_cons]
        omega
      · simp
theorem wpListIn_app {t e : TypeId} {size bytes : Nat} {z : Value} (E : STy Try.prog t e size bytes z) {n : Nat} {w : World} {ops : Array Oper} {rest : List Oper} {o : Oper} {a : Act} {Q : Exit → Act → World → Prop} (s x : Operand) (hw : Region.wanted o (yielded ops a.tmps) = true)
    (ho : o.op = .call { callee := .builtin .append, args := #[s, x], argTypes := #[t, t] })
    (base : Nat) {v : Value} {k : Nat} {xs : List Value} (hown : w.ownsRow base e size v k xs) (hs : a.eval s = v)
    {B : Nat} {A : Option Addr} (m c : Nat) {news : List Value} (hr : Rd w B A news) (hx : a.eval x = .slice A m c) (hl : news.length = m * size) (h1 : ∀ u ∈ news, u.oneCell' = true)
    (h63 : k + m ≤ maxLen) (hbytes : (k + m) * bytes ≤ 140737488355328) (hbase : base ≤ w.heap.size)
    (h : ∀ v' w', w'.ownsRow base e size v' (k + m) (xs ++ news) → w.grownBy w' v.ownBlock → (v' = .slice none 0 0 ↔ v = .slice none 0 0 ∧ m = 0) → (v'.ownBlock = v.ownBlock ∨ v'.ownBlock = some w.heap.size) → wpListIn Fence.wide n Try.prog ops Q rest (a.put o.dst v') w') :
    wpListIn Fence.wide n Try.prog ops Q (o :: rest) a w := by
  obtain ⟨v', w', hrun, h2, h3, h4, h5⟩ := run_app E w o.type base hown m c hr hl h1 h63 hbytes hbase
  have hgo := h v' w' h2 h3 h4 h5
  have hex : (execOp a.eval o).run Try.prog w = .ok (.value v') w' := by
    unfold execOp
    simp only [ho, resolve, invoke, builtin, Sem.run_bind, Sem.run_pure, Result.andThen_ok, List.map_toArray, List.map_cons, List.map_nil, hs, hx, hrun]
  simp only [wpListIn, hw, if_true]
  refine ⟨fun _ _ => trivial, ?_⟩
  have e1 : (o.semAt Fence.wide.round a.eval) = execOp a.eval o := rfl
  rw [e1, hex, Oper.uponIn_value]
  exact hgo
/-- What the walk of FrameScan has at hand. -/
structure S5 (w W : World) (n0 : Nat) (b0 : List UInt8) (rs : List (List UInt8)) (b5 : Nat) (A5 : Option Addr) (c5 b6 : Nat) (A6 : Option Addr) (c6 : Nat) (vs6 : List Value) (b7 : Nat) (A7 : Option Addr) (c7 : Nat) (vs7 : List Value) (t9 : Nat) : Prop where
  hb : Below w.heap.size w W
  lt : w.heap.size < W.heap.size
  c : W.cell? ⟨w.heap.size, 0, none⟩ = some (.bool false)
  z : W.frozen? ⟨w.heap.size, 0, none⟩ = false
  o5 : W.ownsRow b5 5 1 (.slice A5 (n0 + 3) c5) (n0 + 3) (bv (lent b0))
  r6 : Rows W b6 (.slice A6 rs.length c6) rs.length vs6 rs
  r7 : Rows W b7 (.slice A7 rs.length c7) rs.length vs7 rs
  lt9 : t9 < W.heap.size
  c9 : W.cell? ⟨t9, 0, none⟩ = some (.slice A7 rs.length c7)
  z9 : W.frozen? ⟨t9, 0, none⟩ = false
  le5 : w.heap.size < b5
  le6 : w.heap.size < b6
  ge6 : b6 ≤ W.heap.size
  f5 : ∀ g, (Value.slice A5 (n0 + 3) c5).ownBlock = some g → g < b6
theorem S5.next {w W W' : World} {n0 : Nat} {b0 : List UInt8} {rs : List (List UInt8)} {b5 : Nat} {A5 : Option Addr} {c5 b6 : Nat} {A6 : Option Addr} {c6 : Nat} {vs6 : List Value} {b7 : Nat} {A7 : Option Addr} {c7 : Nat} {vs7 : List Value} {t9 : Nat}
    (h : S5 w W n0 b0 rs b5 A5 c5 b6 A6 c6 vs6 b7 A7 c7 vs7 t9) (k : Below W.heap.size W W') : S5 w W' n0 b0 rs b5 A5 c5 b6 A6 c6 vs6 b7 A7 c7 vs7 t9 :=
  ⟨h.hb.trans (k.mono (Nat.le_of_lt h.lt)), Nat.lt_of_lt_of_le h.lt k.size, (k.cell (p := ⟨w.heap.size, 0, none⟩) h.lt).trans h.c, (k.frozen (p := ⟨w.heap.size, 0, none⟩) h.lt).trans h.z,
    own_keep h.o5 k (Nat.le_refl _), h.r6.keep k (Nat.le_refl _), h.r7.keep k (Nat.le_refl _), Nat.lt_of_lt_of_le h.lt9 k.size, (k.cell (p := ⟨t9, 0, none⟩) h.lt9).trans h.c9, (k.frozen (p := ⟨t9, 0, none⟩) h.lt9).trans h.z9, h.le5, h.le6, Nat.le_trans h.ge6 k.size, h.f5⟩
theorem S5.d5 {w W : World} {n0 : Nat} {b0 : List UInt8} {rs : List (List UInt8)} {b5 : Nat} {A5 : Option Addr} {c5 b6 : Nat} {A6 : Option Addr} {c6 : Nat} {vs6 : List Value} {b7 : Nat} {A7 : Option Addr} {c7 : Nat} {vs7 : List Value} {t9 : Nat}
    (h : S5 w W n0 b0 rs b5 A5 c5 b6 A6 c6 vs6 b7 A7 c7 vs7 t9) (hl : b0.length = n0) : Rd W W.heap.size A5 (bv b0) := by
  have := (Rd.own h.o5).take n0
  rwa [bv, ← List.map_take, ← hl, lent_take] at this

structure T8 (W : World) (rs : List (List UInt8)) (b8 : Nat) (A8 : Option Addr) (c8 t12 t13 M : Nat) : Prop where
  own : W.ownsRow b8 3 1 (.slice A8 rs.length c8) rs.length (begV rs rs.length)
  lt12 : t12 < W.heap.size
  lt13 : t13 < W.heap.size
  c12 : W.cell? ⟨t12, 0, none⟩ = some (.slice A8 rs.length c8)
  c13 : W.cell? ⟨t13, 0, none⟩ = some (.int .i64 (M : Nat))
theorem T8.next {W W' : World} {rs : List (List UInt8)} {b8 : Nat} {A8 : Option Addr} {c8 t12 t13 M : Nat} (h : T8 W rs b8 A8 c8 t12 t13 M) (k : Below W.heap.size W W') : T8 W' rs b8 A8 c8 t12 t13 M :=
  ⟨own_keep h.own k (Nat.le_refl _), Nat.lt_of_lt_of_le h.lt12 k.size, Nat.lt_of_lt_of_le h.lt13 k.size, (k.cell (p := ⟨t12, 0, none⟩) h.lt12).trans h.c12, (k.cell (p := ⟨t13, 0, none⟩) h.lt13).trans h.c13⟩

theorem leave13 {n : Nat} {W : World} {tmps : Array Value} {R : Ending → World → Prop} {r0 : Nat} (h4 : tmps.getD 4 undef = .pointer (some ⟨r0, 0, none⟩)) (hc : W.cell? ⟨r0, 0, none⟩ = some (.bool true)) (hR : R (.returned (.bool true)) W) :
    LeavesInM Fence.wide n Try.prog Try.f13 tmps R [] .returning W := by
  refine ⟨.bool true, ?_, hR⟩
  unfold results
  rw [show Try.f13.results = #[.cell 4 4] from rfl]
  have h5 : tmps[4]?.getD undef = .pointer (some ⟨r0, 0, none⟩) := by simpa using h4
  simp [go_sem, h5, hc]

set_option maxRecDepth 100000 in
set_option maxHeartbeats 8000000 in
theorem frameScan_walk (w : World) (A0 : Option Addr) (n0 c0 : Nat) (b0 : List UInt8) (bl0 : b0.length = n0) (lc0 : n0 ≤ c0) (bn0 : c0 ≤ 140737488351232) (rd0 : Rd w w.heap.size A0 (bv b0))
    (a1 : Int) (w1 : (Lit.int .i64 a1).wf = true) :
    Calls Try.prog 13 #[.slice A0 n0 c0, .int .i64 a1] w fun e w' => e = .returned (.bool true) ∧ Below w.heap.size w w' := by
  have H0 := Lib.hid bl0; clear bl0
  have R0 := Lib.hid rd0; clear rd0
  have WA := Lib.hid w1; clear w1
  refine (callsIn_wide (n := 8)).1 ?_
  refine callsIn_of_wp_marks Try.func13 rfl trivial ?_ rfl
  simp only [Try.ntmps13, List.size_toArray, List.length_cons, List.length_nil, Nat.reduceAdd, Nat.reduceSub, Array.replicate_succ, Array.replicate_zero, List.push_toArray, List.append_toArray, List.nil_append, List.cons_append]
  gi_wp2_with fail
  refine ⟨trivial, ?_⟩
  gi_at_call 31
  refine (callsIn_wide.2 (lives3_any _)).mono ?_
  rintro e w1 ⟨rfl, hb1⟩
  have hc0 : w1.cell? ⟨w.heap.size, 0, none⟩ = some (.bool false) := (hb1.cell (p := ⟨w.heap.size, 0, none⟩) (by simp)).trans (by rw [World.cell?_alloc_mark]; rfl)
  have hz0 : w1.frozen? ⟨w.heap.size, 0, none⟩ = false := (hb1.frozen (p := ⟨w.heap.size, 0, none⟩) (by simp)).trans (by simp)
  have S1 : w.heap.size < w1.heap.size := by have := hb1.size; simp at this; omega
  have HB1 := Lib.hid (((Below.refl w.heap.size w).alloc (Nat.le_refl _) _).trans (hb1.mono (by simp)))
  clear hb1
  by_cases hbig : 20000 < n0
  · have y1 : (20000 : Int) < (n0 : Int) := by omega
    gi_wp2
    exact leave13 rfl (World.cell?_setCell_same _ _ _ hc0) ⟨rfl, HB1.out.setCell (p := ⟨w.heap.size, 0, none⟩) (Nat.le_refl _) _⟩
  have y1 : (n0 : Int) ≤ 20000 := by omega
  have RD1 := Lib.hid (R0.out.below HB1.out)
  gi_wp2_with fail
  refine ⟨trivial, ?_⟩
  gi_at_call 24
  refine (callsIn_wide.2 (lent_any A0 n0 c0 _ b0 H0.out (by omega) _ RD1.out (by omega))).mono ?_
  rintro e w2 ⟨V5, rfl, own5, hb2⟩
  obtain ⟨A5, c5, rfl, hn5, _, rd5⟩ := own_rd4 own5
  have O5 := Lib.hid own5
  have F5 : Hid (∀ g, (Value.slice A5 (n0 + 3) c5).ownBlock = some g → g < w2.heap.size) := Lib.hid (fun g hg => (own5.lt g hg).2)
  have hl5 : (bv (lent b0)).take n0 = bv b0 := by rw [bv, ← List.map_take, ← H0.out, lent_take]; rfl
  have D5 : Hid (Rd w2 w2.heap.size A5 (bv b0)) := Lib.hid (by have := rd5.take n0; rwa [hl5] at this)
  have S2 := hb2.size
  have q0 : (0 : Int) ≤ (n0 : Int) := by omega
  have q1 : (n0 : Int) ≤ (c5 : Int) := by omega
  have hc2 := (hb2.cell (p := ⟨w.heap.size, 0, none⟩) S1).trans hc0
  have hz2 := (hb2.frozen (p := ⟨w.heap.size, 0, none⟩) S1).trans hz0
  have HB2 := Lib.hid (HB1.out.trans (hb2.mono (by omega)))
  have RD2 := Lib.hid (RD1.out.below (hb2.mono (by omega)))
  clear rd5 own5 hb2 hc0 hz0 HB1 RD1 hl5
  gi_wp2_with fail
  refine ⟨trivial, ?_⟩
  gi_at_call 37
  refine (callsIn_wide.2 (scan_any A5 n0 c5 _ b0 H0.out (by omega) (by omega) _ D5.out (Nat.le_refl _))).mono ?_
  intro e w3 hp
  obtain ⟨⟨rs, q, e0⟩, hsc⟩ : ∃ p, scanF b0 = p := ⟨_, rfl⟩
  obtain ⟨V6, vs6, rfl, hr6, hb3⟩ := scPost_val hsc hp
  obtain ⟨A6, c6, rfl, hn6, _, rd6⟩ := own_rd4 hr6.own
  have S3 := hb3.size
  have HR6 := Lib.hid hr6
  have O53 := Lib.hid (own_keep O5.out hb3 (Nat.le_refl _))
  have D53 := Lib.hid (D5.out.below hb3)
  have hc3 := (hb3.cell (p := ⟨w.heap.size, 0, none⟩) (show w.heap.size < w2.heap.size by omega)).trans hc2
  have hz3 := (hb3.frozen (p := ⟨w.heap.size, 0, none⟩) (show w.heap.size < w2.heap.size by omega)).trans hz2
  have HB3 := Lib.hid (HB2.out.trans (hb3.mono (by omega)))
  have RD3 := Lib.hid (RD2.out.below (hb3.mono (by omega)))
  clear rd6 hp hr6 hb3 hc2 hz2 HB2 RD2 O5 D5
  gi_wp2_with fail
  refine ⟨trivial, ?_⟩
  gi_at_call 41
  refine (callsIn_wide.2 (rscan_any A0 n0 c0 _ b0 H0.out (by omega) (by omega) _ RD3.out (by omega))).mono ?_
  intro e w4 hp
  obtain ⟨V7, vs7, rfl, hr7, hb4⟩ := scPost_val hsc hp
  obtain ⟨A7, c7, rfl, hn7, _, rd7⟩ := own_rd4 hr7.own
  have S4 := hb4.size
  have Q6 := Lib.hid (HR6.out.keep hb4 (Nat.le_refl _))
  have HR7 := Lib.hid hr7
  have O54 := Lib.hid (own_keep O53.out hb4 (Nat.le_refl _))
  have D54 := Lib.hid (D53.out.below (hb4.mono (by omega)))
  have hc4 := (hb4.cell (p := ⟨w.heap.size, 0, none⟩) (show w.heap.size < w3.heap.size by omega)).trans hc3
  have hz4 := (hb4.frozen (p := ⟨w.heap.size, 0, none⟩) (show w.heap.size < w3.heap.size by omega)).trans hz3
  have HB4 := Lib.hid (HB3.out.trans (hb4.mono (by omega)))
  have RD4 := Lib.hid (RD3.out.below (hb4.mono (by omega)))
  clear rd7 hp hr7 hb4 hc3 hz3 HB3 RD3 O53 D53 HR6
  have y2 : ((q : Int) != (q : Int)) = false := by simp
  have y3 : (e0 != e0) = false := by simp
  gi_wp2_with fail
  refine ⟨trivial, ?_⟩
  gi_at_call 40
  have hsm : ∀ r ∈ rs, r.length ≤ 140737488355328 := fun r hr => by
    have h1 := scan_short b0.length b0 r (by rw [show scan b0.length b0 = (rs, q, e0) from hsc]; exact hr)
    have h2 := H0.out
    omega
  have HSM := Lib.hid hsm
  have k5 : Below w4.heap.size w4 (w4.alloc (.cells #[.slice A7 rs.length c7] 38)) := (Below.refl _ _).alloc (Nat.le_refl _) _
  have hS5 : S5 w (w4.alloc (.cells #[.slice A7 rs.length c7] 38)) n0 b0 rs w1.heap.size A5 c5 w2.heap.size A6 c6 vs6 w3.heap.size A7 c7 vs7 w4.heap.size :=
    ⟨HB4.out.trans (k5.mono (by omega)), by simp; omega, (k5.cell (p := ⟨w.heap.size, 0, none⟩) (by show w.heap.size < _; omega)).trans hc4, (k5.frozen (p := ⟨w.heap.size, 0, none⟩) (by show w.heap.size < _; omega)).trans hz4,
      O54.out.alloc _, Q6.out.keep k5 (Nat.le_refl _), HR7.out.keep k5 (Nat.le_refl _), by simp, by rw [World.cell?_alloc_mark]; rfl, by simp, by omega, by omega, by simp; omega, F5.out⟩
  have hb5 : 0 < w1.heap.size := by omega
  have hcnt : rs.length ≤ n0 := by
    have h1 := scan_count b0.length b0
    rw [show scan b0.length b0 = (rs, q, e0) from hsc, H0.out] at h1
    exact h1
  clear hsm k5 hc4 hz4 O54 Q6 HR7 D54 HB4 RD4 F5
  obtain ⟨t9, ht9⟩ : ∃ t9, w4.heap.size = t9 := ⟨_, rfl⟩
  rw [ht9] at hS5 ⊢
  generalize hw5 : w4.alloc (.cells #[.slice A7 rs.length c7] 38) = w5 at *
  generalize w1.heap.size = b5 at *
  generalize w2.heap.size = b6 at *
  generalize w3.heap.size = b7 at *
  clear hw5 S1 S2 S3 S4
  clear ht9
  refine (callsIn_wide.2 (sameRecords_any A6 A7 rs.length c6 rs.length c7 _ _ rs rs rfl rfl (by unfold maxLen at *; omega) _ (hS5.r6.rr HSM.out) (hS5.r7.rr HSM.out))).mono ?_
  rintro e w' ⟨rfl, m5, rfl⟩
  rw [decide_eq_true (rfl : rs = rs)]
  have hS6 := hS5.next (W' := w5.drewN m5) ⟨rfl, rfl, rfl, Nat.le_refl _, fun _ _ => rfl⟩
  clear hS5
  generalize w5.drewN m5 = w6 at *
  have lt6 := hS6.lt
  have cc := hS6.c
  have zz := hS6.z
  have c9 := hS6.c9
  gi_wp2_with fail
  refine ⟨trivial, ?_⟩
  gi_at_call 42
  refine (callsIn_wide.2 (places_any A0 n0 c0 _ b0 H0.out (by omega) (by omega) _ (R0.out.below hS6.hb) (by omega))).mono ?_
  rintro e w7 ⟨V8, rfl, own8, hb7⟩
  rw [hsc] at own8
  dsimp only at own8
  have hS7 := hS6.next hb7
  clear hS6 cc zz c9 lt6
  obtain ⟨A8, c8, rfl, hn8, _, _⟩ := own_rd4 own8
  have O8 := Lib.hid own8
  clear own8 hb7
  have lt7 := hS7.lt
  have cc := hS7.c
  have zz := hS7.z
  have c9 := hS7.c9
  have lt9 := hS7.lt9
  have kA : ∀ v : Value, Below w7.heap.size w7 ((w7.alloc (.cells #[.slice A8 rs.length c8] 47)).alloc (.cells #[v] 3)) := fun v => ((Below.refl _ _).alloc (Nat.le_refl _) _).alloc (by simp) _
  have a12 : ∀ v : Value, ((w7.alloc (.cells #[.slice A8 rs.length c8] 47)).alloc (.cells #[v] 3)).cell? ⟨w7.heap.size, 0, none⟩ = some (.slice A8 rs.length c8) :=
    fun v => (World.cell?_alloc_lt _ _ ⟨w7.heap.size, 0, none⟩ (by simp)).trans (by rw [World.cell?_alloc_mark]; rfl)
  have a13 : ∀ v : Value, ((w7.alloc (.cells #[.slice A8 rs.length c8] 47)).alloc (.cells #[v] 3)).cell? ⟨w7.heap.size + 1, 0, none⟩ = some v := fun v => by
    have := World.cell?_alloc_mark (w7.alloc (.cells #[.slice A8 rs.length c8] 47)) #[v] 3 (0, 0) 0
    rwa [World.size_alloc] at this
  have KA := Lib.hid kA; have A12 := Lib.hid a12; have A13 := Lib.hid a13; have HS7 := Lib.hid hS7
  clear kA a12 a13 hS7
  by_cases hne : rs.length = 0
  case' pos =>
    have y5 : (rs.length : Int) ≤ 0 := by omega
    have HNE := Lib.hid hne
    clear hne
    gi_wp2_with fail
    have hS8 := HS7.out.next (KA.out (.int .i64 (rs.length : Nat)))
    have hT8 : T8 _ rs _ A8 c8 w7.heap.size (w7.heap.size + 1) rs.length := ⟨own_keep O8.out (KA.out (.int .i64 (rs.length : Nat))) (Nat.le_refl _), by simp; omega, by simp, A12.out _, A13.out _⟩
    have hM : (rs.length = 0 ∧ rs.length = 0) ∨ (0 < rs.length ∧ rs.length ≤ rs.length) := .inl ⟨HNE.out, HNE.out⟩
    generalize hw8 : (w7.alloc (.cells #[.slice A8 rs.length c8] 47)).alloc (.cells #[.int .i64 (rs.length : Nat)] 3) = w8 at *
    obtain ⟨M, hMM⟩ : ∃ M, M = rs.length := ⟨_, rfl⟩
    have hT8 : T8 w8 rs w6.heap.size A8 c8 w7.heap.size (w7.heap.size + 1) M := by rw [hMM]; exact hT8
    have hM : (M = 0 ∧ rs.length = 0) ∨ (0 < M ∧ M ≤ rs.length) := by rw [hMM]; exact hM
    clear HNE y5 hMM hw8
  case' neg =>
    have y5 : (0 : Int) < (rs.length : Int) := by omega
    have HNE := Lib.hid hne
    clear hne
    gi_wp2_with fail
    refine ⟨trivial, ?_⟩
    gi_at_call 21
    refine (callsIn_wide.2 (pick_at a1 _ WA.out rs.length rfl (by omega) (by unfold maxLen at *; omega) _)).mono ?_
    rintro e w' ⟨k, hk, rfl, rfl⟩
    have a13 := A13.out (.int .i64 (rs.length : Nat))
    have kb : (k : Int) < 9223372036854775807 := by unfold maxLen at *; omega
    have k0 : (0 : Int) ≤ (k : Int) := by omega
    gi_wp2_with fail
    have e1 : (1 : Int) + (k : Int) = ((k + 1 : Nat) : Int) := by omega
    rw [e1]
    have hS8 := HS7.out.next (KA.out (.int .i64 ((k + 1 : Nat) : Int)))
    have hT8 : T8 _ rs w6.heap.size A8 c8 w7.heap.size (w7.heap.size + 1) (k + 1) := ⟨own_keep O8.out (KA.out (.int .i64 ((k + 1 : Nat) : Int))) (Nat.le_refl _), by simp; omega, by simp, A12.out _, A13.out _⟩
    have hM : (k + 1 = 0 ∧ rs.length = 0) ∨ (0 < k + 1 ∧ k + 1 ≤ rs.length) := .inr ⟨by omega, by omega⟩
    generalize hw8 : (w7.alloc (.cells #[.slice A8 rs.length c8] 47)).alloc (.cells #[.int .i64 ((k + 1 : Nat) : Int)] 3) = w8 at *
    generalize k + 1 = M at *
    clear hw8 kb k0 y5 HNE a13 e1
  all_goals
    clear KA A12 A13 HS7 O8
    generalize w6.heap.size = b8 at *
    generalize w7.heap.size = t12 at *
    refine ⟨trivial, ?_⟩
    gi_at_call 43
    refine (callsIn_wide.2 (each_any A5 n0 c5 _ b0 H0.out (by omega) _ (hS8.d5 H0.out) (Nat.le_refl _))).mono ?_
    rintro e w9 ⟨Bx, A9, c9', rfl, hx1, hx2, hcb, hc9, rdb, hb9⟩
    have hS9 := hS8.next hb9
    have hT9 := hT8.next hb9
    clear hS8 hT8 hb9
    gi_wp2_with fail
    have hrs : (scanF b0).1 = rs := by rw [hsc]
    have lt99 := hS9.lt9
    have lt98 := hS9.lt
    have lt97 := hT9.lt12
    have lt96 := hT9.lt13
    have HR0 : ∀ (k : Nat) (W W' : World), (Below w9.heap.size w9 W ∧ W.cell? ⟨w9.heap.size, 0, none⟩ = some (.int .i64 (k : Nat)) ∧ W.frozen? ⟨w9.heap.size, 0, none⟩ = false ∧ w9.heap.size < W.heap.size ∧ (k < M ∨ rs.length = 0)) → Below (w9.heap.size + 1) W W' →
        (Below w9.heap.size w9 W' ∧ W'.cell? ⟨w9.heap.size, 0, none⟩ = some (.int .i64 (k : Nat)) ∧ W'.frozen? ⟨w9.heap.size, 0, none⟩ = false ∧ w9.heap.size < W'.heap.size ∧ (k < M ∨ rs.length = 0)) := fun k W W' ⟨h1, h2, h3, h4, h5⟩ hb =>
      ⟨h1.trans (hb.mono (by omega)), (hb.cell (p := ⟨w9.heap.size, 0, none⟩) (by show w9.heap.size < _; omega)).trans h2, (hb.frozen (p := ⟨w9.heap.size, 0, none⟩) (by show w9.heap.size < _; omega)).trans h3, Nat.lt_of_lt_of_le h4 hb.size, h5⟩
    have HX0 : ∀ (W W' : World), (Below w9.heap.size w9 W ∧ W.cell? ⟨w9.heap.size, 0, none⟩ = some (.int .i64 (M : Nat)) ∧ w9.heap.size < W.heap.size) → Below (w9.heap.size + 1) W W' →
        (Below w9.heap.size w9 W' ∧ W'.cell? ⟨w9.heap.size, 0, none⟩ = some (.int .i64 (M : Nat)) ∧ w9.heap.size < W'.heap.size) := fun W W' ⟨h1, h2, h4⟩ hb =>
      ⟨h1.trans (hb.mono (by omega)), (hb.cell (p := ⟨w9.heap.size, 0, none⟩) (by show w9.heap.size < _; omega)).trans h2, Nat.lt_of_lt_of_le h4 hb.size⟩
    have HSC := Lib.hid hsc
    have HRS := Lib.hid hrs
    have HR1 := Lib.hid HR0
    have HX1 := Lib.hid HX0
    have HS9 := Lib.hid hS9
    have HT9 := Lib.hid hT9
    have HCB := Lib.hid hcb
    have HRB := Lib.hid rdb
    have HM := Lib.hid hM
    clear hsc hrs HR0 HX0 hS9 hT9 hcb rdb hM
    refine wpIn_loop_rounds 3 ?_
    rw [roundsIn_succ]
    gi_wp2_with fail
    have kx : Below w9.heap.size w9 (w9.alloc (.cells #[.int .i64 0] 3)) := (Below.refl _ _).alloc (Nat.le_refl _) _
    have sx : (w9.alloc (.cells #[.int .i64 0] 3)).heap.size = w9.heap.size + 1 := by simp
    refine range_each 8 (by omega) (.tmp 76) 2 Bx w9.heap.size A9 n0 c9' b0 rfl rfl H0.out (by omega) hc9 rs HRS.out ((kx.cell (p := ⟨Bx, 0, none⟩) hx2).trans HCB.out) hx2 (HRB.out.below kx) kx.size
      (fun k W => Below w9.heap.size w9 W ∧ W.cell? ⟨w9.heap.size, 0, none⟩ = some (.int .i64 (k : Nat)) ∧ W.frozen? ⟨w9.heap.size, 0, none⟩ = false ∧ w9.heap.size < W.heap.size ∧ (k < M ∨ rs.length = 0))
      (fun W => Below w9.heap.size w9 W ∧ W.cell? ⟨w9.heap.size, 0, none⟩ = some (.int .i64 (M : Nat)) ∧ w9.heap.size < W.heap.size)
      (fun k W W' h hb => HR1.out k W W' h (by rw [sx] at hb; exact hb)) (fun W W' h hb => HX1.out W W' h (by rw [sx] at hb; exact hb))
      ⟨kx, by rw [World.cell?_alloc_mark]; rfl, by simp, by simp, HM.out.elim (fun h => .inr h.2) (fun h => .inl h.1)⟩ ?_ ?_ ?_
    · intro l k A1 c1 hk W W2 K hR2 hrd hc1 hsz hK
      obtain ⟨h1, h2, h3, h4, h5⟩ := hR2
      have hS2 := HS9.out.next h1
      have hT2 := HT9.out.next h1
      have c9 := hS2.c9
      have c12 := hT2.c12
      have c13 := hT2.c13
      obtain ⟨b7, o7, Ai, ci, rfl, hb7, hc7, h71, h72, h73⟩ := (hS2.r7.rr HSM.out).at_ hk
      obtain ⟨b8, o8, rfl, hb8, hc8⟩ := (Rd.own hT2.own).at_ (begV_get rs rs.length k hk)
      obtain ⟨y, hy⟩ : ∃ y, rs[k] = y := ⟨_, rfl⟩
      obtain ⟨m, hm⟩ : ∃ m, y.length = m := ⟨_, rfl⟩
      obtain ⟨p, hp⟩ : ∃ p, endAt rs k = p := ⟨_, rfl⟩
      rw [hy] at hrd hc1 hc7 h71 h73
      rw [hm] at hc7 h71 hc1
      rw [hp] at hc8
      have i0 : (0 : Int) ≤ (k : Int) := by omega
      have i1 : (k : Int) < (rs.length : Int) := by omega
      have HRD := Lib.hid hrd
      have H73 := Lib.hid h73
      have HY := Lib.hid hy
      have HMM := Lib.hid hm
      have HPP := Lib.hid hp
      have HH1 := Lib.hid h1
      have HHS := Lib.hid hsz
      have HH5 := Lib.hid h5
      clear hrd h73 hS2 hT2 h1 hsz h5
      simp only [hy, hm, hp]
      clear hy hm hp
      gi_wp2_with fail
      refine ⟨trivial, ?_⟩
      gi_at_call 20
      refine (CallsIn.inRound l (callsIn_wide.2 (same_any A1 Ai m m c1 ci _ _ y y HMM.out HMM.out (by omega) W2 HRD.out H73.out))).mono ?_
      rintro e w' ⟨rfl, m2, rfl⟩
      rw [decide_eq_true (rfl : y = y)]
      have g2 : (W2.drewN m2).cell? ⟨w9.heap.size, 0, none⟩ = some (.int .i64 (k : Nat)) := h2
      have g3 : (W2.drewN m2).frozen? ⟨w9.heap.size, 0, none⟩ = false := h3
      have g13 : (W2.drewN m2).cell? ⟨t12 + 1, 0, none⟩ = some (.int .i64 (M : Nat)) := c13
      have kb : (k : Int) < 20000 := by omega
      have G2 := Lib.hid g2
      have HBW := Lib.hid (below_dn' HH1.out m2)
      clear c9 c12 c13 hc7 hc8 HRD H73 h2 h3
      by_cases hend : k + 1 = M
      · have ee : ((k : Int) + 1 == (M : Int)) = true := by rw [beq_iff_eq]; omega
        have HEND := Lib.hid hend
        clear hend
        gi_wp2
        all_goals
          exact ⟨rfl, ⟨HBW.out.setCell (p := ⟨w9.heap.size, 0, none⟩) (Nat.le_refl _) _,
            (World.cell?_setCell_same _ _ _ G2.out).trans (by rw [show ((M : Nat) : Int) = (k : Int) + 1 by have := HEND.out; omega]),
            by simpa [World.setCell] using h4⟩, by simp [World.setCell],
            fun b hb hlt => Below.heap_setCell _ _ _ _ (by show b ≠ w9.heap.size; rw [sx] at hb; omega)⟩
      · have ee : ((k : Int) + 1 == (M : Int)) = false := by rw [beq_eq_false_iff_ne]; omega
        have HEND := Lib.hid hend
        clear hend
        gi_wp2
        all_goals
          exact ⟨⟨HBW.out.setCell (p := ⟨w9.heap.size, 0, none⟩) (Nat.le_refl _) _,
            (World.cell?_setCell_same _ _ _ G2.out).trans (by rw [show (((k + 1 : Nat)) : Int) = (k : Int) + 1 by omega]),
            by simpa using g3, by simpa [World.setCell] using h4, by have := HEND.out; have := HH5.out; omega⟩,
            (below_dn' (Below.refl _ _) m2).setCell (p := ⟨w9.heap.size, 0, none⟩) (Nat.le_refl _) _, by simp [World.setCell],
            fun b hb hlt => Below.heap_setCell _ _ _ _ (by show b ≠ w9.heap.size; rw [sx] at hb; omega)⟩
    · intro w10 hR hD
      obtain ⟨h1, h2, h3, h4, h5⟩ := hR
      have hM2 : rs.length = M := by have := HM.out; omega
      have c13 := (HT9.out.next h1).c13
      have ee : (((rs.length : Nat) : Int) != (M : Int)) = false := by rw [bne_eq_false_iff_eq]; omega
      clear hM2
      gi_wp2_with fail
      clear ee c13 h2 h3 h5
      rw [sx] at hD
      have HS10 := Lib.hid (HS9.out.next h1)
      have HT10 := Lib.hid (HT9.out.next h1)
      have HCB10 : Hid (w10.cell? ⟨Bx, 0, none⟩ = some (.slice A9 n0 c9')) := Lib.hid ((h1.cell (p := ⟨Bx, 0, none⟩) hx2).trans HCB.out)
      have HRB10 : Hid (Rd w10 w10.heap.size A9 (bv b0)) := Lib.hid ((HRB.out.below h1).more h1.size)
      have hx10 : Bx < w10.heap.size := Nat.lt_of_lt_of_le hx2 h1.size
      have HD1 := Lib.hid hD
      have HLT := Lib.hid (fun (i : Nat) (v : Value) (hv : vs6[i]? = some v) (g : Nat) (hg : v.ownBlock = some g) => (HS9.out.r6.lt hv hg).2)
      have HLV := Lib.hid (fun (g : Nat) (hg : (Value.slice A6 rs.length c6).ownBlock = some g) => (HS9.out.r6.own.lt g hg).2)
      have HF := Lib.hid HS9.out.ge6
      have ltD : w9.heap.size + 1 < w10.heap.size := (Array.getElem?_eq_some_iff.1 hD).1
      clear hD h1 h4 kx sx HCB HRB hx2 HR1 HX1 lt99 lt98 lt97 lt96
      have lt99 := HS10.out.lt9
      have lt98 := HS10.out.lt
      have lt97 := HT10.out.lt12
      have lt96 := HT10.out.lt13
      have HR0 : ∀ (k : Nat) (W W' : World), (Below w10.heap.size w10 W ∧ W.cell? ⟨w10.heap.size, 0, none⟩ = some (.int .i64 (k : Nat)) ∧ W.frozen? ⟨w10.heap.size, 0, none⟩ = false ∧ w10.heap.size < W.heap.size ∧ (k < M ∨ rs.length = 0)) → Below (w10.heap.size + 1) W W' →
          (Below w10.heap.size w10 W' ∧ W'.cell? ⟨w10.heap.size, 0, none⟩ = some (.int .i64 (k : Nat)) ∧ W'.frozen? ⟨w10.heap.size, 0, none⟩ = false ∧ w10.heap.size < W'.heap.size ∧ (k < M ∨ rs.length = 0)) := fun k W W' ⟨h1, h2, h3, h4, h5⟩ hb =>
        ⟨h1.trans (hb.mono (by omega)), (hb.cell (p := ⟨w10.heap.size, 0, none⟩) (by show w10.heap.size < _; omega)).trans h2, (hb.frozen (p := ⟨w10.heap.size, 0, none⟩) (by show w10.heap.size < _; omega)).trans h3, Nat.lt_of_lt_of_le h4 hb.size, h5⟩
      have HX0 : ∀ (W W' : World), (Below w10.heap.size w10 W ∧ W.cell? ⟨w10.heap.size, 0, none⟩ = some (.int .i64 (M : Nat)) ∧ w10.heap.size < W.heap.size) → Below (w10.heap.size + 1) W W' →
          (Below w10.heap.size w10 W' ∧ W'.cell? ⟨w10.heap.size, 0, none⟩ = some (.int .i64 (M : Nat)) ∧ w10.heap.size < W'.heap.size) := fun W W' ⟨h1, h2, h4⟩ hb =>
        ⟨h1.trans (hb.mono (by omega)), (hb.cell (p := ⟨w10.heap.size, 0, none⟩) (by show w10.heap.size < _; omega)).trans h2, Nat.lt_of_lt_of_le h4 hb.size⟩
      have HR11 := Lib.hid HR0
      have HX11 := Lib.hid HX0
      clear HR0 HX0
      rw [roundsIn_succ]
      gi_wp2_with fail
      have kx : Below w10.heap.size w10 (w10.alloc (.cells #[.int .i64 0] 3)) := (Below.refl _ _).alloc (Nat.le_refl _) _
      have sx : (w10.alloc (.cells #[.int .i64 0] 3)).heap.size = w10.heap.size + 1 := by simp
      refine range_each 8 (by omega) (.tmp 76) 2 Bx w10.heap.size A9 n0 c9' b0 rfl rfl H0.out (by omega) hc9 rs HRS.out ((kx.cell (p := ⟨Bx, 0, none⟩) hx10).trans HCB10.out) hx10 (HRB10.out.below kx) kx.size
        (fun k W => Below w10.heap.size w10 W ∧ W.cell? ⟨w10.heap.size, 0, none⟩ = some (.int .i64 (k : Nat)) ∧ W.frozen? ⟨w10.heap.size, 0, none⟩ = false ∧ w10.heap.size < W.heap.size ∧ (k < M ∨ rs.length = 0))
        (fun W => Below w10.heap.size w10 W ∧ W.cell? ⟨w10.heap.size, 0, none⟩ = some (.int .i64 (M : Nat)) ∧ w10.heap.size < W.heap.size)
        (fun k W W' h hb => HR11.out k W W' h (by rw [sx] at hb; exact hb)) (fun W W' h hb => HX11.out W W' h (by rw [sx] at hb; exact hb))
        ⟨kx, by rw [World.cell?_alloc_mark]; rfl, by simp, by simp, HM.out.elim (fun h => .inr h.2) (fun h => .inl h.1)⟩ ?_ ?_ ?_
      · intro l k A1 c1 hk W W2 K hR2 hrd hc1 hsz hK
        obtain ⟨h1, h2, h3, h4, h5⟩ := hR2
        have hS2 := HS10.out.next h1
        have hT2 := HT10.out.next h1
        have c9 := hS2.c9
        have c12 := hT2.c12
        have c13 := hT2.c13
        obtain ⟨b7, o7, Ai, ci, rfl, hb7, hc7, h71, h72, h73⟩ := (hS2.r7.rr HSM.out).at_ hk
        obtain ⟨b8, o8, rfl, hb8, hc8⟩ := (Rd.own hT2.own).at_ (begV_get rs rs.length k hk)
        obtain ⟨y, hy⟩ : ∃ y, rs[k] = y := ⟨_, rfl⟩
        obtain ⟨m, hm⟩ : ∃ m, y.length = m := ⟨_, rfl⟩
        obtain ⟨p, hp⟩ : ∃ p, endAt rs k = p := ⟨_, rfl⟩
        rw [hy] at hrd hc1 hc7 h71 h73
        rw [hm] at hc7 h71 hc1
        rw [hp] at hc8
        have i0 : (0 : Int) ≤ (k : Int) := by omega
        have i1 : (k : Int) < (rs.length : Int) := by omega
        have HRD := Lib.hid hrd
        have H73 := Lib.hid h73
        have HY := Lib.hid hy
        have HMM := Lib.hid hm
        have HPP := Lib.hid hp
        have HH1 := Lib.hid h1
        have HHS := Lib.hid hsz
        have HH5 := Lib.hid h5
        clear hrd h73 hS2 hT2 h1 hsz h5
        simp only [hy, hm, hp]
        clear hy hm hp
        gi_wp2_with fail
        refine ⟨trivial, ?_⟩
        gi_at_call 20
        refine (CallsIn.inRound l (callsIn_wide.2 (same_any A1 Ai m m c1 ci _ _ y y HMM.out HMM.out (by omega) W2 HRD.out H73.out))).mono ?_
        rintro e w' ⟨rfl, m2, rfl⟩
        rw [decide_eq_true (rfl : y = y)]
        have g2 : (W2.drewN m2).cell? ⟨w10.heap.size, 0, none⟩ = some (.int .i64 (k : Nat)) := h2
        have g3 : (W2.drewN m2).frozen? ⟨w10.heap.size, 0, none⟩ = false := h3
        have g13 : (W2.drewN m2).cell? ⟨t12 + 1, 0, none⟩ = some (.int .i64 (M : Nat)) := c13
        have kb : (k : Int) < 20000 := by omega
        have G2 := Lib.hid g2
        have HBW := Lib.hid (below_dn' HH1.out m2)
        clear c9 c12 c13 hc7 hc8 HRD H73 h2 h3
        by_cases hend : k + 1 = M
        · have ee : ((k : Int) + 1 == (M : Int)) = true := by rw [beq_iff_eq]; omega
          have HEND := Lib.hid hend
          clear hend
          gi_wp2
          all_goals
            exact ⟨rfl, ⟨HBW.out.setCell (p := ⟨w10.heap.size, 0, none⟩) (Nat.le_refl _) _,
              (World.cell?_setCell_same _ _ _ G2.out).trans (by rw [show ((M : Nat) : Int) = (k : Int) + 1 by have := HEND.out; omega]),
              by simpa [World.setCell] using h4⟩, by simp [World.setCell],
              fun b hb hlt => Below.heap_setCell _ _ _ _ (by show b ≠ w10.heap.size; rw [sx] at hb; omega)⟩
        · have ee : ((k : Int) + 1 == (M : Int)) = false := by rw [beq_eq_false_iff_ne]; omega
          have HEND := Lib.hid hend
          clear hend
          gi_wp2
          all_goals
            exact ⟨⟨HBW.out.setCell (p := ⟨w10.heap.size, 0, none⟩) (Nat.le_refl _) _,
              (World.cell?_setCell_same _ _ _ G2.out).trans (by rw [show (((k + 1 : Nat)) : Int) = (k : Int) + 1 by omega]),
              by simpa using g3, by simpa [World.setCell] using h4, by have := HEND.out; have := HH5.out; omega⟩,
              (below_dn' (Below.refl _ _) m2).setCell (p := ⟨w10.heap.size, 0, none⟩) (Nat.le_refl _) _, by simp [World.setCell],
              fun b hb hlt => Below.heap_setCell _ _ _ _ (by show b ≠ w10.heap.size; rw [sx] at hb; omega)⟩
      · intro w11 hR hD
        obtain ⟨h1, h2, h3, h4, h5⟩ := hR
        have hM2 : rs.length = M := by have := HM.out; omega
        have c13 := (HT10.out.next h1).c13
        have ee : (((rs.length : Nat) : Int) != (M : Int)) = false := by rw [bne_eq_false_iff_eq]; omega
        clear hM2
        gi_wp2_with fail
        clear ee c13 h2 h3 h5
        rw [sx] at hD
        have HS11 := Lib.hid (HS10.out.next h1)
        have HD2 := Lib.hid hD
        have HD1' : Hid (w11.heap[w9.heap.size + 1]? = some (.deferred (some []))) := Lib.hid ((h1.block _ ltD).trans HD1.out)
        have ltE : w10.heap.size + 1 < w11.heap.size := (Array.getElem?_eq_some_iff.1 hD).1
        clear hD h1 h4 kx sx HCB10 HRB10 hx10 HR11 HX11 HD1 HT10 HS10 HT9 HS9
        rw [roundsIn_succ]
        gi_wp2_with fail
        refine ⟨trivial, ?_⟩
        gi_at_call 29
        refine (callsIn_wide.2 (kept_any A5 A0 (n0 + 3) n0 c5 c0 _ _ (lent b0) b0 (by rw [lent_length, H0.out]) H0.out (by omega) (by omega) _ (Rd.own HS11.out.o5) (Nat.le_refl _) (R0.out.below HS11.out.hb) (Nat.le_of_lt HS11.out.lt))).mono ?_
        rintro e w12 ⟨rfl, hb12⟩
        rw [decide_eq_true (rfl : lent b0 = lent b0)]
        have HS12 := Lib.hid (HS11.out.next hb12)
        have HE1 : Hid (w12.heap[w9.heap.size + 1]? = some (.deferred (some []))) := Lib.hid ((hb12.block _ (by omega)).trans HD1'.out)
        have HE2 : Hid (w12.heap[w10.heap.size + 1]? = some (.deferred (some []))) := Lib.hid ((hb12.block _ ltE).trans HD2.out)
        clear hb12 HS11 HD1' HD2
        have gg := HS12.out.ge6
        gi_wp2_with (gi_at_builtin; refine wpListIn_app sty38 (.tmp 112) (.tmp 114) (by rfl) rfl b6 (HS12.out.r6.own.alloc _) rfl 1 1 (rd_one _ _ _) rfl rfl (by simp [Value.oneCell']) (by unfold maxLen; omega) (by omega) (by simp; omega) ?_; intro v3 w13 own3 gr3 nil3 at3)
        refine ⟨trivial, ?_⟩
        gi_at_call 30
        have r6 := HS12.out.r6
        have le6 := HS12.out.le6
        have le5 := HS12.out.le5
        have hR : Rows w12 w.heap.size (.slice A6 rs.length c6) rs.length vs6 rs := ⟨r6.own.mono (Nat.le_of_lt le6), r6.len, fun i v bs h1 h2 => (r6.each i v bs h1 h2).mono (Nat.le_of_lt le6), r6.apart, r6.outer⟩
        have hP := (hR.alloc (.cells #[.slice A5 (n0 + 3) c5] 22)).push (u := .slice A5 (n0 + 3) c5) (bs := lent b0) (by rw [lent_length, H0.out]; exact (HS12.out.o5.mono (Nat.le_of_lt le5)).alloc _) (by have := HS12.out.lt; simp; omega)
          (fun g hg => ⟨fun i v hv e => by have h1 := HS12.out.f5 g hg; have h2 := (r6.lt hv e).1; omega, fun e => by have h1 := HS12.out.f5 g hg; have h2 := (r6.own.lt g e).1; omega⟩) (own3.mono (Nat.le_of_lt le6)) gr3 at3
        obtain ⟨A13, c13, rfl, _, _, rd13⟩ := own_rd4 own3
        have HB13 := Lib.hid (((HS12.out.hb).alloc (Nat.le_of_lt HS12.out.lt) (.cells #[.slice A5 (n0 + 3) c5] 22)).grown gr3 (by have := HS12.out.lt; simp; omega) (fun g hg => by have h2 := (r6.own.lt g hg).1; omega))
        refine (callsIn_wide.2 (apart2_any A13 (rs.length + 1) c13 w13.heap.size w.heap.size _ _ hP.vlen hP.len (by omega) w13 rd13 (Nat.le_refl _) HB13.out.size hP.each hP.apart
          (fun g o e i v hv hv2 => by
            rcases hP.outer i v hv with h | h
            · rw [hv2] at h; cases h
            · exact h (by rw [hv2, e]; rfl))
          (fun i bs h => by
            rcases List.mem_append.1 (List.mem_of_getElem? h) with h | h
            · exact HSM.out _ h
            · have h' := List.mem_singleton.1 h
              subst h'
              rw [lent_length, H0.out]
              omega))).mono ?_
        rintro e w14 ⟨rfl, hb14, hk14⟩
        have sz13 : w12.heap.size + 1 ≤ w13.heap.size := by have := gr3.size; simpa using this
        have hall : ∀ g, g < w12.heap.size → (g = w.heap.size ∨ w9.heap.size ≤ g) → w14.heap[g]? = w12.heap[g]? := fun g hg hh => by
          have e1 := hk14 g (by omega) (fun i v hv e => by
            rcases List.mem_append.1 (List.mem_of_getElem? hv) with h | h
            · obtain ⟨i', hi'⟩ := List.getElem?_of_mem h
              have h1 := HLT.out i' v hi' g e
              have h2 := (r6.lt hi' e).1
              omega
            · have h' := List.mem_singleton.1 h
              subst h'
              have h1 := HS12.out.f5 g e
              have h2 := (HS12.out.o5.lt g e).1
              have h3 := HF.out
              omega)
          have e2 := gr3.block g (by simp; omega) (fun e => by
            have h1 := HLV.out g e.symm
            have h2 := (r6.own.lt g e.symm).1
            omega)
          exact e1.trans (e2.trans (Below.heap_alloc _ _ _ hg))
        have hc14 : w14.cell? ⟨w.heap.size, 0, none⟩ = some (.bool false) := (World.cell?_of_block (a := ⟨w.heap.size, 0, none⟩) (hall _ HS12.out.lt (.inl rfl))).trans HS12.out.c
        have hz14 : w14.frozen? ⟨w.heap.size, 0, none⟩ = false := (World.frozen?_of_block (a := ⟨w.heap.size, 0, none⟩) (hall _ HS12.out.lt (.inl rfl))).trans HS12.out.z
        have l1 : w9.heap.size + 1 < w12.heap.size := (Array.getElem?_eq_some_iff.1 HE1.out).1
        have l2 : w10.heap.size + 1 < w12.heap.size := (Array.getElem?_eq_some_iff.1 HE2.out).1
        have HG1 := Lib.hid ((hall _ l1 (.inr (by omega))).trans HE1.out)
        have HG2 := Lib.hid ((hall _ l2 (.inr (by omega))).trans HE2.out)
        have HB14 := Lib.hid (HB13.out.trans hb14)
        have HC14 := Lib.hid hc14
        have l0 := HS12.out.lt
        clear hall hb14 hk14 hP hR r6 gr3 at3 nil3 own3 rd13
        gi_wp2
        have l3 := HF.out
        have m2 : (w14.setCell ⟨w.heap.size, 0, none⟩ (.bool true)).heap[w10.heap.size + 1]? = some (.deferred (some [])) := (Below.heap_setCell _ _ _ _ (by show w10.heap.size + 1 ≠ w.heap.size; omega)).trans HG2.out
        have m1 : (w14.setCell ⟨w.heap.size, 0, none⟩ (.bool true)).heap[w9.heap.size + 1]? = some (.deferred (some [])) := (Below.heap_setCell _ _ _ _ (by show w9.heap.size + 1 ≠ w.heap.size; omega)).trans HG1.out
        refine ⟨by simp, .inl ⟨_, _, rfl, run_takeDeferred m2, ?_⟩⟩
        refine ⟨by simp, .inl ⟨_, _, rfl, run_takeDeferred ((World.putObj_heap_other (by omega)).trans m1), ?_⟩⟩
        refine leave13 rfl ?_ ⟨rfl, ?_⟩
        · exact (World.cell?_of_block (a := ⟨w.heap.size, 0, none⟩) ((World.putObj_heap_other (by show w.heap.size ≠ _; omega)).trans (World.putObj_heap_other (by show w.heap.size ≠ _; omega)))).trans (World.cell?_setCell_same _ _ _ HC14.out)
        · exact ((HB14.out.setCell (p := ⟨w.heap.size, 0, none⟩) (Nat.le_refl _) _).trans (putObj_below (w := w) _ (by omega))).trans (putObj_below (w := w) _ (by omega))
      · intro w11 hX hD
        obtain ⟨h1, h2, h4⟩ := hX
        have c13 := (HT10.out.next h1).c13
        have ee : (((M : Nat) : Int) != (M : Int)) = false := by simp
        gi_wp2_with fail
        clear ee c13 h2
        rw [sx] at hD
        have HS11 := Lib.hid (HS10.out.next h1)
        have HD2 := Lib.hid hD
        have HD1' : Hid (w11.heap[w9.heap.size + 1]? = some (.deferred (some []))) := Lib.hid ((h1.block _ ltD).trans HD1.out)
        have ltE : w10.heap.size + 1 < w11.heap.size := (Array.getElem?_eq_some_iff.1 hD).1
        clear hD h1 h4 kx sx HCB10 HRB10 hx10 HR11 HX11 HD1 HT10 HS10 HT9 HS9
        rw [roundsIn_succ]
        gi_wp2_with fail
        refine ⟨trivial, ?_⟩
        gi_at_call 29
        refine (callsIn_wide.2 (kept_any A5 A0 (n0 + 3) n0 c5 c0 _ _ (lent b0) b0 (by rw [lent_length, H0.out]) H0.out (by omega) (by omega) _ (Rd.own HS11.out.o5) (Nat.le_refl _) (R0.out.below HS11.out.hb) (Nat.le_of_lt HS11.out.lt))).mono ?_
        rintro e w12 ⟨rfl, hb12⟩
        rw [decide_eq_true (rfl : lent b0 = lent b0)]
        have HS12 := Lib.hid (HS11.out.next hb12)
        have HE1 : Hid (w12.heap[w9.heap.size + 1]? = some (.deferred (some []))) := Lib.hid ((hb12.block _ (by omega)).trans HD1'.out)
        have HE2 : Hid (w12.heap[w10.heap.size + 1]? = some (.deferred (some []))) := Lib.hid ((hb12.block _ ltE).trans HD2.out)
        clear hb12 HS11 HD1' HD2
        have gg := HS12.out.ge6
        gi_wp2_with (gi_at_builtin; refine wpListIn_app sty38 (.tmp 112) (.tmp 114) (by rfl) rfl b6 (HS12.out.r6.own.alloc _) rfl 1 1 (rd_one _ _ _) rfl rfl (by simp [Value.oneCell']) (by unfold maxLen; omega) (by omega) (by simp; omega) ?_; intro v3 w13 own3 gr3 nil3 at3)
        refine ⟨trivial, ?_⟩
        gi_at_call 30
        have r6 := HS12.out.r6
        have le6 := HS12.out.le6
        have le5 := HS12.out.le5
        have hR : Rows w12 w.heap.size (.slice A6 rs.length c6) rs.length vs6 rs := ⟨r6.own.mono (Nat.le_of_lt le6), r6.len, fun i v bs h1 h2 => (r6.each i v bs h1 h2).mono (Nat.le_of_lt le6), r6.apart, r6.outer⟩
        have hP := (hR.alloc (.cells #[.slice A5 (n0 + 3) c5] 22)).push (u := .slice A5 (n0 + 3) c5) (bs := lent b0) (by rw [lent_length, H0.out]; exact (HS12.out.o5.mono (Nat.le_of_lt le5)).alloc _) (by have := HS12.out.lt; simp; omega)
          (fun g hg => ⟨fun i v hv e => by have h1 := HS12.out.f5 g hg; have h2 := (r6.lt hv e).1; omega, fun e => by have h1 := HS12.out.f5 g hg; have h2 := (r6.own.lt g e).1; omega⟩) (own3.mono (Nat.le_of_lt le6)) gr3 at3
        obtain ⟨A13, c13, rfl, _, _, rd13⟩ := own_rd4 own3
        have HB13 := Lib.hid (((HS12.out.hb).alloc (Nat.le_of_lt HS12.out.lt) (.cells #[.slice A5 (n0 + 3) c5] 22)).grown gr3 (by have := HS12.out.lt; simp; omega) (fun g hg => by have h2 := (r6.own.lt g hg).1; omega))
        refine (callsIn_wide.2 (apart2_any A13 (rs.length + 1) c13 w13.heap.size w.heap.size _ _ hP.vlen hP.len (by omega) w13 rd13 (Nat.le_refl _) HB13.out.size hP.each hP.apart
          (fun g o e i v hv hv2 => by
            rcases hP.outer i v hv with h | h
            · rw [hv2] at h; cases h
            · exact h (by rw [hv2, e]; rfl))
          (fun i bs h => by
            rcases List.mem_append.1 (List.mem_of_getElem? h) with h | h
            · exact HSM.out _ h
            · have h' := List.mem_singleton.1 h
              subst h'
              rw [lent_length, H0.out]
              omega))).mono ?_
        rintro e w14 ⟨rfl, hb14, hk14⟩
        have sz13 : w12.heap.size + 1 ≤ w13.heap.size := by have := gr3.size; simpa using this
        have hall : ∀ g, g < w12.heap.size → (g = w.heap.size ∨ w9.heap.size ≤ g) → w14.heap[g]? = w12.heap[g]? := fun g hg hh => by
          have e1 := hk14 g (by omega) (fun i v hv e => by
            rcases List.mem_append.1 (List.mem_of_getElem? hv) with h | h
            · obtain ⟨i', hi'⟩ := List.getElem?_of_mem h
              have h1 := HLT.out i' v hi' g e
              have h2 := (r6.lt hi' e).1
              omega
            · have h' := List.mem_singleton.1 h
              subst h'
              have h1 := HS12.out.f5 g e
              have h2 := (HS12.out.o5.lt g e).1
              have h3 := HF.out
              omega)
          have e2 := gr3.block g (by simp; omega) (fun e => by
            have h1 := HLV.out g e.symm
            have h2 := (r6.own.lt g e.symm).1
            omega)
          exact e1.trans (e2.trans (Below.heap_alloc _ _ _ hg))
        have hc14 : w14.cell? ⟨w.heap.size, 0, none⟩ = some (.bool false) := (World.cell?_of_block (a := ⟨w.heap.size, 0, none⟩) (hall _ HS12.out.lt (.inl rfl))).trans HS12.out.c
        have hz14 : w14.frozen? ⟨w.heap.size, 0, none⟩ = false := (World.frozen?_of_block (a := ⟨w.heap.size, 0, none⟩) (hall _ HS12.out.lt (.inl rfl))).trans HS12.out.z
        have l1 : w9.heap.size + 1 < w12.heap.size := (Array.getElem?_eq_some_iff.1 HE1.out).1
        have l2 : w10.heap.size + 1 < w12.heap.size := (Array.getElem?_eq_some_iff.1 HE2.out).1
        have HG1 := Lib.hid ((hall _ l1 (.inr (by omega))).trans HE1.out)
        have HG2 := Lib.hid ((hall _ l2 (.inr (by omega))).trans HE2.out)
        have HB14 := Lib.hid (HB13.out.trans hb14)
        have HC14 := Lib.hid hc14
        have l0 := HS12.out.lt
        clear hall hb14 hk14 hP hR r6 gr3 at3 nil3 own3 rd13
        gi_wp2
        have l3 := HF.out
        have m2 : (w14.setCell ⟨w.heap.size, 0, none⟩ (.bool true)).heap[w10.heap.size + 1]? = some (.deferred (some [])) := (Below.heap_setCell _ _ _ _ (by show w10.heap.size + 1 ≠ w.heap.size; omega)).trans HG2.out
        have m1 : (w14.setCell ⟨w.heap.size, 0, none⟩ (.bool true)).heap[w9.heap.size + 1]? = some (.deferred (some [])) := (Below.heap_setCell _ _ _ _ (by show w9.heap.size + 1 ≠ w.heap.size; omega)).trans HG1.out
        refine ⟨by simp, .inl ⟨_, _, rfl, run_takeDeferred m2, ?_⟩⟩
        refine ⟨by simp, .inl ⟨_, _, rfl, run_takeDeferred ((World.putObj_heap_other (by omega)).trans m1), ?_⟩⟩
        refine leave13 rfl ?_ ⟨rfl, ?_⟩
        · exact (World.cell?_of_block (a := ⟨w.heap.size, 0, none⟩) ((World.putObj_heap_other (by show w.heap.size ≠ _; omega)).trans (World.putObj_heap_other (by show w.heap.size ≠ _; omega)))).trans (World.cell?_setCell_same _ _ _ HC14.out)
        · exact ((HB14.out.setCell (p := ⟨w.heap.size, 0, none⟩) (Nat.le_refl _) _).trans (putObj_below (w := w) _ (by omega))).trans (putObj_below (w := w) _ (by omega))
    · intro w10 hX hD
      obtain ⟨h1, h2, h4⟩ := hX
      have c13 := (HT9.out.next h1).c13
      have ee : (((M : Nat) : Int) != (M : Int)) = false := by simp
      gi_wp2_with fail
      clear ee c13 h2
      rw [sx] at hD
      have HS10 := Lib.hid (HS9.out.next h1)
      have HT10 := Lib.hid (HT9.out.next h1)
      have HCB10 : Hid (w10.cell? ⟨Bx, 0, none⟩ = some (.slice A9 n0 c9')) := Lib.hid ((h1.cell (p := ⟨Bx, 0, none⟩) hx2).trans HCB.out)
      have HRB10 : Hid (Rd w10 w10.heap.size A9 (bv b0)) := Lib.hid ((HRB.out.below h1).more h1.size)
      have hx10 : Bx < w10.heap.size := Nat.lt_of_lt_of_le hx2 h1.size
      have HD1 := Lib.hid hD
      have HLT := Lib.hid (fun (i : Nat) (v : Value) (hv : vs6[i]? = some v) (g : Nat) (hg : v.ownBlock = some g) => (HS9.out.r6.lt hv hg).2)
      have HLV := Lib.hid (fun (g : Nat) (hg : (Value.slice A6 rs.length c6).ownBlock = some g) => (HS9.out.r6.own.lt g hg).2)
      have HF := Lib.hid HS9.out.ge6
      have ltD : w9.heap.size + 1 < w10.heap.size := (Array.getElem?_eq_some_iff.1 hD).1
      clear hD h1 h4 kx sx HCB HRB hx2 HR1 HX1 lt99 lt98 lt97 lt96
      have lt99 := HS10.out.lt9
      have lt98 := HS10.out.lt
      have lt97 := HT10.out.lt12
      have lt96 := HT10.out.lt13
      have HR0 : ∀ (k : Nat) (W W' : World), (Below w10.heap.size w10 W ∧ W.cell? ⟨w10.heap.size, 0, none⟩ = some (.int .i64 (k : Nat)) ∧ W.frozen? ⟨w10.heap.size, 0, none⟩ = false ∧ w10.heap.size < W.heap.size ∧ (k < M ∨ rs.length = 0)) → Below (w10.heap.size + 1) W W' →
          (Below w10.heap.size w10 W' ∧ W'.cell? ⟨w10.heap.size, 0, none⟩ = some (.int .i64 (k : Nat)) ∧ W'.frozen? ⟨w10.heap.size, 0, none⟩ = false ∧ w10.heap.size < W'.heap.size ∧ (k < M ∨ rs.length = 0)) := fun k W W' ⟨h1, h2, h3, h4, h5⟩ hb =>
        ⟨h1.trans (hb.mono (by omega)), (hb.cell (p := ⟨w10.heap.size, 0, none⟩) (by show w10.heap.size < _; omega)).trans h2, (hb.frozen (p := ⟨w10.heap.size, 0, none⟩) (by show w10.heap.size < _; omega)).trans h3, Nat.lt_of_lt_of_le h4 hb.size, h5⟩
      have HX0 : ∀ (W W' : World), (Below w10.heap.size w10 W ∧ W.cell? ⟨w10.heap.size, 0, none⟩ = some (.int .i64 (M : Nat)) ∧ w10.heap.size < W.heap.size) → Below (w10.heap.size + 1) W W' →
          (Below w10.heap.size w10 W' ∧ W'.cell? ⟨w10.heap.size, 0, none⟩ = some (.int .i64 (M : Nat)) ∧ w10.heap.size < W'.heap.size) := fun W W' ⟨h1, h2, h4⟩ hb =>
        ⟨h1.trans (hb.mono (by omega)), (hb.cell (p := ⟨w10.heap.size, 0, none⟩) (by show w10.heap.size < _; omega)).trans h2, Nat.lt_of_lt_of_le h4 hb.size⟩
      have HR11 := Lib.hid HR0
      have HX11 := Lib.hid HX0
      clear HR0 HX0
      rw [roundsIn_succ]
      gi_wp2_with fail
      have kx : Below w10.heap.size w10 (w10.alloc (.cells #[.int .i64 0] 3)) := (Below.refl _ _).alloc (Nat.le_refl _) _
      have sx : (w10.alloc (.cells #[.int .i64 0] 3)).heap.size = w10.heap.size + 1 := by simp
      refine range_each 8 (by omega) (.tmp 76) 2 Bx w10.heap.size A9 n0 c9' b0 rfl rfl H0.out (by omega) hc9 rs HRS.out ((kx.cell (p := ⟨Bx, 0, none⟩) hx10).trans HCB10.out) hx10 (HRB10.out.below kx) kx.size
        (fun k W => Below w10.heap.size w10 W ∧ W.cell? ⟨w10.heap.size, 0, none⟩ = some (.int .i64 (k : Nat)) ∧ W.frozen? ⟨w10.heap.size, 0, none⟩ = false ∧ w10.heap.size < W.heap.size ∧ (k < M ∨ rs.length = 0))
        (fun W => Below w10.heap.size w10 W ∧ W.cell? ⟨w10.heap.size, 0, none⟩ = some (.int .i64 (M : Nat)) ∧ w10.heap.size < W.heap.size)
        (fun k W W' h hb => HR11.out k W W' h (by rw [sx] at hb; exact hb)) (fun W W' h hb => HX11.out W W' h (by rw [sx] at hb; exact hb))
        ⟨kx, by rw [World.cell?_alloc_mark]; rfl, by simp, by simp, HM.out.elim (fun h => .inr h.2) (fun h => .inl h.1)⟩ ?_ ?_ ?_
      · intro l k A1 c1 hk W W2 K hR2 hrd hc1 hsz hK
        obtain ⟨h1, h2, h3, h4, h5⟩ := hR2
        have hS2 := HS10.out.next h1
        have hT2 := HT10.out.next h1
        have c9 := hS2.c9
        have c12 := hT2.c12
        have c13 := hT2.c13
        obtain ⟨b7, o7, Ai, ci, rfl, hb7, hc7, h71, h72, h73⟩ := (hS2.r7.rr HSM.out).at_ hk
        obtain ⟨b8, o8, rfl, hb8, hc8⟩ := (Rd.own hT2.own).at_ (begV_get rs rs.length k hk)
        obtain ⟨y, hy⟩ : ∃ y, rs[k] = y := ⟨_, rfl⟩
        obtain ⟨m, hm⟩ : ∃ m, y.length = m := ⟨_, rfl⟩
        obtain ⟨p, hp⟩ : ∃ p, endAt rs k = p := ⟨_, rfl⟩
        rw [hy] at hrd hc1 hc7 h71 h73
        rw [hm] at hc7 h71 hc1
        rw [hp] at hc8
        have i0 : (0 : Int) ≤ (k : Int) := by omega
        have i1 : (k : Int) < (rs.length : Int) := by omega
        have HRD := Lib.hid hrd
        have H73 := Lib.hid h73
        have HY := Lib.hid hy
        have HMM := Lib.hid hm
        have HPP := Lib.hid hp
        have HH1 := Lib.hid h1
        have HHS := Lib.hid hsz
        have HH5 := Lib.hid h5
        clear hrd h73 hS2 hT2 h1 hsz h5
        simp only [hy, hm, hp]
        clear hy hm hp
        gi_wp2_with fail
        refine ⟨trivial, ?_⟩
        gi_at_call 20
        refine (CallsIn.inRound l (callsIn_wide.2 (same_any A1 Ai m m c1 ci _ _ y y HMM.out HMM.out (by omega) W2 HRD.out H73.out))).mono ?_
        rintro e w' ⟨rfl, m2, rfl⟩
        rw [decide_eq_true (rfl : y = y)]
        have g2 : (W2.drewN m2).cell? ⟨w10.heap.size, 0, none⟩ = some (.int .i64 (k : Nat)) := h2
        have g3 : (W2.drewN m2).frozen? ⟨w10.heap.size, 0, none⟩ = false := h3
        have g13 : (W2.drewN m2).cell? ⟨t12 + 1, 0, none⟩ = some (.int .i64 (M : Nat)) := c13
        have kb : (k : Int) < 20000 := by omega
        have G2 := Lib.hid g2
        have HBW := Lib.hid (below_dn' HH1.out m2)
        clear c9 c12 c13 hc7 hc8 HRD H73 h2 h3
        by_cases hend : k + 1 = M
        · have ee : ((k : Int) + 1 == (M : Int)) = true := by rw [beq_iff_eq]; omega
          have HEND := Lib.hid hend
          clear hend
          gi_wp2
          all_goals
            exact ⟨rfl, ⟨HBW.out.setCell (p := ⟨w10.heap.size, 0, none⟩) (Nat.le_refl _) _,
              (World.cell?_setCell_same _ _ _ G2.out).trans (by rw [show ((M : Nat) : Int) = (k : Int) + 1 by have := HEND.out; omega]),
              by simpa [World.setCell] using h4⟩, by simp [World.setCell],
              fun b hb hlt => Below.heap_setCell _ _ _ _ (by show b ≠ w10.heap.size; rw [sx] at hb; omega)⟩
        · have ee : ((k : Int) + 1 == (M : Int)) = false := by rw [beq_eq_false_iff_ne]; omega
          have HEND := Lib.hid hend
          clear hend
          gi_wp2
          all_goals
            exact ⟨⟨HBW.out.setCell (p := ⟨w10.heap.size, 0, none⟩) (Nat.le_refl _) _,
              (World.cell?_setCell_same _ _ _ G2.out).trans (by rw [show (((k + 1 : Nat)) : Int) = (k : Int) + 1 by omega]),
              by simpa using g3, by simpa [World.setCell] using h4, by have := HEND.out; have := HH5.out; omega⟩,
              (below_dn' (Below.refl _ _) m2).setCell (p := ⟨w10.heap.size, 0, none⟩) (Nat.le_refl _) _, by simp [World.setCell],
              fun b hb hlt => Below.heap_setCell _ _ _ _ (by show b ≠ w10.heap.size; rw [sx] at hb; omega)⟩
      · intro w11 hR hD
        obtain ⟨h1, h2, h3, h4, h5⟩ := hR
        have hM2 : rs.length = M := by have := HM.out; omega
        have c13 := (HT10.out.next h1).c13
        have ee : (((rs.length : Nat) : Int) != (M : Int)) = false := by rw [bne_eq_false_iff_eq]; omega
        clear hM2
        gi_wp2_with fail
        clear ee c13 h2 h3 h5
        rw [sx] at hD
        have HS11 := Lib.hid (HS10.out.next h1)
        have HD2 := Lib.hid hD
        have HD1' : Hid (w11.heap[w9.heap.size + 1]? = some (.deferred (some []))) := Lib.hid ((h1.block _ ltD).trans HD1.out)
        have ltE : w10.heap.size + 1 < w11.heap.size := (Array.getElem?_eq_some_iff.1 hD).1
        clear hD h1 h4 kx sx HCB10 HRB10 hx10 HR11 HX11 HD1 HT10 HS10 HT9 HS9
        rw [roundsIn_succ]
        gi_wp2_with fail
        refine ⟨trivial, ?_⟩
        gi_at_call 29
        refine (callsIn_wide.2 (kept_any A5 A0 (n0 + 3) n0 c5 c0 _ _ (lent b0) b0 (by rw [lent_length, H0.out]) H0.out (by omega) (by omega) _ (Rd.own HS11.out.o5) (Nat.le_refl _) (R0.out.below HS11.out.hb) (Nat.le_of_lt HS11.out.lt))).mono ?_
        rintro e w12 ⟨rfl, hb12⟩
        rw [decide_eq_true (rfl : lent b0 = lent b0)]
        have HS12 := Lib.hid (HS11.out.next hb12)
        have HE1 : Hid (w12.heap[w9.heap.size + 1]? = some (.deferred (some []))) := Lib.hid ((hb12.block _ (by omega)).trans HD1'.out)
        have HE2 : Hid (w12.heap[w10.heap.size + 1]? = some (.deferred (some []))) := Lib.hid ((hb12.block _ ltE).trans HD2.out)
        clear hb12 HS11 HD1' HD2
        have gg := HS12.out.ge6
        gi_wp2_with (gi_at_builtin; refine wpListIn_app sty38 (.tmp 112) (.tmp 114) (by rfl) rfl b6 (HS12.out.r6.own.alloc _) rfl 1 1 (rd_one _ _ _) rfl rfl (by simp [Value.oneCell']) (by unfold maxLen; omega) (by omega) (by simp; omega) ?_; intro v3 w13 own3 gr3 nil3 at3)
        refine ⟨trivial, ?_⟩
        gi_at_call 30
        have r6 := HS12.out.r6
        have le6 := HS12.out.le6
        have le5 := HS12.out.le5
        have hR : Rows w12 w.heap.size (.slice A6 rs.length c6) rs.length vs6 rs := ⟨r6.own.mono (Nat.le_of_lt le6), r6.len, fun i v bs h1 h2 => (r6.each i v bs h1 h2).mono (Nat.le_of_lt le6), r6.apart, r6.outer⟩
        have hP := (hR.alloc (.cells #[.slice A5 (n0 + 3) c5] 22)).push (u := .slice A5 (n0 + 3) c5) (bs := lent b0) (by rw [lent_length, H0.out]; exact (HS12.out.o5.mono (Nat.le_of_lt le5)).alloc _) (by have := HS12.out.lt; simp; omega)
          (fun g hg => ⟨fun i v hv e => by have h1 := HS12.out.f5 g hg; have h2 := (r6.lt hv e).1; omega, fun e => by have h1 := HS12.out.f5 g hg; have h2 := (r6.own.lt g e).1; omega⟩) (own3.mono (Nat.le_of_lt le6)) gr3 at3
        obtain ⟨A13, c13, rfl, _, _, rd13⟩ := own_rd4 own3
        have HB13 := Lib.hid (((HS12.out.hb).alloc (Nat.le_of_lt HS12.out.lt) (.cells #[.slice A5 (n0 + 3) c5] 22)).grown gr3 (by have := HS12.out.lt; simp; omega) (fun g hg => by have h2 := (r6.own.lt g hg).1; omega))
        refine (callsIn_wide.2 (apart2_any A13 (rs.length + 1) c13 w13.heap.size w.heap.size _ _ hP.vlen hP.len (by omega) w13 rd13 (Nat.le_refl _) HB13.out.size hP.each hP.apart
          (fun g o e i v hv hv2 => by
            rcases hP.outer i v hv with h | h
            · rw [hv2] at h; cases h
            · exact h (by rw [hv2, e]; rfl))
          (fun i bs h => by
            rcases List.mem_append.1 (List.mem_of_getElem? h) with h | h
            · exact HSM.out _ h
            · have h' := List.mem_singleton.1 h
              subst h'
              rw [lent_length, H0.out]
              omega))).mono ?_
        rintro e w14 ⟨rfl, hb14, hk14⟩
        have sz13 : w12.heap.size + 1 ≤ w13.heap.size := by have := gr3.size; simpa using this
        have hall : ∀ g, g < w12.heap.size → (g = w.heap.size ∨ w9.heap.size ≤ g) → w14.heap[g]? = w12.heap[g]? := fun g hg hh => by
          have e1 := hk14 g (by omega) (fun i v hv e => by
            rcases List.mem_append.1 (List.mem_of_getElem? hv) with h | h
            · obtain ⟨i', hi'⟩ := List.getElem?_of_mem h
              have h1 := HLT.out i' v hi' g e
              have h2 := (r6.lt hi' e).1
              omega
            · have h' := List.mem_singleton.1 h
              subst h'
              have h1 := HS12.out.f5 g e
              have h2 := (HS12.out.o5.lt g e).1
              have h3 := HF.out
              omega)
          have e2 := gr3.block g (by simp; omega) (fun e => by
            have h1 := HLV.out g e.symm
            have h2 := (r6.own.lt g e.symm).1
            omega)
          exact e1.trans (e2.trans (Below.heap_alloc _ _ _ hg))
        have hc14 : w14.cell? ⟨w.heap.size, 0, none⟩ = some (.bool false) := (World.cell?_of_block (a := ⟨w.heap.size, 0, none⟩) (hall _ HS12.out.lt (.inl rfl))).trans HS12.out.c
        have hz14 : w14.frozen? ⟨w.heap.size, 0, none⟩ = false := (World.frozen?_of_block (a := ⟨w.heap.size, 0, none⟩) (hall _ HS12.out.lt (.inl rfl))).trans HS12.out.z
        have l1 : w9.heap.size + 1 < w12.heap.size := (Array.getElem?_eq_some_iff.1 HE1.out).1
        have l2 : w10.heap.size + 1 < w12.heap.size := (Array.getElem?_eq_some_iff.1 HE2.out).1
        have HG1 := Lib.hid ((hall _ l1 (.inr (by omega))).trans HE1.out)
        have HG2 := Lib.hid ((hall _ l2 (.inr (by omega))).trans HE2.out)
        have HB14 := Lib.hid (HB13.out.trans hb14)
        have HC14 := Lib.hid hc14
        have l0 := HS12.out.lt
        clear hall hb14 hk14 hP hR r6 gr3 at3 nil3 own3 rd13
        gi_wp2
        have l3 := HF.out
        have m2 : (w14.setCell ⟨w.heap.size, 0, none⟩ (.bool true)).heap[w10.heap.size + 1]? = some (.deferred (some [])) := (Below.heap_setCell _ _ _ _ (by show w10.heap.size + 1 ≠ w.heap.size; omega)).trans HG2.out
        have m1 : (w14.setCell ⟨w.heap.size, 0, none⟩ (.bool true)).heap[w9.heap.size + 1]? = some (.deferred (some [])) := (Below.heap_setCell _ _ _ _ (by show w9.heap.size + 1 ≠ w.heap.size; omega)).trans HG1.out
        refine ⟨by simp, .inl ⟨_, _, rfl, run_takeDeferred m2, ?_⟩⟩
        refine ⟨by simp, .inl ⟨_, _, rfl, run_takeDeferred ((World.putObj_heap_other (by omega)).trans m1), ?_⟩⟩
        refine leave13 rfl ?_ ⟨rfl, ?_⟩
        · exact (World.cell?_of_block (a := ⟨w.heap.size, 0, none⟩) ((World.putObj_heap_other (by show w.heap.size ≠ _; omega)).trans (World.putObj_heap_other (by show w.heap.size ≠ _; omega)))).trans (World.cell?_setCell_same _ _ _ HC14.out)
        · exact ((HB14.out.setCell (p := ⟨w.heap.size, 0, none⟩) (Nat.le_refl _) _).trans (putObj_below (w := w) _ (by omega))).trans (putObj_below (w := w) _ (by omega))
      · intro w11 hX hD
        obtain ⟨h1, h2, h4⟩ := hX
        have c13 := (HT10.out.next h1).c13
        have ee : (((M : Nat) : Int) != (M : Int)) = false := by simp
        gi_wp2_with fail
        clear ee c13 h2
        rw [sx] at hD
        have HS11 := Lib.hid (HS10.out.next h1)
        have HD2 := Lib.hid hD
        have HD1' : Hid (w11.heap[w9.heap.size + 1]? = some (.deferred (some []))) := Lib.hid ((h1.block _ ltD).trans HD1.out)
        have ltE : w10.heap.size + 1 < w11.heap.size := (Array.getElem?_eq_some_iff.1 hD).1
        clear hD h1 h4 kx sx HCB10 HRB10 hx10 HR11 HX11 HD1 HT10 HS10 HT9 HS9
        rw [roundsIn_succ]
        gi_wp2_with fail
        refine ⟨trivial, ?_⟩
        gi_at_call 29
        refine (callsIn_wide.2 (kept_any A5 A0 (n0 + 3) n0 c5 c0 _ _ (lent b0) b0 (by rw [lent_length, H0.out]) H0.out (by omega) (by omega) _ (Rd.own HS11.out.o5) (Nat.le_refl _) (R0.out.below HS11.out.hb) (Nat.le_of_lt HS11.out.lt))).mono ?_
        rintro e w12 ⟨rfl, hb12⟩
        rw [decide_eq_true (rfl : lent b0 = lent b0)]
        have HS12 := Lib.hid (HS11.out.next hb12)
        have HE1 : Hid (w12.heap[w9.heap.size + 1]? = some (.deferred (some []))) := Lib.hid ((hb12.block _ (by omega)).trans HD1'.out)
        have HE2 : Hid (w12.heap[w10.heap.size + 1]? = some (.deferred (some []))) := Lib.hid ((hb12.block _ ltE).trans HD2.out)
        clear hb12 HS11 HD1' HD2
        have gg := HS12.out.ge6
        gi_wp2_with (gi_at_builtin; refine wpListIn_app sty38 (.tmp 112) (.tmp 114) (by rfl) rfl b6 (HS12.out.r6.own.alloc _) rfl 1 1 (rd_one _ _ _) rfl rfl (by simp [Value.oneCell']) (by unfold maxLen; omega) (by omega) (by simp; omega) ?_; intro v3 w13 own3 gr3 nil3 at3)
        refine ⟨trivial, ?_⟩
        gi_at_call 30
        have r6 := HS12.out.r6
        have le6 := HS12.out.le6
        have le5 := HS12.out.le5
        have hR : Rows w12 w.heap.size (.slice A6 rs.length c6) rs.length vs6 rs := ⟨r6.own.mono (Nat.le_of_lt le6), r6.len, fun i v bs h1 h2 => (r6.each i v bs h1 h2).mono (Nat.le_of_lt le6), r6.apart, r6.outer⟩
        have hP := (hR.alloc (.cells #[.slice A5 (n0 + 3) c5] 22)).push (u := .slice A5 (n0 + 3) c5) (bs := lent b0) (by rw [lent_length, H0.out]; exact (HS12.out.o5.mono (Nat.le_of_lt le5)).alloc _) (by have := HS12.out.lt; simp; omega)
          (fun g hg => ⟨fun i v hv e => by have h1 := HS12.out.f5 g hg; have h2 := (r6.lt hv e).1; omega, fun e => by have h1 := HS12.out.f5 g hg; have h2 := (r6.own.lt g e).1; omega⟩) (own3.mono (Nat.le_of_lt le6)) gr3 at3
        obtain ⟨A13, c13, rfl, _, _, rd13⟩ := own_rd4 own3
        have HB13 := Lib.hid (((HS12.out.hb).alloc (Nat.le_of_lt HS12.out.lt) (.cells #[.slice A5 (n0 + 3) c5] 22)).grown gr3 (by have := HS12.out.lt; simp; omega) (fun g hg => by have h2 := (r6.own.lt g hg).1; omega))
        refine (callsIn_wide.2 (apart2_any A13 (rs.length + 1) c13 w13.heap.size w.heap.size _ _ hP.vlen hP.len (by omega) w13 rd13 (Nat.le_refl _) HB13.out.size hP.each hP.apart
          (fun g o e i v hv hv2 => by
            rcases hP.outer i v hv with h | h
            · rw [hv2] at h; cases h
            · exact h (by rw [hv2, e]; rfl))
          (fun i bs h => by
            rcases List.mem_append.1 (List.mem_of_getElem? h) with h | h
            · exact HSM.out _ h
            · have h' := List.mem_singleton.1 h
              subst h'
              rw [lent_length, H0.out]
              omega))).mono ?_
        rintro e w14 ⟨rfl, hb14, hk14⟩
        have sz13 : w12.heap.size + 1 ≤ w13.heap.size := by have := gr3.size; simpa using this
        have hall : ∀ g, g < w12.heap.size → (g = w.heap.size ∨ w9.heap.size ≤ g) → w14.heap[g]? = w12.heap[g]? := fun g hg hh => by
          have e1 := hk14 g (by omega) (fun i v hv e => by
            rcases List.mem_append.1 (List.mem_of_getElem? hv) with h | h
            · obtain ⟨i', hi'⟩ := List.getElem?_of_mem h
              have h1 := HLT.out i' v hi' g e
              have h2 := (r6.lt hi' e).1
              omega
            · have h' := List.mem_singleton.1 h
              subst h'
              have h1 := HS12.out.f5 g e
              have h2 := (HS12.out.o5.lt g e).1
              have h3 := HF.out
              omega)
          have e2 := gr3.block g (by simp; omega) (fun e => by
            have h1 := HLV.out g e.symm
            have h2 := (r6.own.lt g e.symm).1
            omega)
          exact e1.trans (e2.trans (Below.heap_alloc _ _ _ hg))
        have hc14 : w14.cell? ⟨w.heap.size, 0, none⟩ = some (.bool false) := (World.cell?_of_block (a := ⟨w.heap.size, 0, none⟩) (hall _ HS12.out.lt (.inl rfl))).trans HS12.out.c
        have hz14 : w14.frozen? ⟨w.heap.size, 0, none⟩ = false := (World.frozen?_of_block (a := ⟨w.heap.size, 0, none⟩) (hall _ HS12.out.lt (.inl rfl))).trans HS12.out.z
        have l1 : w9.heap.size + 1 < w12.heap.size := (Array.getElem?_eq_some_iff.1 HE1.out).1
        have l2 : w10.heap.size + 1 < w12.heap.size := (Array.getElem?_eq_some_iff.1 HE2.out).1
        have HG1 := Lib.hid ((hall _ l1 (.inr (by omega))).trans HE1.out)
        have HG2 := Lib.hid ((hall _ l2 (.inr (by omega))).trans HE2.out)
        have HB14 := Lib.hid (HB13.out.trans hb14)
        have HC14 := Lib.hid hc14
        have l0 := HS12.out.lt
        clear hall hb14 hk14 hP hR r6 gr3 at3 nil3 own3 rd13
        gi_wp2
        have l3 := HF.out
        have m2 : (w14.setCell ⟨w.heap.size, 0, none⟩ (.bool true)).heap[w10.heap.size + 1]? = some (.deferred (some [])) := (Below.heap_setCell _ _ _ _ (by show w10.heap.size + 1 ≠ w.heap.size; omega)).trans HG2.out
        have m1 : (w14.setCell ⟨w.heap.size, 0, none⟩ (.bool true)).heap[w9.heap.size + 1]? = some (.deferred (some [])) := (Below.heap_setCell _ _ _ _ (by show w9.heap.size + 1 ≠ w.heap.size; omega)).trans HG1.out
        refine ⟨by simp, .inl ⟨_, _, rfl, run_takeDeferred m2, ?_⟩⟩
        refine ⟨by simp, .inl ⟨_, _, rfl, run_takeDeferred ((World.putObj_heap_other (by omega)).trans m1), ?_⟩⟩
        refine leave13 rfl ?_ ⟨rfl, ?_⟩
        · exact (World.cell?_of_block (a := ⟨w.heap.size, 0, none⟩) ((World.putObj_heap_other (by show w.heap.size ≠ _; omega)).trans (World.putObj_heap_other (by show w.heap.size ≠ _; omega)))).trans (World.cell?_setCell_same _ _ _ HC14.out)
        · exact ((HB14.out.setCell (p := ⟨w.heap.size, 0, none⟩) (Nat.le_refl _) _).trans (putObj_below (w := w) _ (by omega))).trans (putObj_below (w := w) _ (by omega))
end Go.Proofs.Ytmfkngijgellhaa
