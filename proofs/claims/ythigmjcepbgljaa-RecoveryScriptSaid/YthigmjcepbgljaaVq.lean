/- Walks: a record whose keys have room behind them (UNDER WAY). -/
import Derived.Test.YthigmjcepbgljaaVp
import Derived.Test.YthigmjcepbgljaaCut
import Derived.Deep.Cut
import Derived.Deep.RegionHeld3
import Derived.Deep.RegionHeldLaw
import Derived.Deep.AppendLies
namespace Go.Proofs.Ythigmjcepbgljaa
open Go.RowKit Go.St
set_option linter.unusedVariables false
set_option linter.unusedSimpArgs false
set_option maxRecDepth 100000

theorem have_then {p q : Prop} (h : p) (k : p → q) : q := k h
theorem own_base {w : World} {base base' : Nat} {e : TypeId} {size : Nat} {v : Value} {n : Nat} {xs : List Value} (h : w.ownsRow base e size v n xs) (hb : base' ≤ base) : w.ownsRow base' e size v n xs := by
  refine ⟨h.1, ?_⟩
  rcases h.2 with hn | ⟨g, cap, cur, e0, hg, rest⟩
  · exact .inl hn
  · exact .inr ⟨g, cap, cur, e0, Nat.le_trans hb hg, rest⟩
theorem setCell_block (W : World) (p : Addr) (u : Value) (k : Nat) (hk : k ≠ p.block) : (W.setCell p u).heap[k]? = W.heap[k]? := by
  simp [World.setCell, Array.getElem?_modify, Ne.symm hk]
/-- A row of the call's own, a store into another block. -/
theorem own_setNe {w : World} {base : Nat} {e : TypeId} {size : Nat} {v : Value} {n : Nat} {xs : List Value} (h : w.ownsRow base e size v n xs) {p : Addr} (hp : v.ownBlock ≠ some p.block) (u : Value) : (w.setCell p u).ownsRow base e size v n xs :=
  h.kept (row := some p.block) ⟨rfl, rfl, rfl, by simp [World.setCell], fun k _ hk => setCell_block w p u k (fun e => hk (by rw [e]))⟩ (.inr hp)
def behind : Value := .string ⟨#[98, 101, 104, 105, 110, 100]⟩
theorem rd_cell {W : World} {b : Nat} {x : Value} (hb : b < W.heap.size) (hc : W.cell? ⟨b, 0, none⟩ = some x) : Rd W W.heap.size (some ⟨b, 0, none⟩) [x] := fun _ => by
  refine ⟨b, 0, rfl, hb, fun i v hv => ?_⟩
  cases i with
  | zero => simpa using hc.trans hv
  | succ i => simp at hv
theorem own_cap {w : World} {base n m c : Nat} {e : TypeId} {size : Nat} {a : Addr} {xs : List Value} (h : w.ownsRow base e size (.slice (some a) m c) n xs) : n ≤ c := by
  rcases h.2 with ⟨h1, _⟩ | ⟨g, cap, cur, hv, _, _, hle, _⟩
  · cases h1
  · cases hv; exact hle
/-- A record of its own keys, with room behind them. -/
def OwnX (r : Rec) (w : World) (e : Ending) (w' : World) : Prop :=
  ∃ g c, e = .returned (r.to (some ⟨g, 0, none⟩) c).v ∧ w'.ownsRow w.heap.size 9 1 (.slice (some ⟨g, 0, none⟩) (r.n + 1) c) (r.n + 1) (sv r.l ++ [behind]) ∧ Below w.heap.size w w'
set_option maxHeartbeats 3200000 in
theorem ownR_any (r : Rec) (hl : fit r) (hn : (r.n + 1) * 16 ≤ 140737488355328) (B : Nat) (w : World) (hr : Rd w B r.A (sv r.l)) (hB : B ≤ w.heap.size) :
    Calls Try.prog 31 #[r.v] w (OwnX r w) := by
  have HR := Lib.hid (fun W (h : Below w.heap.size w W) => hr.below (h.mono hB))
  clear hr
  obtain ⟨nd, nu, st, ⟨aw, al, ag⟩, A, n, c, l, beat, ⟨pw, pl, pg⟩⟩ := r
  have HL : Hid (l.length = n) := Lib.hid hl
  clear hl
  unfold Rec.v
  simp only at HR hn ⊢
  go_enter Try.func31, Try.ntmps31
  go_upto_region 1 with (fail)
  have X0 := Lib.hid ((BxQ.new w ⟨nd, nu, st, ⟨aw, al, ag⟩, A, n, c, l, beat, ⟨pw, pl, pg⟩⟩ 30).alloc (.cells #[.int .i32 0, .int .i32 0, .int .u8 0, .int .i64 0, .int .i32 0, .int .i32 0, .slice none 0 0, .int .i64 0, .int .i64 0, .int .i32 0, .int .i32 0] 30))
  have Y0 := BxQ.new (w.alloc (.cells #[.int .i32 nd, .int .i32 nu, .int .u8 st, .int .i64 aw, .int .i32 al, .int .i32 ag, .slice A n c, .int .i64 beat, .int .i64 pw, .int .i32 pl, .int .i32 pg] 30)) ⟨0, 0, 0, ⟨0, 0, 0⟩, none, 0, 0, [], 0, ⟨0, 0, 0⟩⟩ 30
  rw [World.size_alloc] at Y0
  have Y0 := Lib.hid Y0
  have HB0 : Hid (Below w.heap.size w ((w.alloc (.cells #[.int .i32 nd, .int .i32 nu, .int .u8 st, .int .i64 aw, .int .i32 al, .int .i32 ag, .slice A n c, .int .i64 beat, .int .i64 pw, .int .i32 pl, .int .i32 pg] 30)).alloc (.cells #[.int .i32 0, .int .i32 0, .int .u8 0, .int .i64 0, .int .i32 0, .int .i32 0, .slice none 0 0, .int .i64 0, .int .i64 0, .int .i32 0, .int .i32 0] 30))) := Lib.hid (by go_grown)
  dsimp only at X0 Y0
  generalize hW0 : ((w.alloc (.cells #[.int .i32 nd, .int .i32 nu, .int .u8 st, .int .i64 aw, .int .i32 al, .int .i32 ag, .slice A n c, .int .i64 beat, .int .i64 pw, .int .i32 pl, .int .i32 pg] 30)).alloc (.cells #[.int .i32 0, .int .i32 0, .int .u8 0, .int .i64 0, .int .i32 0, .int .i32 0, .slice none 0 0, .int .i64 0, .int .i64 0, .int .i32 0, .int .i32 0] 30)) = W0 at *
  clear hW0
  have HR1 := Lib.hid (fun W (h : Below W0.heap.size W0 W) => HR.out W (HB0.out.trans (h.mono HB0.out.size)))
  clear HR
  have hb0 : w.heap.size < W0.heap.size := X0.out.lt
  have hb1 : w.heap.size + 1 < W0.heap.size := Y0.out.lt
  have x8 := X0.out.c6
  dsimp only at x8
  refine wp_heldcut (S := fun W => W.cell? ⟨w.heap.size, 6, none⟩ = some (.slice A n c)) 9 (by kernel_rfl) (by kernel_rfl) (by go_simp) (fun hHeld => ?_)
  simp only [List.take_succ_cons, List.take_zero]
  refine takeL (i := 1) (v := ?_) rfl (by kernel_rfl) (by kernel_rfl) (by kernel_rfl) (fun _ _ _ h => h) ⟨by rfl, ?_⟩ (by assumption) ?_
  rotate_left
  · intro w hSw
    (try dsimp only at hSw)
    go_simp
    try with_reducible rfl
  (try simp only [Act.put, List.setIfInBounds_toArray, List.set_cons_zero, List.set_cons_succ])
  refine takeL (i := 2) (v := ?_) rfl (by kernel_rfl) (by kernel_rfl) (by kernel_rfl) (fun _ _ _ h => h) ⟨by rfl, ?_⟩ (by assumption) ?_
  rotate_left
  · intro w hSw
    (try dsimp only at hSw)
    go_simp
    try with_reducible rfl
  (try simp only [Act.put, List.setIfInBounds_toArray, List.set_cons_zero, List.set_cons_succ])
  refine takeL (i := 6) (v := ?_) rfl (by kernel_rfl) (by kernel_rfl) (by kernel_rfl) (fun _ _ _ h => h) ⟨by rfl, ?_⟩ (by assumption) ?_
  rotate_left
  · intro w hSw
    (try dsimp only at hSw)
    go_simp
    try with_reducible rfl
  (try simp only [Act.put, List.setIfInBounds_toArray, List.set_cons_zero, List.set_cons_succ])
  refine takeL (i := 7) (v := ?_) rfl (by kernel_rfl) (by kernel_rfl) (by kernel_rfl) (fun _ _ _ h => h) ⟨by rfl, ?_⟩ (by assumption) ?_
  rotate_left
  · intro w hSw
    (try dsimp only at hSw)
    go_simp
    try with_reducible rfl
  (try simp only [Act.put, List.setIfInBounds_toArray, List.set_cons_zero, List.set_cons_succ])
  refine takeL (i := 8) (v := ?_) rfl (by kernel_rfl) (by kernel_rfl) (by kernel_rfl) (fun _ _ _ h => h) ⟨by rfl, ?_⟩ (by assumption) ?_
  rotate_left
  · intro w hSw
    (try dsimp only at hSw)
    go_simp
    try with_reducible rfl
  (try simp only [Act.put, List.setIfInBounds_toArray, List.set_cons_zero, List.set_cons_succ])
  have kX : Below W0.heap.size W0 W0.drew := Below.drew (Below.refl _ _)
  have hX := hHeld
  have zX : w.heap.size < W0.drew.heap.size := hb0
  clear hHeld
  generalize W0.drew = X at *
  refine wpAnyH_ready (rs := [0, 4]) (by kernel_rfl) (by simp) ?_
  refine consL rfl (by rfl) (fun K hK => ?_) ?_
  · go_simp
    refine hK.out _ _ ((World.cell?_alloc_lt _ _ _ zX).trans hX) (fun hX' => ?_)
    clear hK K
    have own0 := World.ownsRow_lit (base := W0.heap.size) (size := 1) (e := 9) X #[] 0 kX.size (by decide) rfl
    have zN : X.heap.size < (X.alloc (.cells #[] 9)).heap.size := by simp
    have k2 : Below W0.heap.size W0 (X.alloc (.cells #[] 9)) := kX.alloc kX.size _
    have z2 : w.heap.size < (X.alloc (.cells #[] 9)).heap.size := by simp; omega
    have hXs := kX.size
    generalize hX9 : X.alloc (.cells #[] 9) = X2 at *
    generalize hX8 : X.heap.size = g0 at *
    clear hX9 hX hXs hX8
    clear kX zX
    obtain ⟨hX, kX, zX⟩ : (X2.cell? ⟨w.heap.size, 6, none⟩ = some (.slice A n c)) ∧ Below W0.heap.size W0 X2 ∧ w.heap.size < X2.heap.size := ⟨hX', k2, z2⟩
    clear hX' k2 z2
    clear X
    obtain ⟨X, rfl⟩ : ∃ x, x = X2 := ⟨_, rfl⟩
    refine wpAnyH_ready (rs := [3, 4]) (by kernel_rfl) (by simp) ?_
    refine consL rfl (by rfl) (fun K hK => ?_) ?_
    · clear zN
      refine wp_app sty55 (.tmp 3) (.tmp 5) rfl W0.heap.size own0 rfl n c (HR1.out _ kX) rfl (by rw [sv_length, HL.out]; omega) (sv_one _) (by unfold maxLen; omega) (by omega) kX.size ?_
      intro v1 w1 own1 gr1 nil1 at1
      have k1 : Below W0.heap.size W0 w1 := Below.grown kX gr1 kX.size (by intro k hk; exact (own0.lt k hk).1)
      have z1 : w.heap.size < w1.heap.size := Nat.lt_of_lt_of_le zX gr1.size
      refine hK.out _ _ ((k1.cell (p := ⟨w.heap.size, 6, none⟩) hb0).trans x8) (fun hX' => ?_)
      clear hK K gr1 nil1 at1 hX kX zX own0
      simp only [List.nil_append, Nat.zero_add] at own1
      obtain ⟨hX, kX, zX⟩ : (w1.cell? ⟨w.heap.size, 6, none⟩ = some (.slice A n c)) ∧ Below W0.heap.size W0 w1 ∧ w.heap.size < w1.heap.size := ⟨hX', k1, z1⟩
      clear hX' k1 z1
      clear X
      obtain ⟨X, rfl⟩ : ∃ x, x = w1 := ⟨_, rfl⟩
      refine wpAnyH_ready (rs := [4]) (by kernel_rfl) (by simp) ?_
      refine consL rfl (by rfl) (fun K hK => ?_) ?_
      · go_simp
        refine hK.out _ _ ((World.cell?_alloc_lt _ _ _ zX).trans hX) (fun hX' => ?_)
        clear hK K
        have C : (X.alloc (.cells #[(.string ⟨#[98, 101, 104, 105, 110, 100]⟩)] 9)).cell? ⟨X.heap.size, 0, none⟩ = some behind := by simp [behind]
        have gN : X.heap.size < (X.alloc (.cells #[(.string ⟨#[98, 101, 104, 105, 110, 100]⟩)] 9)).heap.size := by simp
        replace own1 := own1.alloc (.cells #[(.string ⟨#[98, 101, 104, 105, 110, 100]⟩)] 9)
        have k2 : Below W0.heap.size W0 (X.alloc (.cells #[(.string ⟨#[98, 101, 104, 105, 110, 100]⟩)] 9)) := kX.alloc kX.size _
        have z2 : w.heap.size < (X.alloc (.cells #[(.string ⟨#[98, 101, 104, 105, 110, 100]⟩)] 9)).heap.size := by simp; omega
        have hXs := kX.size
        generalize hX9 : X.alloc (.cells #[(.string ⟨#[98, 101, 104, 105, 110, 100]⟩)] 9) = X2 at *
        generalize hX8 : X.heap.size = g1 at *
        clear hX9 hX hXs hX8
        clear kX zX
        obtain ⟨hX, kX, zX⟩ : (X2.cell? ⟨w.heap.size, 6, none⟩ = some (.slice A n c)) ∧ Below W0.heap.size W0 X2 ∧ w.heap.size < X2.heap.size := ⟨hX', k2, z2⟩
        clear hX' k2 z2
        clear X
        obtain ⟨X, rfl⟩ : ∃ x, x = X2 := ⟨_, rfl⟩
        refine wpAnyH_ready (rs := [5]) (by kernel_rfl) (by simp) ?_
        refine consL rfl (by rfl) (fun K hK => ?_) ?_
        · refine wp_app sty55 (.tmp 6) (.tmp 7) rfl W0.heap.size own1 rfl 1 1 (news := [behind]) (rd_cell gN C) rfl rfl (by intro u hu; simp at hu; subst hu; rfl) (by unfold maxLen; omega) (by omega) kX.size ?_
          intro v2 w2 own2 gr2 nil2 at2
          have k1 : Below W0.heap.size W0 w2 := Below.grown kX gr2 kX.size (by intro k hk; exact (own1.lt k hk).1)
          refine hK.out _ _ ((k1.cell (p := ⟨w.heap.size, 6, none⟩) hb0).trans x8) (fun hX' => ?_)
          clear hK K gr2 nil2 at2 hX kX zX own1 C gN X
          refine wpAnyH_done (by kernel_rfl) ?_ _
          simp only [tailPost, List.drop_succ_cons, List.drop_zero]
          obtain ⟨g, c2, rfl, hg2, hg3⟩ := own2.form (by omega)
          have hc2 := own_cap own2
          have hc3 : n ≤ c2 := by omega
          clear hc2
          have X2 := X0.out.next k1
          have Y2 := Y0.out.next k1
          obtain ⟨x0, x1, y2, y3, y4, y5, y6, y7, y8, y9, y10, y11, y12⟩ := X2
          dsimp only at y2 y3 y4 y5 y6 y7 y8 y9 y10 y11 y12
          obtain ⟨u0, u1, u2, u3, u4, u5, u6, u7, u8, u9, u10, u11, u12⟩ := Y2
          dsimp only at u2 u3 u4 u5 u6 u7 u8 u9 u10 u11 u12
          have OWN := Lib.hid own2
          have KK := Lib.hid k1
          clear own2 k1 X0 Y0 HR1
          go_wp2
          have hW0 := HB0.out.size
          refine bodyPost_ret (v := .agg #[.int .i32 nd, .int .i32 nu, .int .u8 st, .int .i64 aw, .int .i32 al, .int .i32 ag, .slice (some ⟨g, 0, none⟩) n c2, .int .i64 beat, .int .i64 pw, .int .i32 pl, .int .i32 pg]) (by simp [results, Try.results31, go_sem, *]) rfl ⟨g, c2, rfl, ?_, ?_⟩
          · have h9 := own_base OWN.out (base' := w.heap.size) (by omega)
            repeat (refine own_setNe ?_ (by simp [Value.ownBlock]; omega) _)
            exact h9
          · have hb := HB0.out.trans (KK.out.mono HB0.out.size)
            have hbs := hb.size
            go_grown
        exact AllReadyH.nil
      exact AllReadyH.nil
    refine consL rfl (by rfl) (fun K hK => ?_) ?_
    · go_simp
      refine hK.out _ _ ((World.cell?_alloc_lt _ _ _ zX).trans hX) (fun hX' => ?_)
      clear hK K
      have C : (X.alloc (.cells #[(.string ⟨#[98, 101, 104, 105, 110, 100]⟩)] 9)).cell? ⟨X.heap.size, 0, none⟩ = some behind := by simp [behind]
      have gN : X.heap.size < (X.alloc (.cells #[(.string ⟨#[98, 101, 104, 105, 110, 100]⟩)] 9)).heap.size := by simp
      replace own0 := own0.alloc (.cells #[(.string ⟨#[98, 101, 104, 105, 110, 100]⟩)] 9)
      have hne : X.heap.size ≠ g0 := Nat.ne_of_gt zN
      clear zN
      have k2 : Below W0.heap.size W0 (X.alloc (.cells #[(.string ⟨#[98, 101, 104, 105, 110, 100]⟩)] 9)) := kX.alloc kX.size _
      have z2 : w.heap.size < (X.alloc (.cells #[(.string ⟨#[98, 101, 104, 105, 110, 100]⟩)] 9)).heap.size := by simp; omega
      have hXs := kX.size
      generalize hX9 : X.alloc (.cells #[(.string ⟨#[98, 101, 104, 105, 110, 100]⟩)] 9) = X2 at *
      generalize hX8 : X.heap.size = g1 at *
      clear hX9 hX hXs hX8
      clear kX zX
      obtain ⟨hX, kX, zX⟩ : (X2.cell? ⟨w.heap.size, 6, none⟩ = some (.slice A n c)) ∧ Below W0.heap.size W0 X2 ∧ w.heap.size < X2.heap.size := ⟨hX', k2, z2⟩
      clear hX' k2 z2
      clear X
      obtain ⟨X, rfl⟩ : ∃ x, x = X2 := ⟨_, rfl⟩
      refine wpAnyH_ready (rs := [3]) (by kernel_rfl) (by simp) ?_
      refine consL rfl (by rfl) (fun K hK => ?_) ?_
      · refine wp_app sty55 (.tmp 3) (.tmp 5) rfl W0.heap.size own0 rfl n c (HR1.out _ kX) rfl (by rw [sv_length, HL.out]; omega) (sv_one _) (by unfold maxLen; omega) (by omega) kX.size ?_
        intro v1 w1 own1 gr1 nil1 at1
        have k1 : Below W0.heap.size W0 w1 := Below.grown kX gr1 kX.size (by intro k hk; exact (own0.lt k hk).1)
        have z1 : w.heap.size < w1.heap.size := Nat.lt_of_lt_of_le zX gr1.size
        have C2 : w1.cell? ⟨g1, 0, none⟩ = some behind := World.grownBy.cell gr1 C (by simp [Value.ownBlock]; omega)
        have gN2 : g1 < w1.heap.size := Nat.lt_of_lt_of_le gN gr1.size
        refine hK.out _ _ ((k1.cell (p := ⟨w.heap.size, 6, none⟩) hb0).trans x8) (fun hX' => ?_)
        clear hK K gr1 nil1 at1 hX kX zX own0
        clear C gN
        simp only [List.nil_append, Nat.zero_add] at own1
        obtain ⟨hX, kX, zX, C, gN⟩ : (w1.cell? ⟨w.heap.size, 6, none⟩ = some (.slice A n c)) ∧ Below W0.heap.size W0 w1 ∧ w.heap.size < w1.heap.size ∧ w1.cell? ⟨g1, 0, none⟩ = some behind ∧ g1 < w1.heap.size := ⟨hX', k1, z1, C2, gN2⟩
        clear hX' k1 z1 C2 gN2
        clear X
        obtain ⟨X, rfl⟩ : ∃ x, x = w1 := ⟨_, rfl⟩
        refine wpAnyH_ready (rs := [5]) (by kernel_rfl) (by simp) ?_
        refine consL rfl (by rfl) (fun K hK => ?_) ?_
        · refine wp_app sty55 (.tmp 6) (.tmp 7) rfl W0.heap.size own1 rfl 1 1 (news := [behind]) (rd_cell gN C) rfl rfl (by intro u hu; simp at hu; subst hu; rfl) (by unfold maxLen; omega) (by omega) kX.size ?_
          intro v2 w2 own2 gr2 nil2 at2
          have k1 : Below W0.heap.size W0 w2 := Below.grown kX gr2 kX.size (by intro k hk; exact (own1.lt k hk).1)
          refine hK.out _ _ ((k1.cell (p := ⟨w.heap.size, 6, none⟩) hb0).trans x8) (fun hX' => ?_)
          clear hK K gr2 nil2 at2 hX kX zX own1 C gN X
          refine wpAnyH_done (by kernel_rfl) ?_ _
          simp only [tailPost, List.drop_succ_cons, List.drop_zero]
          obtain ⟨g, c2, rfl, hg2, hg3⟩ := own2.form (by omega)
          have hc2 := own_cap own2
          have hc3 : n ≤ c2 := by omega
          clear hc2
          have X2 := X0.out.next k1
          have Y2 := Y0.out.next k1
          obtain ⟨x0, x1, y2, y3, y4, y5, y6, y7, y8, y9, y10, y11, y12⟩ := X2
          dsimp only at y2 y3 y4 y5 y6 y7 y8 y9 y10 y11 y12
          obtain ⟨u0, u1, u2, u3, u4, u5, u6, u7, u8, u9, u10, u11, u12⟩ := Y2
          dsimp only at u2 u3 u4 u5 u6 u7 u8 u9 u10 u11 u12
          have OWN := Lib.hid own2
          have KK := Lib.hid k1
          clear own2 k1 X0 Y0 HR1
          go_wp2
          have hW0 := HB0.out.size
          refine bodyPost_ret (v := .agg #[.int .i32 nd, .int .i32 nu, .int .u8 st, .int .i64 aw, .int .i32 al, .int .i32 ag, .slice (some ⟨g, 0, none⟩) n c2, .int .i64 beat, .int .i64 pw, .int .i32 pl, .int .i32 pg]) (by simp [results, Try.results31, go_sem, *]) rfl ⟨g, c2, rfl, ?_, ?_⟩
          · have h9 := own_base OWN.out (base' := w.heap.size) (by omega)
            repeat (refine own_setNe ?_ (by simp [Value.ownBlock]; omega) _)
            exact h9
          · have hb := HB0.out.trans (KK.out.mono HB0.out.size)
            have hbs := hb.size
            go_grown
        exact AllReadyH.nil
      exact AllReadyH.nil
    exact AllReadyH.nil
  refine consL rfl (by rfl) (fun K hK => ?_) ?_
  · go_simp
    refine hK.out _ _ ((World.cell?_alloc_lt _ _ _ zX).trans hX) (fun hX' => ?_)
    clear hK K
    have C : (X.alloc (.cells #[(.string ⟨#[98, 101, 104, 105, 110, 100]⟩)] 9)).cell? ⟨X.heap.size, 0, none⟩ = some behind := by simp [behind]
    have gN : X.heap.size < (X.alloc (.cells #[(.string ⟨#[98, 101, 104, 105, 110, 100]⟩)] 9)).heap.size := by simp
    have k2 : Below W0.heap.size W0 (X.alloc (.cells #[(.string ⟨#[98, 101, 104, 105, 110, 100]⟩)] 9)) := kX.alloc kX.size _
    have z2 : w.heap.size < (X.alloc (.cells #[(.string ⟨#[98, 101, 104, 105, 110, 100]⟩)] 9)).heap.size := by simp; omega
    have hXs := kX.size
    generalize hX9 : X.alloc (.cells #[(.string ⟨#[98, 101, 104, 105, 110, 100]⟩)] 9) = X2 at *
    generalize hX8 : X.heap.size = g1 at *
    clear hX9 hX hXs hX8
    clear kX zX
    obtain ⟨hX, kX, zX⟩ : (X2.cell? ⟨w.heap.size, 6, none⟩ = some (.slice A n c)) ∧ Below W0.heap.size W0 X2 ∧ w.heap.size < X2.heap.size := ⟨hX', k2, z2⟩
    clear hX' k2 z2
    clear X
    obtain ⟨X, rfl⟩ : ∃ x, x = X2 := ⟨_, rfl⟩
    refine wpAnyH_ready (rs := [0]) (by kernel_rfl) (by simp) ?_
    refine consL rfl (by rfl) (fun K hK => ?_) ?_
    · go_simp
      refine hK.out _ _ ((World.cell?_alloc_lt _ _ _ zX).trans hX) (fun hX' => ?_)
      clear hK K
      have own0 := World.ownsRow_lit (base := W0.heap.size) (size := 1) (e := 9) X #[] 0 kX.size (by decide) rfl
      have zN : X.heap.size < (X.alloc (.cells #[] 9)).heap.size := by simp
      replace C := (World.cell?_alloc_lt X (.cells #[] 9) ⟨g1, 0, none⟩ gN).trans C
      have hne : g1 ≠ X.heap.size := Nat.ne_of_lt gN
      replace gN : g1 < (X.alloc (.cells #[] 9)).heap.size := by simp; omega
      clear zN
      have k2 : Below W0.heap.size W0 (X.alloc (.cells #[] 9)) := kX.alloc kX.size _
      have z2 : w.heap.size < (X.alloc (.cells #[] 9)).heap.size := by simp; omega
      have hXs := kX.size
      generalize hX9 : X.alloc (.cells #[] 9) = X2 at *
      generalize hX8 : X.heap.size = g0 at *
      clear hX9 hX hXs hX8
      clear kX zX
      obtain ⟨hX, kX, zX⟩ : (X2.cell? ⟨w.heap.size, 6, none⟩ = some (.slice A n c)) ∧ Below W0.heap.size W0 X2 ∧ w.heap.size < X2.heap.size := ⟨hX', k2, z2⟩
      clear hX' k2 z2
      clear X
      obtain ⟨X, rfl⟩ : ∃ x, x = X2 := ⟨_, rfl⟩
      refine wpAnyH_ready (rs := [3]) (by kernel_rfl) (by simp) ?_
      refine consL rfl (by rfl) (fun K hK => ?_) ?_
      · refine wp_app sty55 (.tmp 3) (.tmp 5) rfl W0.heap.size own0 rfl n c (HR1.out _ kX) rfl (by rw [sv_length, HL.out]; omega) (sv_one _) (by unfold maxLen; omega) (by omega) kX.size ?_
        intro v1 w1 own1 gr1 nil1 at1
        have k1 : Below W0.heap.size W0 w1 := Below.grown kX gr1 kX.size (by intro k hk; exact (own0.lt k hk).1)
        have z1 : w.heap.size < w1.heap.size := Nat.lt_of_lt_of_le zX gr1.size
        have C2 : w1.cell? ⟨g1, 0, none⟩ = some behind := World.grownBy.cell gr1 C (by simp [Value.ownBlock]; omega)
        have gN2 : g1 < w1.heap.size := Nat.lt_of_lt_of_le gN gr1.size
        refine hK.out _ _ ((k1.cell (p := ⟨w.heap.size, 6, none⟩) hb0).trans x8) (fun hX' => ?_)
        clear hK K gr1 nil1 at1 hX kX zX own0
        clear C gN
        simp only [List.nil_append, Nat.zero_add] at own1
        obtain ⟨hX, kX, zX, C, gN⟩ : (w1.cell? ⟨w.heap.size, 6, none⟩ = some (.slice A n c)) ∧ Below W0.heap.size W0 w1 ∧ w.heap.size < w1.heap.size ∧ w1.cell? ⟨g1, 0, none⟩ = some behind ∧ g1 < w1.heap.size := ⟨hX', k1, z1, C2, gN2⟩
        clear hX' k1 z1 C2 gN2
        clear X
        obtain ⟨X, rfl⟩ : ∃ x, x = w1 := ⟨_, rfl⟩
        refine wpAnyH_ready (rs := [5]) (by kernel_rfl) (by simp) ?_
        refine consL rfl (by rfl) (fun K hK => ?_) ?_
        · refine wp_app sty55 (.tmp 6) (.tmp 7) rfl W0.heap.size own1 rfl 1 1 (news := [behind]) (rd_cell gN C) rfl rfl (by intro u hu; simp at hu; subst hu; rfl) (by unfold maxLen; omega) (by omega) kX.size ?_
          intro v2 w2 own2 gr2 nil2 at2
          have k1 : Below W0.heap.size W0 w2 := Below.grown kX gr2 kX.size (by intro k hk; exact (own1.lt k hk).1)
          refine hK.out _ _ ((k1.cell (p := ⟨w.heap.size, 6, none⟩) hb0).trans x8) (fun hX' => ?_)
          clear hK K gr2 nil2 at2 hX kX zX own1 C gN X
          refine wpAnyH_done (by kernel_rfl) ?_ _
          simp only [tailPost, List.drop_succ_cons, List.drop_zero]
          obtain ⟨g, c2, rfl, hg2, hg3⟩ := own2.form (by omega)
          have hc2 := own_cap own2
          have hc3 : n ≤ c2 := by omega
          clear hc2
          have X2 := X0.out.next k1
          have Y2 := Y0.out.next k1
          obtain ⟨x0, x1, y2, y3, y4, y5, y6, y7, y8, y9, y10, y11, y12⟩ := X2
          dsimp only at y2 y3 y4 y5 y6 y7 y8 y9 y10 y11 y12
          obtain ⟨u0, u1, u2, u3, u4, u5, u6, u7, u8, u9, u10, u11, u12⟩ := Y2
          dsimp only at u2 u3 u4 u5 u6 u7 u8 u9 u10 u11 u12
          have OWN := Lib.hid own2
          have KK := Lib.hid k1
          clear own2 k1 X0 Y0 HR1
          go_wp2
          have hW0 := HB0.out.size
          refine bodyPost_ret (v := .agg #[.int .i32 nd, .int .i32 nu, .int .u8 st, .int .i64 aw, .int .i32 al, .int .i32 ag, .slice (some ⟨g, 0, none⟩) n c2, .int .i64 beat, .int .i64 pw, .int .i32 pl, .int .i32 pg]) (by simp [results, Try.results31, go_sem, *]) rfl ⟨g, c2, rfl, ?_, ?_⟩
          · have h9 := own_base OWN.out (base' := w.heap.size) (by omega)
            repeat (refine own_setNe ?_ (by simp [Value.ownBlock]; omega) _)
            exact h9
          · have hb := HB0.out.trans (KK.out.mono HB0.out.size)
            have hbs := hb.size
            go_grown
        exact AllReadyH.nil
      exact AllReadyH.nil
    exact AllReadyH.nil
  exact AllReadyH.nil
end Go.Proofs.Ythigmjcepbgljaa
