/- Boxes of records and stamps; plain cases of what becomes of a record. -/
import Derived.Test.YthigmjcepbgljaaVe
namespace Go.Proofs.Ythigmjcepbgljaa
open Go.RowKit Go.St
set_option linter.unusedVariables false
set_option linter.unusedSimpArgs false
set_option maxRecDepth 100000

theorem BxQ.alloc {W : World} {b : Nat} {r : Rec} (h : BxQ W b r) (o : Obj) : BxQ (W.alloc o) b r := h.next ((Below.refl _ _).alloc (Nat.le_refl _) _)
/-- A stamp in a block. -/
structure BxS (W : World) (b : Nat) (s : Stp) : Prop where
  lt : b < W.heap.size
  fz : ∀ o, W.frozen? ⟨b, o, none⟩ = false
  c0 : W.cell? ⟨b, 0, none⟩ = some (.int .i64 s.wall)
  c1 : W.cell? ⟨b, 1, none⟩ = some (.int .i32 s.logic)
  c2 : W.cell? ⟨b, 2, none⟩ = some (.int .i32 s.tag)
theorem BxS.next {W W' : World} {b : Nat} {s : Stp} (h : BxS W b s) (hb : Below W.heap.size W W') : BxS W' b s :=
  ⟨Nat.lt_of_lt_of_le h.lt hb.size, fun o => (hb.frozen (p := ⟨b, o, none⟩) h.lt).trans (h.fz o), (hb.cell (p := ⟨b, 0, none⟩) h.lt).trans h.c0, (hb.cell (p := ⟨b, 1, none⟩) h.lt).trans h.c1, (hb.cell (p := ⟨b, 2, none⟩) h.lt).trans h.c2⟩
theorem BxS.alloc {W : World} {b : Nat} {s : Stp} (h : BxS W b s) (o : Obj) : BxS (W.alloc o) b s := h.next ((Below.refl _ _).alloc (Nat.le_refl _) _)
theorem BxS.new (W : World) (s : Stp) (t : TypeId) : BxS (W.alloc (.cells #[.int .i64 s.wall, .int .i32 s.logic, .int .i32 s.tag] t)) W.heap.size s := by
  constructor <;> first | (intro o; simp) | simp
theorem BxS.set {W : World} {b : Nat} {s : Stp} (h : BxS W b s) {p : Addr} (hp : b ≠ p.block) (u : Value) : BxS (W.setCell p u) b s := by
  have hc := fun o => World.cell?_setCell_other W p ⟨b, o, none⟩ u (fun e => hp (congrArg Addr.block e).symm)
  obtain ⟨x0, x1, x2, x3, x4⟩ := h
  exact ⟨by simpa [World.setCell] using x0, fun o => by simp [x1], (hc 0).trans x2, (hc 1).trans x3, (hc 2).trans x4⟩
theorem BxQ.set {W : World} {b : Nat} {r : Rec} (h : BxQ W b r) {p : Addr} (hp : b ≠ p.block) (u : Value) : BxQ (W.setCell p u) b r := by
  have hc := fun o => World.cell?_setCell_other W p ⟨b, o, none⟩ u (fun e => hp (congrArg Addr.block e).symm)
  obtain ⟨x0, x1, x2, x3, x4, x5, x6, x7, x8, x9, x10, x11, x12⟩ := h
  exact ⟨by simpa [World.setCell] using x0, fun o => by simp [x1], (hc 0).trans x2, (hc 1).trans x3, (hc 2).trans x4, (hc 3).trans x5, (hc 4).trans x6, (hc 5).trans x7, (hc 6).trans x8, (hc 7).trans x9, (hc 8).trans x10, (hc 9).trans x11, (hc 10).trans x12⟩
theorem BxS.setR {W : World} {b : Nat} {s : Stp} (h : BxS W b s) {b' : Nat} (hb : b ≠ b') (r : Rec) : BxS (Go.Proofs.Ythigmjcepbgljaa.setR W b' r) b s := by
  unfold Go.Proofs.Ythigmjcepbgljaa.setR
  exact ((((((((((h.set hb _).set hb _).set hb _).set hb _).set hb _).set hb _).set hb _).set hb _).set hb _).set hb _).set hb _
/-- A record's beat stored. -/
theorem BxQ.beat {W : World} {b : Nat} {r : Rec} (h : BxQ W b r) (x : Int) : BxQ (W.setCell ⟨b, 7, none⟩ (.int .i64 x)) b { r with beat := x } := by
  obtain ⟨x0, x1, x2, x3, x4, x5, x6, x7, x8, x9, x10, x11, x12⟩ := h
  constructor <;> first | (intro o; simp [x1]) | simp [go_sem, *]

theorem chkR_st' {r : Rec} (h : chkR r = 0) : (r.st = 1 ∨ r.st = 2 ∨ r.st = 3 ∨ r.st = 4) ∧ r.n ≤ 24 := by
  unfold chkR at h
  by_cases h1 : 24 < r.n
  · rw [if_pos h1] at h; cases h
  · rw [if_neg h1] at h
    refine ⟨?_, by omega⟩
    by_cases h2 : okR r = true
    · unfold okR at h2
      simp at h2
      have h3 := h2.2
      by_cases a1 : r.st = 1 ∨ r.st = 4
      · rcases a1 with a | a <;> simp [a]
      · by_cases a2 : r.st = 2 ∨ r.st = 3
        · rcases a2 with a | a <;> simp [a]
        · rw [if_neg a1] at h3; exact absurd h3.1 a2
    · rw [if_neg h2] at h; cases h
theorem bothE_st {r x : Rec} (h : bothE r x = 0) : (r.st = 1 ∨ r.st = 2 ∨ r.st = 3 ∨ r.st = 4) ∧ r.n ≤ 24 := by
  unfold bothE at h
  by_cases h1 : chkR r = 0
  · exact chkR_st' h1
  · rw [if_pos h1] at h; exact absurd h h1
theorem stage_cases (r : Rec) (a : Stp) (n : Nat) (l : List ByteArray) (wall : Int) :
    (bothE r (stgR r a n l wall) ≠ 0 ∧ stageE r a n l wall = bothE r (stgR r a n l wall) ∧ stageO r a n l wall = zeR) ∨
    (bothE r (stgR r a n l wall) = 0 ∧ r.st = 3 ∧ stageE r a n l wall = 320 ∧ stageO r a n l wall = zeR) ∨
    (bothE r (stgR r a n l wall) = 0 ∧ r.st = 4 ∧ stageE r a n l wall = 14 ∧ stageO r a n l wall = zeR) ∨
    (bothE r (stgR r a n l wall) = 0 ∧ r.st = 2 ∧ r.at_ ≠ a ∧ stageE r a n l wall = 10 ∧ stageO r a n l wall = zeR) ∨
    (bothE r (stgR r a n l wall) = 0 ∧ r.st = 2 ∧ r.at_ = a ∧ eqL r.l l = false ∧ stageE r a n l wall = 10 ∧ stageO r a n l wall = zeR) ∨
    (bothE r (stgR r a n l wall) = 0 ∧ r.st = 2 ∧ r.at_ = a ∧ eqL r.l l = true ∧ stageE r a n l wall = 0 ∧ stageO r a n l wall = stgR r a n l wall) ∨
    (bothE r (stgR r a n l wall) = 0 ∧ r.st = 1 ∧ less r.pu a = false ∧ stageE r a n l wall = 322 ∧ stageO r a n l wall = zeR) ∨
    (bothE r (stgR r a n l wall) = 0 ∧ r.st = 1 ∧ less r.pu a = true ∧ stageE r a n l wall = 0 ∧ stageO r a n l wall = stgR r a n l wall) := by
  have hb := bothE_st (r := r) (x := stgR r a n l wall)
  unfold stageO stageE
  generalize bothE r (stgR r a n l wall) = ve at *
  by_cases h0 : ve = 0
  · subst h0
    rcases (hb rfl).1 with h | h | h | h
    · cases hx : less r.pu a <;> simp [h]
    · by_cases h1 : r.at_ = a
      · cases hx : eqL r.l l <;> simp [h, h1]
      · simp [h, h1]
    · simp [h]
    · simp [h]
  · simp [h0]
theorem commit_cases (r : Rec) (a : Stp) (n : Nat) (l : List ByteArray) :
    (bothE r (endR r 3 a n l) ≠ 0 ∧ commitE r a n l = bothE r (endR r 3 a n l) ∧ commitO r a n l = zeR) ∨
    (bothE r (endR r 3 a n l) = 0 ∧ r.st = 3 ∧ r.at_ ≠ a ∧ commitE r a n l = 10 ∧ commitO r a n l = zeR) ∨
    (bothE r (endR r 3 a n l) = 0 ∧ r.st = 3 ∧ r.at_ = a ∧ eqL r.l l = false ∧ commitE r a n l = 10 ∧ commitO r a n l = zeR) ∨
    (bothE r (endR r 3 a n l) = 0 ∧ r.st = 3 ∧ r.at_ = a ∧ eqL r.l l = true ∧ commitE r a n l = 0 ∧ commitO r a n l = endR r 3 a n l) ∨
    (bothE r (endR r 3 a n l) = 0 ∧ r.st = 4 ∧ commitE r a n l = 14 ∧ commitO r a n l = zeR) ∨
    (bothE r (endR r 3 a n l) = 0 ∧ r.st = 1 ∧ less r.pu a = false ∧ commitE r a n l = 322 ∧ commitO r a n l = zeR) ∨
    (bothE r (endR r 3 a n l) = 0 ∧ r.st = 1 ∧ less r.pu a = true ∧ commitE r a n l = 0 ∧ commitO r a n l = endR r 3 a n l) ∨
    (bothE r (endR r 3 a n l) = 0 ∧ r.st = 2 ∧ less a r.at_ = true ∧ commitE r a n l = 10 ∧ commitO r a n l = zeR) ∨
    (bothE r (endR r 3 a n l) = 0 ∧ r.st = 2 ∧ less a r.at_ = false ∧ eqL r.l l = false ∧ commitE r a n l = 10 ∧ commitO r a n l = zeR) ∨
    (bothE r (endR r 3 a n l) = 0 ∧ r.st = 2 ∧ less a r.at_ = false ∧ eqL r.l l = true ∧ commitE r a n l = 0 ∧ commitO r a n l = endR r 3 a n l) := by
  have hb := bothE_st (r := r) (x := endR r 3 a n l)
  unfold commitO commitE
  generalize bothE r (endR r 3 a n l) = ve at *
  by_cases h0 : ve = 0
  · subst h0
    rcases (hb rfl).1 with h | h | h | h
    · cases hx : less r.pu a <;> simp [h]
    · cases hy : less a r.at_ <;> cases hx : eqL r.l l <;> simp [h]
    · by_cases h1 : r.at_ = a
      · cases hx : eqL r.l l <;> simp [h, h1]
      · simp [h, h1]
    · simp [h]
  · simp [h0]
theorem rd_new8a (w : World) (x : Int) (t : TypeId) : Rd (w.alloc (.cells #[.int .u8 x] t)) (w.heap.size + 1) (some ⟨w.heap.size, 0, none⟩) (iv [x]) := by
  intro _
  refine ⟨w.heap.size, 0, rfl, by omega, fun i v hv => ?_⟩
  rw [World.cell?_alloc_mark]
  simpa [iv] using hv
theorem abort_cases (r : Rec) : (chkR r ≠ 0 ∧ abortE r = chkR r ∧ abortO r = zeR) ∨ (chkR r = 0 ∧ r.st = 3 ∧ abortE r = 320 ∧ abortO r = zeR) ∨ (chkR r = 0 ∧ r.st = 1 ∧ abortE r = 0 ∧ abortO r = overO r) ∨ (chkR r = 0 ∧ r.st = 2 ∧ abortE r = 0 ∧ abortO r = overO r) ∨ (chkR r = 0 ∧ r.st = 4 ∧ abortE r = 0 ∧ abortO r = overO r) := by
  have hb := chkR_st' (r := r)
  unfold abortO abortE
  generalize chkR r = ve at *
  by_cases h0 : ve = 0
  · subst h0
    rcases (hb rfl).1 with h | h | h | h <;> simp [h]
  · simp [h0]
theorem kill_cases (r : Rec) : (chkR r ≠ 0 ∧ killE r = chkR r ∧ killO r = zeR) ∨ (chkR r = 0 ∧ r.st = 3 ∧ killE r = 320 ∧ killO r = zeR) ∨ (chkR r = 0 ∧ r.st = 2 ∧ killE r = 321 ∧ killO r = zeR) ∨ (chkR r = 0 ∧ r.st = 1 ∧ killE r = 0 ∧ killO r = overO r) ∨ (chkR r = 0 ∧ r.st = 4 ∧ killE r = 0 ∧ killO r = overO r) := by
  have hb := chkR_st' (r := r)
  unfold killO killE
  generalize chkR r = ve at *
  by_cases h0 : ve = 0
  · subst h0
    rcases (hb rfl).1 with h | h | h | h <;> simp [h]
  · simp [h0]
theorem settle_cases (r : Rec) (a : Stp) (whole : Bool) : (chkR r ≠ 0 ∧ settleE r a = chkR r ∧ settleO r a whole = zeR) ∨ (chkR r = 0 ∧ r.st = 3 ∧ settleE r a = 320 ∧ settleO r a whole = zeR) ∨ (chkR r = 0 ∧ r.st = 4 ∧ settleE r a = 14 ∧ settleO r a whole = zeR) ∨ (chkR r = 0 ∧ r.st = 1 ∧ settleE r a = 10 ∧ settleO r a whole = zeR) ∨
    (chkR r = 0 ∧ r.st = 2 ∧ r.at_ ≠ a ∧ settleE r a = 10 ∧ settleO r a whole = zeR) ∨ (chkR r = 0 ∧ r.st = 2 ∧ r.at_ = a ∧ whole = true ∧ settleE r a = 0 ∧ settleO r a whole = endR r 3 r.at_ r.n r.l) ∨ (chkR r = 0 ∧ r.st = 2 ∧ r.at_ = a ∧ whole = false ∧ settleE r a = 0 ∧ settleO r a whole = overO r) := by
  have hb := chkR_st' (r := r)
  unfold settleO settleE
  generalize chkR r = ve at *
  by_cases h0 : ve = 0
  · subst h0
    rcases (hb rfl).1 with h | h | h | h
    · simp [h]
    · by_cases h1 : r.at_ = a
      · cases whole <;> simp [h, h1]
      · simp [h, h1]
    · simp [h]
    · simp [h]
  · simp [h0]
theorem push_cases (r : Rec) (a : Stp) : (chkR r ≠ 0 ∧ pushE r a = chkR r ∧ pushO r a = zeR) ∨ (chkR r = 0 ∧ chk a ≠ 0 ∧ pushE r a = chk a ∧ pushO r a = zeR) ∨ (chkR r = 0 ∧ chk a = 0 ∧ r.st = 3 ∧ pushE r a = 320 ∧ pushO r a = zeR) ∨ (chkR r = 0 ∧ chk a = 0 ∧ r.st = 4 ∧ pushE r a = 14 ∧ pushO r a = zeR) ∨
    (chkR r = 0 ∧ chk a = 0 ∧ r.st = 2 ∧ pushE r a = 321 ∧ pushO r a = zeR) ∨ (chkR r = 0 ∧ chk a = 0 ∧ r.st = 1 ∧ pushE r a = 0 ∧ pushO r a = ⟨r.nd, r.nu, r.st, r.at_, none, r.n, 0, r.l, r.beat, maxS r.pu a⟩) := by
  have hb := chkR_st' (r := r)
  unfold pushO pushE
  generalize chkR r = ve at *
  generalize chk a = ca at *
  by_cases h0 : ve = 0
  · subst h0
    by_cases h1 : ca = 0
    · subst h1
      rcases (hb rfl).1 with h | h | h | h <;> simp [h, endR]
    · simp [h1]
  · simp [h0]
theorem beat_cases (r : Rec) (wall : Int) : (chkR r ≠ 0 ∧ beatE r wall = chkR r ∧ beatO r wall = zeR) ∨ (chkR r = 0 ∧ wall < 0 ∧ beatE r wall = 2 ∧ beatO r wall = zeR) ∨ (chkR r = 0 ∧ 1099511627776 < wall ∧ beatE r wall = 2 ∧ beatO r wall = zeR) ∨ (chkR r = 0 ∧ 0 ≤ wall ∧ wall ≤ 1099511627776 ∧ r.st = 3 ∧ beatE r wall = 320 ∧ beatO r wall = zeR) ∨ (chkR r = 0 ∧ 0 ≤ wall ∧ wall ≤ 1099511627776 ∧ r.st = 4 ∧ beatE r wall = 14 ∧ beatO r wall = zeR) ∨
    (chkR r = 0 ∧ 0 ≤ wall ∧ wall ≤ 1099511627776 ∧ r.st = 1 ∧ beatE r wall = 0 ∧ beatO r wall = ⟨r.nd, r.nu, r.st, r.at_, none, r.n, 0, r.l, max r.beat wall, r.pu⟩) ∨ (chkR r = 0 ∧ 0 ≤ wall ∧ wall ≤ 1099511627776 ∧ r.st = 2 ∧ beatE r wall = 0 ∧ beatO r wall = ⟨r.nd, r.nu, r.st, r.at_, none, r.n, 0, r.l, max r.beat wall, r.pu⟩) := by
  have hb := chkR_st' (r := r)
  unfold beatO beatE
  generalize chkR r = ve at *
  by_cases h0 : ve = 0
  · subst h0
    by_cases h1 : wall < 0
    · simp [h1]
    · by_cases h2 : 1099511627776 < wall
      · simp [h2]
      · have h3 : ¬ (wall < 0 ∨ 1099511627776 < wall) := by omega
        have h4 : 0 ≤ wall := by omega
        have h5 : wall ≤ 1099511627776 := by omega
        rcases (hb rfl).1 with h | h | h | h <;> simp [h, h1, h2, h4, h5, endR]
  · simp [h0]
def overE (st : Int) : Int := if st = 3 then 320 else if st = 4 then 14 else 0
theorem rover_any (r : Rec) (w : World) : Calls Try.prog 75 #[r.v] w fun e w' => e = .returned (.int .i64 (overE r.st)) ∧ Below w.heap.size w w' := by
  obtain ⟨nd, nu, st, ⟨aw, al, ag⟩, A0, n0, c0, l0, beat, ⟨pw, pl, pg⟩⟩ := r
  unfold Rec.v overE
  simp only
  by_cases h3 : st = 3
  · subst h3
    go_enter Try.func75, Try.ntmps75
    go_wp2
    go_ret
    exact ⟨rfl, (Below.refl _ _).alloc (Nat.le_refl _) _⟩
  by_cases h4 : st = 4
  · subst h4
    go_enter Try.func75, Try.ntmps75
    go_wp2
    go_ret
    exact ⟨rfl, (Below.refl _ _).alloc (Nat.le_refl _) _⟩
  rw [if_neg h3, if_neg h4]
  go_enter Try.func75, Try.ntmps75
  go_wp2
  go_ret
  exact ⟨rfl, (Below.refl _ _).alloc (Nat.le_refl _) _⟩
end Go.Proofs.Ythigmjcepbgljaa
