/- The walk of the law on clocks, call by call. -/
import Derived.Test.YthijpcbblmcfiaaHi
import Derived.Test.YthijpcbblmcfiaaOa
import Derived.Test.YthijpcbblmcfiaaHg
namespace Go.Proofs.Ythijpcbblmcfiaa
open Go.RowKit Go.St
set_option linter.unusedVariables false
set_option linter.unusedSimpArgs false
set_option maxRecDepth 100000

theorem tmod_val (x n : Int) (hn : 0 < n) : x % n = if x.tmod n < 0 then x.tmod n + n else x.tmod n := by
  have h := Int.tmod_add_mul_tdiv x n
  have h1 := Int.tmod_lt_of_pos x hn
  have h2 := Int.lt_tmod_of_pos x hn
  have e : x % n = x.tmod n % n := by
    conv => lhs; rw [← h]
    exact Int.add_mul_emod_self_left _ _ _
  rw [e]
  split
  · rw [← Int.add_emod_right, Int.emod_eq_of_lt (by omega) (by omega)]
  · exact Int.emod_eq_of_lt (by omega) h1
set_option maxHeartbeats 400000 in
theorem pick_any (x n : Int) (hn : 0 < n) (hn2 : n ≤ 1000000) (hx : -9223372036854775808 ≤ x ∧ x ≤ 9223372036854775807) (w : World) : Calls Try.prog 28 #[.int .i64 x, .int .i64 n] w fun e w' => e = .returned (.int .i64 (x % n)) ∧ w = w' := by
  by_cases h0 : 0 ≤ x
  · have h1 : ¬ x % n < 0 := by have := Int.emod_nonneg x (show n ≠ 0 by omega); omega
    go_enter Try.func28, Try.ntmps28
    go_wp2
    go_ret
    exact ⟨rfl, rfl⟩
  · go_enter Try.func28, Try.ntmps28
    go_wp2
    · go_ret
      refine ⟨ret_int ?_, rfl⟩
      have h3 : x.tmod n < 0 := by assumption
      have h2 := tmod_val x n hn
      rw [if_pos h3] at h2
      rw [h2]
      have hb := Int.lt_tmod_of_pos x hn
      exact IntWalk.wrap64_in _ ⟨by omega, by omega⟩
    · go_ret
      refine ⟨ret_int ?_, rfl⟩
      have h3 : 0 ≤ x.tmod n := by assumption
      have h2 := tmod_val x n hn
      rw [if_neg (by omega)] at h2
      exact h2.symm

theorem rnow_nil (t : Int) (w : World) : Calls Try.prog 29 #[.pointer none, .int .i64 t] w fun e w' =>
    e = .returned (.tuple #[.agg #[.int .i64 0, .int .i32 0, .int .i32 0], .int .i64 1]) ∧ Below w.heap.size w w' := by
  go_enter Try.func29, Try.ntmps29
  go_wp2
  refine bodyPost_ret (v := .tuple #[.agg #[.int .i64 0, .int .i32 0, .int .i32 0], .int .i64 1]) (by simp [results, Try.results29, go_sem]) rfl ⟨rfl, by go_grown⟩
theorem rhear_nil (s : Stp) (t : Int) (w : World) : Calls Try.prog 30 #[.pointer none, .agg #[.int .i64 s.wall, .int .i32 s.logic, .int .i32 s.tag], .int .i64 t] w fun e w' =>
    e = .returned (.int .i64 1) ∧ Below w.heap.size w w' := by
  go_enter Try.func30, Try.ntmps30
  go_wp2
  go_ret
  exact ⟨rfl, by go_grown⟩
theorem rlast_nil (w : World) : Calls Try.prog 31 #[.pointer none] w fun e w' =>
    e = .returned (.agg #[.int .i64 0, .int .i32 0, .int .i32 0]) ∧ Below w.heap.size w w' := by
  go_enter Try.func31, Try.ntmps31
  go_wp2
  refine bodyPost_ret (v := .agg #[.int .i64 0, .int .i32 0, .int .i32 0]) (by simp [results, Try.results31, go_sem]) rfl ⟨rfl, by go_grown⟩

/-- Both clocks are there and alike, or neither is. -/
def TwoC (base : Nat) (o : Int) (s : Stp) (p q : Value) (w : World) : Prop :=
  (p = .pointer none ∧ q = .pointer none ∧ s = zeroS) ∨ ∃ b1 b2, p = .pointer (some ⟨b1, 0, none⟩) ∧ q = .pointer (some ⟨b2, 0, none⟩) ∧ base ≤ b1 ∧ base ≤ b2 ∧ b1 ≠ b2 ∧ Clk w b1 o s ∧ Clk w b2 o s ∧ okS s = true ∧ s.tag = 0

/-- New, by both: the pair that comes of it. -/
theorem okS_max {a b : Stp} (h : okS a = true) (k : okS b = true) : okS (maxS a b) = true := ok_max h k
theorem tag_max {a b : Stp} (h : a.tag = 0) (k : b.tag = 0) : (maxS a b).tag = 0 := by unfold maxS; split <;> assumption
theorem now_ok {s : Stp} {t : Int} (h : okS s = true) (h0 : s.tag = 0) : okS (nowL s t) = true ∧ (nowL s t).tag = 0 := by
  have hk := (okS_iff s).1 h
  rcases now_cases s t with ⟨h1, hE, hS, hL⟩ | ⟨h1, h2, h3, hE, hS, hL⟩ | ⟨h1, h2, h3, h4, hE, hS, hL⟩ | ⟨h1, h2, h3, h4, hE, hS, hL⟩
  · rw [hL]; exact ⟨h, h0⟩
  · rw [hL]; refine ⟨?_, rfl⟩; rw [okS_iff]; simp only; omega
  · rw [hL]; exact ⟨h, h0⟩
  · rw [hL]; refine ⟨?_, rfl⟩; rw [okS_iff]; simp only; omega
theorem hear_ok {o : Int} {l s : Stp} {t : Int} (h : okS l = true) (h0 : l.tag = 0) : okS (hearL o l s t) = true ∧ (hearL o l s t).tag = 0 := by
  rcases hear_cases o l s t with ⟨-, -, hL⟩ | ⟨-, -, -, hL⟩ | ⟨-, -, -, -, -, hL⟩ | ⟨k, h1, h2, -, -, hL⟩
  · rw [hL]; exact ⟨h, h0⟩
  · rw [hL]; exact ⟨h, h0⟩
  · rw [hL]; exact ⟨h, h0⟩
  · rw [hL]
    have ht : okS ⟨t, 0, 0⟩ = true := by rw [okS_iff]; simp only; omega
    exact ⟨okS_max (okS_max h (ok_untag k)) ht, tag_max (tag_max h0 rfl) rfl⟩

/-- New, whatever it is handed: the pointer it tells, the error. -/
def NewPost (o : Int) (s : Stp) (w : World) (e : Ending) (w' : World) : Prop :=
  (newE o s = 0 ∧ okS s = true ∧ ∃ b, e = .returned (.tuple #[.pointer (some ⟨b, 0, none⟩), .int .i64 0]) ∧ w.heap.size ≤ b ∧ Clk w' b o ⟨s.wall, s.logic, 0⟩ ∧ Below w.heap.size w w') ∨
  (newE o s ≠ 0 ∧ e = .returned (.tuple #[.pointer none, .int .i64 2]) ∧ Below w.heap.size w w')
theorem new_zero {o : Int} {s : Stp} (h : newE o s = 0) : 0 ≤ o ∧ o ≤ 1099511627776 ∧ okS s = true := by
  unfold newE at h
  split at h
  · cases h
  · rename_i h1
    unfold chk at h
    split at h
    · rename_i h2; exact ⟨by omega, by omega, h2⟩
    · cases h
theorem hnew_any (o : Int) (s : Stp) (w : World) : Calls Try.prog 22 #[.int .i64 o, .agg #[.int .i64 s.wall, .int .i32 s.logic, .int .i32 s.tag]] w (NewPost o s w) := by
  by_cases h : newE o s = 0
  · obtain ⟨h1, h2, h3⟩ := new_zero h
    exact (hnew_ok o s w h1 h2 h3).mono fun e w' h4 => .inl ⟨h, h3, h4⟩
  · exact (hnew_no o s w h).mono fun e w' h4 => .inr ⟨h, h4⟩
theorem rnew_any (o : Int) (s : Stp) (w : World) : Calls Try.prog 27 #[.int .i64 o, .agg #[.int .i64 s.wall, .int .i32 s.logic, .int .i32 s.tag]] w (NewPost o s w) := by
  by_cases h : newE o s = 0
  · obtain ⟨h1, h2, h3⟩ := new_zero h
    exact (rnew_ok o s w h1 h2 h3).mono fun e w' h4 => .inl ⟨h, h3, h4⟩
  · exact (rnew_no o s w h).mono fun e w' h4 => .inr ⟨h, h4⟩

/-- The cells of a call's box. -/
structure ABx (w : World) (b : Nat) (a : ActL) : Prop where
  c0 : w.cell? ⟨b, 0, none⟩ = some (.int .i64 a.k)
  c1 : w.cell? ⟨b, 1, none⟩ = some (.int .i64 a.wl)
  c2 : w.cell? ⟨b, 2, none⟩ = some (.int .i64 a.s.wall)
  c3 : w.cell? ⟨b, 3, none⟩ = some (.int .i32 a.s.logic)
  c4 : w.cell? ⟨b, 4, none⟩ = some (.int .i32 a.s.tag)
theorem ABx.lt {w : World} {b : Nat} {a : ActL} (h : ABx w b a) : b < w.heap.size := World.block_lt_of_cell? w _ h.c0
theorem ABx.keep {w w' : World} {b : Nat} {a : ActL} (h : ABx w b a) (hc : ∀ i, w'.cell? ⟨b, i, none⟩ = w.cell? ⟨b, i, none⟩) : ABx w' b a := ⟨(hc 0).trans h.c0, (hc 1).trans h.c1, (hc 2).trans h.c2, (hc 3).trans h.c3, (hc 4).trans h.c4⟩
theorem ABx.below {w w' : World} {b B : Nat} {a : ActL} (h : ABx w b a) (hb : Below B w w') (hB : b < B) : ABx w' b a := h.keep (fun i => hb.cell (p := ⟨b, i, none⟩) hB)
theorem ABx.only {w w' : World} {b x B : Nat} {a : ActL} (h : ABx w b a) (hb : Only B x w w') (hB : b < B) (hx : b ≠ x) : ABx w' b a := h.keep (fun i => hb.cell (p := ⟨b, i, none⟩) hB hx)
theorem abx_new (w : World) (a : ActL) (t : TypeId) : ABx (w.alloc (.cells #[.int .i64 a.k, .int .i64 a.wl, .int .i64 a.s.wall, .int .i32 a.s.logic, .int .i32 a.s.tag] t)) w.heap.size a := by
  constructor <;> simp [go_sem]

theorem TwoC.below {base : Nat} {o : Int} {s : Stp} {p q : Value} {w w' : World} (h : TwoC base o s p q w) (hb : Below w.heap.size w w') : TwoC base o s p q w' := by
  rcases h with h | ⟨b1, b2, h1, h2, h3, h4, h5, k1, k2, h6, h7⟩
  · exact .inl h
  · exact .inr ⟨b1, b2, h1, h2, h3, h4, h5, k1.below hb k1.lt, k2.below hb k2.lt, h6, h7⟩

/-- One of the calls, as its cells lie in the list. -/
theorem act_cells {w : World} {B : Nat} {A : Option Addr} {l : List ActL} (h : Rd w B A (l.map actCells).flatten) (j : Nat) (a : ActL) (hj : l[j]? = some a) :
    ∃ b off, A = some ⟨b, off, none⟩ ∧ b < B ∧ w.cell? ⟨b, off + j * 5, none⟩ = some (.int .i64 a.k) ∧ w.cell? ⟨b, off + j * 5 + 1, none⟩ = some (.int .i64 a.wl) ∧ w.cell? ⟨b, off + j * 5 + 2, none⟩ = some (.int .i64 a.s.wall) ∧
      w.cell? ⟨b, off + j * 5 + 3, none⟩ = some (.int .i32 a.s.logic) ∧ w.cell? ⟨b, off + j * 5 + 4, none⟩ = some (.int .i32 a.s.tag) := by
  have hg : ∀ (i : Nat) (v : Value), (actCells a)[i]? = some v → (l.map actCells).flatten[j * 5 + i]? = some v := fun i v hv =>
    flatten_get (n := 5) (l.map actCells) (fun c hc => by obtain ⟨x, _, rfl⟩ := List.mem_map.1 hc; rfl) j i (actCells a) v (by rw [List.getElem?_map, hj]; rfl) hv
  obtain ⟨b, off, e, hb, h0⟩ := h.at_ (hg 0 _ rfl)
  subst e
  have hc : ∀ (i : Nat) (v : Value), (actCells a)[i]? = some v → w.cell? ⟨b, off + j * 5 + i, none⟩ = some v := fun i v hv => by
    obtain ⟨b', off', e', _, h'⟩ := h.at_ (hg i _ hv)
    injection e' with e'
    injection e' with e1 e2
    subst e1 e2
    rw [Nat.add_assoc]
    exact h'
  exact ⟨b, off, rfl, hb, hc 0 _ rfl, hc 1 _ rfl, hc 2 _ rfl, hc 3 _ rfl, hc 4 _ rfl⟩
end Go.Proofs.Ythijpcbblmcfiaa
