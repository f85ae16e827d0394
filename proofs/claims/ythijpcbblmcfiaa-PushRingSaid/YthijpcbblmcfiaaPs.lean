/- Walk: transactions never wait for one another in a ring. -/
import Derived.Test.YthijpcbblmcfiaaPr
import Derived.Test.YthijpcbblmcfiaaPg
import Derived.Test.YthijpcbblmcfiaaPick
import Derived.Test.YthijpcbblmcfiaaOsts
import Derived.Test.YthijpcbblmcfiaaQTail
import Derived.Test.YthijpcbblmcfiaaCut
import Derived.Deep.Cut
import Derived.Deep.OwnRows
namespace Go.Proofs.Ythijpcbblmcfiaa
open Go.RowKit Go.St
set_option linter.unusedVariables false
set_option linter.unusedSimpArgs false
set_option maxRecDepth 100000

theorem own_setOther {w : World} {base : Nat} {e : TypeId} {size : Nat} {v : Value} {n : Nat} {xs : List Value} (h : w.ownsRow base e size v n xs) {p : Addr} {u : Value} (hp : v.ownBlock ≠ some p.block) : (w.setCell p u).ownsRow base e size v n xs := by
  refine ⟨h.1, ?_⟩
  rcases h.2 with hn | ⟨g, cap, cur, e0, hg, hh, rest⟩
  · exact .inl hn
  · refine .inr ⟨g, cap, cur, e0, hg, ?_, rest⟩
    subst e0
    rw [Below.heap_setCell _ _ _ _ (fun x => hp (by rw [← x]; rfl))]
    exact hh
/-- The rows of whom each one waits for, as they stand. -/
structure NxS (W : World) (lo nb n : Nat) (vs : List Value) (nx : List (List Nat)) : Prop where
  len : nx.length = n
  own : W.ownsRow lo 68 1 (.slice (some ⟨nb, 0, none⟩) n n) n vs
  row : ∀ (x : Nat) (v : Value) (l : List Nat), vs[x]? = some v → nx[x]? = some l → W.ownsRow lo 3 1 v l.length (iv l)
  apn : ∀ (x : Nat) (v : Value), vs[x]? = some v → v.ownBlock ≠ some nb
  apr : ∀ (x y : Nat) (v u : Value), x ≠ y → vs[x]? = some v → vs[y]? = some u → ∀ g, v.ownBlock = some g → u.ownBlock ≠ some g
theorem NxS.vlen {W : World} {lo nb n : Nat} {vs : List Value} {nx : List (List Nat)} (h : NxS W lo nb n vs nx) : vs.length = n := by simpa using h.own.1
theorem NxS.next {W W' : World} {lo nb n : Nat} {vs : List Value} {nx : List (List Nat)} (h : NxS W lo nb n vs nx) (hb : Below W.heap.size W W') : NxS W' lo nb n vs nx :=
  ⟨h.len, own_keep h.own hb (Nat.le_refl _), fun x v l h1 h2 => own_keep (h.row x v l h1 h2) hb (Nat.le_refl _), h.apn, h.apr⟩
theorem NxS.toR {W : World} {lo nb n : Nat} {vs : List Value} {nx : List (List Nat)} (h : NxS W lo nb n vs nx) : NxR W W.heap.size nb nx := fun x l hx => by
  have hxn : x < n := by have := (List.getElem?_eq_some_iff.1 hx).1; rw [h.len] at this; exact this
  have hxl : x < vs.length := by rw [h.vlen]; exact hxn
  have hv : vs[x]? = some vs[x] := List.getElem?_eq_getElem hxl
  have hc := h.own.cellAt x (by omega)
  rw [hv] at hc
  obtain ⟨A, c, e, r⟩ := own_rd (h.row x _ l hv hx)
  exact ⟨A, c, by rw [hc, e], r⟩
theorem NxS.push {W W1 : World} {lo nb n a b : Nat} {vs : List Value} {nx : List (List Nat)} {v v' : Value} {l : List Nat} {ob : Obj} (h : NxS W lo nb n vs nx) (hv : vs[a]? = some v) (hl : nx[a]? = some l)
    (own : W1.ownsRow lo 3 1 v' (l.length + 1) (iv (l ++ [b]))) (gr : (W.alloc ob).grownBy W1 v.ownBlock) (at1 : v'.ownBlock = v.ownBlock ∨ v'.ownBlock = some (W.alloc ob).heap.size) :
    NxS (W1.setCell ⟨nb, a, none⟩ v') lo nb n (vs.set a v') (nx.set a (l ++ [b])) := by
  have hA := h.next ((Below.refl _ _).alloc (Nat.le_refl _) ob)
  have hav : a < vs.length := (List.getElem?_eq_some_iff.1 hv).1
  have hvn : v.ownBlock ≠ some nb := h.apn a v hv
  have hnbl : nb < W.heap.size := (h.own.lt nb rfl).2
  have hn' : v'.ownBlock ≠ some nb := by
    rcases at1 with e | e
    · rw [e]; exact hvn
    · rw [e]
      intro x
      injection x with x
      rw [World.size_alloc] at x
      omega
  have hO : W1.ownsRow lo 68 1 (.slice (some ⟨nb, 0, none⟩) n n) n vs := hA.own.kept gr (.inr (fun e => hvn e.symm))
  refine ⟨by rw [List.length_set]; exact h.len, (hO.stored a v').1, ?_, ?_, ?_⟩
  · intro x u l2 hu hl2
    by_cases hxa : x = a
    · subst hxa
      rw [List.getElem?_set_self hav] at hu
      rw [List.getElem?_set_self (by rw [h.len, ← h.vlen]; exact hav)] at hl2
      injection hu with hu
      injection hl2 with hl2
      subst hu hl2
      rw [List.length_append]
      exact own_setOther own hn'
    · rw [List.getElem?_set_ne (Ne.symm hxa)] at hu hl2
      refine own_setOther ((hA.row x u l2 hu hl2).kept gr ?_) (h.apn x u hu)
      cases hg : u.ownBlock with
      | none => exact .inl rfl
      | some g => exact .inr (fun e => h.apr x a u v hxa hu hv g hg e.symm)
  · intro x u hu
    by_cases hxa : x = a
    · subst hxa
      rw [List.getElem?_set_self hav] at hu
      injection hu with hu
      subst hu
      exact hn'
    · rw [List.getElem?_set_ne (Ne.symm hxa)] at hu
      exact h.apn x u hu
  · have hnew : ∀ x u, x ≠ a → vs[x]? = some u → ∀ g, u.ownBlock = some g → v'.ownBlock ≠ some g := fun x u hxa hu g hg => by
      rcases at1 with e | e
      · rw [e]; exact h.apr x a u v hxa hu hv g hg
      · rw [e]
        intro q
        injection q with q
        have hxn : x < n := by have := (List.getElem?_eq_some_iff.1 hu).1; rw [h.vlen] at this; exact this
        obtain ⟨lx, hlx⟩ : ∃ lx, nx[x]? = some lx := ⟨_, List.getElem?_eq_getElem (by rw [h.len]; exact hxn)⟩
        have hr := h.row x u lx hu hlx
        have := (hr.lt g hg).2
        rw [World.size_alloc] at q
        omega
    intro x y u u2 hxy hu hu2 g hg
    by_cases hxa : x = a
    · subst hxa
      rw [List.getElem?_set_self hav] at hu
      injection hu with hu
      subst hu
      rw [List.getElem?_set_ne hxy] at hu2
      intro e
      exact hnew y u2 (Ne.symm hxy) hu2 g e hg
    · rw [List.getElem?_set_ne (Ne.symm hxa)] at hu
      by_cases hya : y = a
      · subst hya
        rw [List.getElem?_set_self hav] at hu2
        injection hu2 with hu2
        subst hu2
        exact hnew x u hxa hu g hg
      · rw [List.getElem?_set_ne (Ne.symm hya)] at hu2
        exact h.apr x y u u2 hxy hu hu2 g hg

/-- A stamp where it lies, in a list that reads. -/
theorem st_at {w : World} {B : Nat} {A : Option Addr} {l : List Stp} (h : Rd w B A (l.map stc).flatten) {i : Nat} {s : Stp} (hi : l[i]? = some s) : ∃ b off, A = some ⟨b, off, none⟩ ∧ b < B ∧ w.cell? ⟨b, off + i * 3, none⟩ = some (.int .i64 s.wall) ∧ w.cell? ⟨b, off + i * 3 + 1, none⟩ = some (.int .i32 s.logic) ∧ w.cell? ⟨b, off + i * 3 + 2, none⟩ = some (.int .i32 s.tag) := by
  have hf : ∀ j v, (stc s)[j]? = some v → (l.map stc).flatten[i * 3 + j]? = some v := fun j v hv => flatten_get (l.map stc) (fun c hc => by
    obtain ⟨x, _, rfl⟩ := List.mem_map.1 hc
    rfl) i j (stc s) v (by rw [List.getElem?_map, hi]; rfl) hv
  obtain ⟨b, off, e, hb, hc⟩ := h (by
    intro e
    have := hf 0 _ rfl
    rw [e] at this
    cases this)
  refine ⟨b, off, e, hb, hc _ _ (hf 0 _ rfl), ?_, ?_⟩
  · rw [Nat.add_assoc]; exact hc _ _ (hf 1 _ rfl)
  · rw [Nat.add_assoc]; exact hc _ _ (hf 2 _ rfl)

set_option maxHeartbeats 6400000 in
theorem pushRing_walk (w : World) (A : Option Addr) (n c : Nat) (l : List Stp) (hl : l.length = n) (hr : Rd w w.heap.size A (l.map stc).flatten) (A2 : Option Addr) (m c2 : Nat) (p : List (Int × Int)) (hp : p.length = m) (hin : ∀ a ∈ p, InP a) (hr2 : Rd w w.heap.size A2 (p.map prc).flatten) (now ex : Int) :
    Calls Try.prog 11 #[.slice A n c, .slice A2 m c2, .int .i64 now, .int .i64 ex] w fun e w' => e = .returned (.bool true) ∧ Below w.heap.size w w' := by
  have HL := Lib.hid hl
  have HR := Lib.hid hr
  have HP := Lib.hid hp
  have HI := Lib.hid hin
  have HR2 := Lib.hid hr2
  clear hl hr hp hin hr2
  go_enter Try.func11, Try.ntmps11
  go_wp2_with fail
  refine (lives27_any w).mono ?_
  rintro e w1 ⟨rfl, hb1⟩
  have B1 := Lib.hid hb1
  clear hb1
  by_cases h30 : n ≤ 30
  case neg =>
    go_wp2_with fail
    go_ret
    exact ⟨rfl, B1.out⟩
  by_cases h60 : m ≤ 60
  case neg =>
    go_wp2_with fail
    go_ret
    exact ⟨rfl, B1.out⟩
  by_cases h00 : n = 0
  case pos =>
    subst h00
    go_wp2_with fail
    go_ret
    exact ⟨rfl, B1.out⟩
  have hn1 : ¬ (n : Int) = 0 := by omega
  go_wp2_with fail
  · go_ret
    exact ⟨rfl, B1.out⟩
  go_loopw [9] (fun s9 wr => ∃ i : Nat, s9 = .int .i64 (i : Int) ∧ i ≤ n ∧ Hid (∀ j k s t, k < j → j < i → l[j]? = some s → l[k]? = some t → s ≠ t) ∧ Hid (Below w.heap.size w wr)) (fun s9 _ => n - (intOf s9).toNat)
  case atStart => exact ⟨0, rfl, Nat.zero_le _, Lib.hid (fun j k s t _ h => by omega), B1⟩
  case round =>
    obtain ⟨i, rfl, hi, hD, hB⟩ := hrel
    clear B1
    obtain ⟨w2, rfl⟩ : ∃ x, x = wr := ⟨_, rfl⟩
    by_cases hlt : i < n
    · obtain ⟨s, hs⟩ : ∃ s, l[i]? = some s := ⟨_, List.getElem?_eq_getElem (by rw [HL.out]; exact hlt)⟩
      obtain ⟨b, off, rfl, hb, d0, d1, d2⟩ := st_at HR.out hs
      have D0 := Lib.hid d0
      have D1 := Lib.hid d1
      have D2 := Lib.hid d2
      have e0 := (hB.out.cell (p := ⟨b, off + i * 3, none⟩) hb).trans d0
      have e1 := (hB.out.cell (p := ⟨b, off + i * 3 + 1, none⟩) hb).trans d1
      have e2 := (hB.out.cell (p := ⟨b, off + i * 3 + 2, none⟩) hb).trans d2
      have HS := Lib.hid hs
      have i1 : (i : Int) < (n : Int) := by omega
      have i2 : (0 : Int) ≤ (i : Int) := by omega
      clear d0 d1 d2 hs
      go_wp2_with fail
      refine (rcheck_any s w2).mono ?_
      rintro e w3 ⟨rfl, hb3⟩
      have B3 : Hid (Below w.heap.size w w3) := Lib.hid (hB.out.trans (hb3.mono hB.out.size))
      clear hb3 e0 e1 e2 hB
      by_cases hc : chk s = 0
      case neg =>
        have hc2 : (chk s != 0) = true := by simpa using hc
        clear hc
        generalize chk s = C at *
        go_wp2_with fail
        go_ret
        exact ⟨rfl, B3.out⟩
      rw [hc]
      clear hc
      go_wp2_with fail
      go_loopw [10] (fun s10 wr => ∃ k : Nat, s10 = .int .i64 (k : Int) ∧ k ≤ i ∧ Hid (∀ j t, j < k → l[j]? = some t → s ≠ t) ∧ Hid (Below w.heap.size w wr)) (fun s10 _ => i - (intOf s10).toNat)
      case atStart => exact ⟨0, rfl, Nat.zero_le _, Lib.hid (fun j t h => by omega), B3⟩
      case round =>
        obtain ⟨k, rfl, hk, hE, hB4⟩ := hrel
        clear B3
        obtain ⟨w4, rfl⟩ : ∃ x, x = wr := ⟨_, rfl⟩
        by_cases hki : k < i
        · obtain ⟨t, ht⟩ : ∃ t, l[k]? = some t := ⟨_, List.getElem?_eq_getElem (by rw [HL.out]; omega)⟩
          obtain ⟨b', off', eA, hb', f0, f1, f2⟩ := st_at HR.out ht
          injection eA with eA
          injection eA with eb eo
          subst eb eo
          have e0 := (hB4.out.cell (p := ⟨b, off + i * 3, none⟩) hb).trans D0.out
          have e1 := (hB4.out.cell (p := ⟨b, off + i * 3 + 1, none⟩) hb).trans D1.out
          have e2 := (hB4.out.cell (p := ⟨b, off + i * 3 + 2, none⟩) hb).trans D2.out
          have g0 := (hB4.out.cell (p := ⟨b, off + k * 3, none⟩) hb).trans f0
          have g1 := (hB4.out.cell (p := ⟨b, off + k * 3 + 1, none⟩) hb).trans f1
          have g2 := (hB4.out.cell (p := ⟨b, off + k * 3 + 2, none⟩) hb).trans f2
          have HT := Lib.hid ht
          have k1 : (k : Int) < (i : Int) := by omega
          have k2 : (0 : Int) ≤ (k : Int) := by omega
          have k3 : (k : Int) < (n : Int) := by omega
          clear f0 f1 f2 ht hb'
          have hb4' : b < w4.heap.size := by have := hB4.out.size; omega
          by_cases hst : s = t
          · subst hst
            go_wp2_with fail
            refine wp_qall (by kernel_rfl) (by kernel_rfl) ?_
            intro hcg
            repeat (first | go_big_quiet_step (fail) | quiet_step (fail))
            refine wpQuiet_nil ?_
            intro wq hbwq hcwq hfwq
            clear hcg
            have BQ := Lib.hid (hB4.out.trans (hbwq.mono hB4.out.size))
            clear hbwq hcwq hfwq
            go_wp2_with fail
            go_ret
            exact ⟨rfl, BQ.out⟩
          · have HEn : Hid (∀ j t, j < k + 1 → l[j]? = some t → s ≠ t) := Lib.hid (fun j t2 h1 h2 => by
              rcases Nat.lt_or_ge j k with h | h
              · exact hE.out j t2 h h2
              · have e : j = k := by omega
                subst e
                rw [HT.out] at h2
                injection h2 with h2
                rw [← h2]
                exact hst)
            have hq : s.wall = t.wall → s.logic = t.logic → s.tag = t.tag → False := fun a b c => hst (by
              obtain ⟨x, y, z⟩ := s
              obtain ⟨x', y', z'⟩ := t
              simp only at a b c
              rw [a, b, c])
            have HQ := Lib.hid hq
            clear hq hst
            by_cases q0 : s.wall = t.wall
            · by_cases q1 : s.logic = t.logic
              · have q2 : ¬ s.tag = t.tag := fun e => HQ.out q0 q1 e
                have g2 : (s.tag == t.tag) = false := by simpa using q2
                clear q0 q1 q2
                go_wp2_with fail
                refine wp_qall (by kernel_rfl) (by kernel_rfl) ?_
                intro hcg
                repeat (first | go_big_quiet_step (fail) | quiet_step (fail))
                refine wpQuiet_nil ?_
                intro wq hbwq hcwq hfwq
                clear hcg
                have BQ := Lib.hid (hB4.out.trans (hbwq.mono hB4.out.size))
                clear hbwq hcwq hfwq hB4
                go_wp2_with fail
                go_roundw
                case rel => exact ⟨k + 1, by go_num, by omega, HEn, BQ⟩
                case measure => simp [intOf]; omega
              · have g2 : (s.logic == t.logic) = false := by simpa using q1
                clear q0 q1
                go_wp2_with fail
                refine wp_qall (by kernel_rfl) (by kernel_rfl) ?_
                intro hcg
                repeat (first | go_big_quiet_step (fail) | quiet_step (fail))
                refine wpQuiet_nil ?_
                intro wq hbwq hcwq hfwq
                clear hcg
                have BQ := Lib.hid (hB4.out.trans (hbwq.mono hB4.out.size))
                clear hbwq hcwq hfwq hB4
                go_wp2_with fail
                go_roundw
                case rel => exact ⟨k + 1, by go_num, by omega, HEn, BQ⟩
                case measure => simp [intOf]; omega
            · have g2 : (s.wall == t.wall) = false := by simpa using q0
              clear q0
              go_wp2_with fail
              refine wp_qall (by kernel_rfl) (by kernel_rfl) ?_
              intro hcg
              repeat (first | go_big_quiet_step (fail) | quiet_step (fail))
              refine wpQuiet_nil ?_
              intro wq hbwq hcwq hfwq
              clear hcg
              have BQ := Lib.hid (hB4.out.trans (hbwq.mono hB4.out.size))
              clear hbwq hcwq hfwq hB4
              go_wp2_with fail
              go_roundw
              case rel => exact ⟨k + 1, by go_num, by omega, HEn, BQ⟩
              case measure => simp [intOf]; omega
        · have k1 : ¬ (k : Int) < (i : Int) := by omega
          have HDn : Hid (∀ j k s t, k < j → j < i + 1 → l[j]? = some s → l[k]? = some t → s ≠ t) := Lib.hid (fun j k2 s2 t2 h1 h2 h3 h4 => by
            rcases Nat.lt_or_ge j i with h | h
            · exact hD.out j k2 s2 t2 h1 h h3 h4
            · have e : j = i := by omega
              subst e
              rw [HS.out] at h3
              injection h3 with h3
              subst h3
              exact hE.out k2 t2 (by omega) h4)
          go_wp2_with fail
          go_roundw
          all_goals first | exact ⟨i + 1, by omega, by omega, HDn⟩ | exact ⟨i + 1, by omega, by omega, HDn, hB4⟩ | (simp only [intOf]; omega)
    · have i1 : ¬ (i : Int) < (n : Int) := by omega
      have e : i = n := by omega
      subst e
      have hmk := fun W => run_make_row' (P := Try.prog) 66 68 (.slice none 0 0) 24 Try.underlying66 (by kernel_rfl) rfl .i64 .i64 i (by omega) (by omega) W
      have HDD : Hid (∀ a b s t, a ≠ b → l[a]? = some s → l[b]? = some t → s ≠ t) := Lib.hid (fun a b s t hab hs ht e => by
        have hal := (List.getElem?_eq_some_iff.1 hs).1
        have hbl := (List.getElem?_eq_some_iff.1 ht).1
        rw [HL.out] at hal hbl
        rcases Nat.lt_or_gt_of_ne hab with h | h
        · exact hD.out b a t s h hbl ht hs e.symm
        · exact hD.out a b s t h hal hs ht e)
      have hn30 : i ≤ 30 := h30
      go_wp2_with fail
      have N0 : Hid (NxS (w2.alloc (.cells (madeCells #[.slice none 0 0] i) 68)) w2.heap.size w2.heap.size i (List.replicate i (.slice none 0 0)) (List.replicate i [])) := Lib.hid (by
        have h := World.ownsRow_lit (base := w2.heap.size) (size := 1) (e := 68) w2 (madeCells #[.slice none 0 0] i) i (Nat.le_refl _) (by unfold maxLen; omega) (by simp [madeCells])
        rw [toList_madeCells_one] at h
        refine ⟨by simp, h, ?_, ?_, ?_⟩
        · intro x v l hv hl
          have e1 : v = .slice none 0 0 := List.eq_of_mem_replicate (List.mem_of_getElem? hv)
          have e2 : l = [] := List.eq_of_mem_replicate (List.mem_of_getElem? hl)
          rw [e1, e2]
          exact World.ownsRow_nil _ _ _ _
        · intro x v hv
          have e1 : v = .slice none 0 0 := List.eq_of_mem_replicate (List.mem_of_getElem? hv)
          rw [e1]
          simp [Value.ownBlock]
        · intro x y v u _ hv hu g hg
          have e1 : v = .slice none 0 0 := List.eq_of_mem_replicate (List.mem_of_getElem? hv)
          rw [e1] at hg
          simp [Value.ownBlock] at hg)
      have BM := Lib.hid (hB.out.alloc hB.out.size (.cells (madeCells #[.slice none 0 0] i) 68))
      have hQ : w.heap.size ≤ w2.heap.size := hB.out.size
      have HLT : Hid (∀ (x : Nat) (l' : List Nat), (List.replicate i ([] : List Nat))[x]? = some l' → l'.length ≤ 0 ∧ ∀ y ∈ l', y < i ∧ ∃ s t, l[y]? = some s ∧ l[x]? = some t ∧ less s t = true) := Lib.hid (fun x l' hl => by
        have e2 : l' = [] := List.eq_of_mem_replicate (List.mem_of_getElem? hl)
        rw [e2]
        exact ⟨Nat.le_refl _, fun y hy => by simp at hy⟩)
      clear hmk hD hB
      generalize w2.alloc (.cells (madeCells #[.slice none 0 0] i) 68) = w3 at *
      generalize w2.heap.size = nb at *
      go_loopw [12] (fun s12 wr => ∃ (vs : List Value) (nx : List (List Nat)) (j : Nat), s12 = .int .i64 (j : Int) ∧ j ≤ m ∧ Hid (NxS wr nb nb i vs nx) ∧ Hid (∀ (x : Nat) (l' : List Nat), nx[x]? = some l' → l'.length ≤ j ∧ ∀ y ∈ l', y < i ∧ ∃ s t, l[y]? = some s ∧ l[x]? = some t ∧ less s t = true) ∧ Hid (Below w.heap.size w wr)) (fun s12 _ => m - (intOf s12).toNat)
      case atStart => exact ⟨_, _, 0, rfl, Nat.zero_le _, N0, HLT, BM⟩
      case round =>
        obtain ⟨vs, nx, j, rfl, hj, HN, HE, hB3⟩ := hrel
        clear N0 BM HLT
        obtain ⟨w4, rfl⟩ : ∃ x, x = wr := ⟨_, rfl⟩
        by_cases hjm : j < m
        · obtain ⟨pp, hpp⟩ : ∃ q, p[j]? = some q := ⟨_, List.getElem?_eq_getElem (by rw [HP.out]; exact hjm)⟩
          obtain ⟨⟨p1, p2⟩, rfl⟩ : ∃ q : Int × Int, pp = q := ⟨pp, rfl⟩
          have hinp := HI.out _ (List.mem_of_getElem? hpp)
          have hf : ∀ j' v, (prc (p1, p2))[j']? = some v → (p.map prc).flatten[j * 2 + j']? = some v := fun j' v hv => flatten_get (p.map prc) (fun c hc => by
            obtain ⟨x, _, rfl⟩ := List.mem_map.1 hc
            rfl) j j' _ v (by rw [List.getElem?_map, hpp]; rfl) hv
          obtain ⟨b2, off2, rfl, hb2, hc2⟩ := HR2.out (by
            intro e
            have := hf 0 _ rfl
            rw [e] at this
            cases this)
          have d0 := (hB3.out.cell (p := ⟨b2, off2 + j * 2, none⟩) hb2).trans (hc2 _ _ (hf 0 _ rfl))
          have e1 := hc2 _ _ (hf 1 _ rfl)
          rw [← Nat.add_assoc] at e1
          have d1 := (hB3.out.cell (p := ⟨b2, off2 + j * 2 + 1, none⟩) hb2).trans e1
          have hi0 : 0 < i := by omega
          have hA0 := Int.emod_nonneg p1 (show (i : Int) ≠ 0 by omega)
          have hA1 := Int.emod_lt_of_pos p1 (show (0 : Int) < (i : Int) by omega)
          have hB0 := Int.emod_nonneg p2 (show (i : Int) ≠ 0 by omega)
          have hB1 := Int.emod_lt_of_pos p2 (show (0 : Int) < (i : Int) by omega)
          obtain ⟨a, ha⟩ : ∃ a : Nat, p1 % (i : Int) = (a : Int) := ⟨(p1 % (i : Int)).toNat, by omega⟩
          obtain ⟨b, hb⟩ : ∃ b : Nat, p2 % (i : Int) = (b : Int) := ⟨(p2 % (i : Int)).toNat, by omega⟩
          have han : a < i := by omega
          have hbn : b < i := by omega
          have HPA : Hid (∀ W, Calls Try.prog 28 #[.int .i64 p1, .int .i64 (i : Int)] W fun e w' => e = .returned (.int .i64 (a : Int)) ∧ Below W.heap.size W w') := Lib.hid (fun W => (pick_any p1 i (by omega) (by omega) hinp.1 W).mono (by rintro e w' ⟨rfl, rfl⟩; exact ⟨by rw [ha], Below.refl _ _⟩))
          have HPB : Hid (∀ W, Calls Try.prog 28 #[.int .i64 p2, .int .i64 (i : Int)] W fun e w' => e = .returned (.int .i64 (b : Int)) ∧ Below W.heap.size W w') := Lib.hid (fun W => (pick_any p2 i (by omega) (by omega) hinp.2 W).mono (by rintro e w' ⟨rfl, rfl⟩; exact ⟨by rw [hb], Below.refl _ _⟩))
          have z2 : b2 < w4.heap.size := by have := hB3.out.size; omega
          have j1 : (j : Int) < (m : Int) := by omega
          have j0 : (0 : Int) ≤ (j : Int) := by omega
          clear hf hc2 e1 hA0 hA1 hB0 hB1 ha hb hinp hpp
          obtain ⟨s, hs⟩ : ∃ s, l[a]? = some s := ⟨_, List.getElem?_eq_getElem (by rw [HL.out]; exact han)⟩
          obtain ⟨t, ht⟩ : ∃ t, l[b]? = some t := ⟨_, List.getElem?_eq_getElem (by rw [HL.out]; exact hbn)⟩
          go_wp2_with fail
          refine wp_qall (by kernel_rfl) (by kernel_rfl) ?_
          intro hcg
          repeat (first | go_big_quiet_step ((with_reducible (first | exact Calls.reg (HPA.out _) | exact Calls.reg (HPB.out _)))) | quiet_step ((with_reducible (first | exact Calls.reg (HPA.out _) | exact Calls.reg (HPB.out _)))))
          refine wpQuiet_nil ?_
          intro wq hbwq hcwq hfwq
          clear hcg
          have N5 := Lib.hid (HN.out.next hbwq)
          have B5 := Lib.hid (hB3.out.trans (hbwq.mono hB3.out.size))
          clear d0 d1 z2 hbwq hcwq hfwq HN hB3 HPA HPB
          obtain ⟨b0, off, rfl, hb0, a0, a1, a2⟩ := st_at HR.out hs
          obtain ⟨b', off', eA, -, c0, c1, c2⟩ := st_at HR.out ht
          injection eA with eA
          injection eA with eb eo
          subst eb eo
          have f0 := (B5.out.cell (p := ⟨b0, off + a * 3, none⟩) hb0).trans a0
          have f1 := (B5.out.cell (p := ⟨b0, off + a * 3 + 1, none⟩) hb0).trans a1
          have f2 := (B5.out.cell (p := ⟨b0, off + a * 3 + 2, none⟩) hb0).trans a2
          have g0 := (B5.out.cell (p := ⟨b0, off + b * 3, none⟩) hb0).trans c0
          have g1 := (B5.out.cell (p := ⟨b0, off + b * 3 + 1, none⟩) hb0).trans c1
          have g2 := (B5.out.cell (p := ⟨b0, off + b * 3 + 2, none⟩) hb0).trans c2
          have HS0 := Lib.hid a0
          have HS1 := Lib.hid a1
          have HS2 := Lib.hid a2
          have HT0 := Lib.hid c0
          have HT1 := Lib.hid c1
          have HT2 := Lib.hid c2
          have zq : b0 < wq.heap.size := by have := B5.out.size; omega
          have a3 : (a : Int) < (i : Int) := by omega
          have a4 : (0 : Int) ≤ (a : Int) := by omega
          have b3 : (b : Int) < (i : Int) := by omega
          have b4 : (0 : Int) ≤ (b : Int) := by omega
          have HSs := Lib.hid hs
          have HTt := Lib.hid ht
          have hvv : vbV zR false false s t now ex = 0 ∨ vbV zR false false s t now ex = 3 ∨ (vbV zR false false s t now ex = 1 ∧ less s t = false) := by
            unfold vbV
            split
            · exact .inl rfl
            · unfold vbW vbS
              simp only [Bool.false_eq_true, if_false]
              rw [if_neg (by decide), if_neg (by decide), if_neg (by decide)]
              split
              · exact .inr (.inl rfl)
              · split
                · exact .inr (.inl rfl)
                · exact .inr (.inr ⟨rfl, by rename_i q; simpa using q⟩)
          have hv0 : vbE zR false s t now ex = 0 → vbV zR false false s t now ex ≠ 0 := fun h => by
            unfold vbV
            rw [if_neg (by rw [h]; decide)]
            unfold vbW vbS
            simp only [Bool.false_eq_true, if_false]
            rw [if_neg (by decide), if_neg (by decide), if_neg (by decide)]
            split
            · decide
            · split <;> decide
          have HV : Hid (∀ W, Calls Try.prog 34 #[.agg #[.int .i32 0, .int .i32 0, .int .u8 0, .int .i64 0, .int .i32 0, .int .i32 0, .slice none 0 0, .int .i64 0, .int .i64 0, .int .i32 0, .int .i32 0], .bool false, .bool false, .agg #[.int .i64 s.wall, .int .i32 s.logic, .int .i32 s.tag], .agg #[.int .i64 t.wall, .int .i32 t.logic, .int .i32 t.tag], .int .i64 now, .int .i64 ex] W fun e w' => e = .returned (.tuple #[.int .i64 (vbV zR false false s t now ex), .int .i64 (vbE zR false s t now ex)]) ∧ Below W.heap.size W w') := Lib.hid (fun W => verb_any zR rfl 0 false false s t now ex W (show Rd W 0 none [] from Rd.nil) (Nat.zero_le _))
          generalize vbV zR false false s t now ex = v at *
          generalize vbE zR false s t now ex = E at *
          have HVV := Lib.hid hvv
          have HV0 := Lib.hid hv0
          clear a0 a1 a2 c0 c1 c2 hs ht hvv hv0
          go_wp2_with fail
          refine wp_qall (by kernel_rfl) (by kernel_rfl) ?_
          intro hcg
          repeat (first | go_big_quiet_step ((with_reducible (exact Calls.reg (HV.out _)))) | quiet_step ((with_reducible (exact Calls.reg (HV.out _)))))
          refine wpQuiet_nil ?_
          intro wv hbwv hcwv hfwv
          clear hcg
          have N6 := Lib.hid (N5.out.next hbwv)
          have B6 := Lib.hid (B5.out.trans (hbwv.mono B5.out.size))
          clear f0 f1 f2 g0 g1 g2 zq hbwv hcwv hfwv N5 B5 HV
          by_cases hE0 : E = 0
          case neg =>
            have e1 : (E != 0) = true := by simpa using hE0
            clear hE0
            go_wp2_with fail
            go_ret
            exact ⟨rfl, B6.out⟩
          have hvn := HV0.out hE0
          subst hE0
          rcases HVV.out with h | h | ⟨h, hls⟩
          · exact absurd h hvn
          · subst h
            clear hvn HV0 HVV
            by_cases hab : a = b
            · have hab2 : ((a : Int) != (b : Int)) = false := by rw [hab]; simp
              clear hab
              go_wp2_with fail
              refine wp_qall (by kernel_rfl) (by kernel_rfl) ?_
              intro hcg
              repeat (first | go_big_quiet_step (fail) | quiet_step (fail))
              refine wpQuiet_nil ?_
              intro wl hbwl hcwl hfwl
              clear hcg
              have N7 := Lib.hid (N6.out.next hbwl)
              have B7 := Lib.hid (B6.out.trans (hbwl.mono B6.out.size))
              clear hbwl hcwl hfwl N6 B6
              go_wp2_with fail
              go_roundw
              case rel => exact ⟨vs, nx, j + 1, by go_num, by omega, N7, Lib.hid (fun x l' h => ⟨Nat.le_succ_of_le (HE.out x l' h).1, (HE.out x l' h).2⟩), B7⟩
              case measure => simp [intOf]; omega
            · have hab2 : ((a : Int) != (b : Int)) = true := by simp only [bne_iff_ne, ne_eq]; omega
              clear hab
              go_wp2_with fail
              refine wp_qall (by kernel_rfl) (by kernel_rfl) ?_
              intro hcg
              repeat (first | go_big_quiet_step (fail) | quiet_step (fail))
              refine wpQuiet_nil ?_
              intro wl hbwl hcwl hfwl
              clear hcg
              have N7 := Lib.hid (N6.out.next hbwl)
              have B7 := Lib.hid (B6.out.trans (hbwl.mono B6.out.size))
              clear hbwl hcwl hfwl N6 B6
              go_wp2_with fail
              go_roundw
              case rel => exact ⟨vs, nx, j + 1, by go_num, by omega, N7, Lib.hid (fun x l' h => ⟨Nat.le_succ_of_le (HE.out x l' h).1, (HE.out x l' h).2⟩), B7⟩
              case measure => simp [intOf]; omega
          · subst h
            clear hvn HV0 HVV
            by_cases hab : a = b
            · have hab2 : ((a : Int) != (b : Int)) = false := by rw [hab]; simp
              clear hab
              go_wp2_with fail
              refine wp_qall (by kernel_rfl) (by kernel_rfl) ?_
              intro hcg
              repeat (first | go_big_quiet_step (fail) | quiet_step (fail))
              refine wpQuiet_nil ?_
              intro wl hbwl hcwl hfwl
              clear hcg
              have N7 := Lib.hid (N6.out.next hbwl)
              have B7 := Lib.hid (B6.out.trans (hbwl.mono B6.out.size))
              clear hbwl hcwl hfwl N6 B6
              go_wp2_with fail
              go_roundw
              case rel => exact ⟨vs, nx, j + 1, by go_num, by omega, N7, Lib.hid (fun x l' h => ⟨Nat.le_succ_of_le (HE.out x l' h).1, (HE.out x l' h).2⟩), B7⟩
              case measure => simp [intOf]; omega
            · have hab2 : ((a : Int) != (b : Int)) = true := by simp only [bne_iff_ne, ne_eq]; omega
              have hne := HDD.out a b s t hab HSs.out HTt.out
              have hlt2 : less t s = true := less_tri hne hls
              have HLS : Hid (∀ W, Calls Try.prog 40 #[.agg #[.int .i64 s.wall, .int .i32 s.logic, .int .i32 s.tag], .agg #[.int .i64 t.wall, .int .i32 t.logic, .int .i32 t.tag]] W fun e w' => e = .returned (.bool false) ∧ Below W.heap.size W w') := Lib.hid (fun W => by have h := rless_any s t W; rw [hls] at h; exact h)
              have HL2 := Lib.hid hlt2
              have f0 := (B6.out.cell (p := ⟨b0, off + a * 3, none⟩) hb0).trans HS0.out
              have f1 := (B6.out.cell (p := ⟨b0, off + a * 3 + 1, none⟩) hb0).trans HS1.out
              have f2 := (B6.out.cell (p := ⟨b0, off + a * 3 + 2, none⟩) hb0).trans HS2.out
              have g0 := (B6.out.cell (p := ⟨b0, off + b * 3, none⟩) hb0).trans HT0.out
              have g1 := (B6.out.cell (p := ⟨b0, off + b * 3 + 1, none⟩) hb0).trans HT1.out
              have g2 := (B6.out.cell (p := ⟨b0, off + b * 3 + 2, none⟩) hb0).trans HT2.out
              have zq : b0 < wv.heap.size := by have := B6.out.size; omega
              clear hab hne hls hlt2
              go_wp2_with fail
              refine wp_qall (by kernel_rfl) (by kernel_rfl) ?_
              intro hcg
              repeat (first | go_big_quiet_step ((with_reducible (exact Calls.reg (HLS.out _)))) | quiet_step ((with_reducible (exact Calls.reg (HLS.out _)))))
              refine wpQuiet_nil ?_
              intro wl hbwl hcwl hfwl
              clear hcg
              have N7 := Lib.hid (N6.out.next hbwl)
              have B7 := Lib.hid (B6.out.trans (hbwl.mono B6.out.size))
              clear f0 f1 f2 g0 g1 g2 zq hbwl hcwl hfwl N6 B6 HLS
              obtain ⟨la, hla⟩ : ∃ la, nx[a]? = some la := ⟨_, List.getElem?_eq_getElem (by rw [N7.out.len]; exact han)⟩
              obtain ⟨va, hva⟩ : ∃ va, vs[a]? = some va := ⟨_, List.getElem?_eq_getElem (by rw [N7.out.vlen]; exact han)⟩
              have ORow := Lib.hid (N7.out.row a va la hva hla)
              have hlen := (HE.out a la hla).1
              have hvl := N7.out.vlen
              have hcell := N7.out.own.cellAt a (by omega)
              rw [hva] at hcell
              obtain ⟨Aa, ca, hvs, -⟩ := own_rd ORow.out
              subst hvs
              have HVA := Lib.hid hva
              have HLA := Lib.hid hla
              have hs7 := B7.out.size
              have hnbl : nb < wl.heap.size := (N7.out.own.lt nb rfl).2
              clear hva hla
              go_wp2_with (at_builtin; refine wpList_app styI (.tmp 139) (.tmp 141) rfl rfl nb (ORow.out.alloc _) rfl 1 1 (rd_one _ _ _) rfl rfl (by simp [Value.oneCell']) (by unfold maxLen; omega) (by omega) (by rw [World.size_alloc]; omega) ?_; intro v5 w5 own5 gr5 nil5 at5; obtain ⟨A6, c6, rfl, -⟩ := own_rd own5; have hO5 := (N7.out.own.alloc (.cells #[.int .i64 (b : Int)] 3)).kept gr5 (.inr (fun e => N7.out.apn a _ HVA.out e.symm)); have hc5 := hO5.cellAt a (by omega); rw [HVA.out] at hc5; have hf5 := hO5.frozenAt a)
              have own6 : w5.ownsRow nb 3 1 (.slice A6 (la.length + 1) c6) (la.length + 1) (iv (la ++ [b])) := own_eq own5 rfl (by simp [iv])
              have N9 := Lib.hid (N7.out.push HVA.out HLA.out own6 gr5 at5)
              have B9 : Hid (Below w.heap.size w (w5.setCell ⟨nb, a, none⟩ (.slice A6 (la.length + 1) c6))) := Lib.hid (((B7.out.alloc hs7 _).grown gr5 (by rw [World.size_alloc]; omega) (fun g e => Nat.le_trans hQ (ORow.out.lt g e).1)).setCell hQ _)
              have HE9 : Hid (∀ (x : Nat) (l' : List Nat), (nx.set a (la ++ [b]))[x]? = some l' → l'.length ≤ j + 1 ∧ ∀ y ∈ l', y < i ∧ ∃ s t, l[y]? = some s ∧ l[x]? = some t ∧ less s t = true) := Lib.hid (fun x l' hx => by
                by_cases hxa : x = a
                · subst hxa
                  have hlx := (List.getElem?_eq_some_iff.1 HLA.out).1
                  rw [List.getElem?_set_self hlx] at hx
                  injection hx with hx
                  subst hx
                  refine ⟨by rw [List.length_append]; simp only [List.length_cons, List.length_nil]; omega, fun y hy => ?_⟩
                  rcases List.mem_append.1 hy with q | q
                  · exact (HE.out x la HLA.out).2 y q
                  · have e : y = b := by simpa using q
                    subst e
                    exact ⟨hbn, t, s, HTt.out, HSs.out, HL2.out⟩
                · rw [List.getElem?_set_ne (Ne.symm hxa)] at hx
                  exact ⟨Nat.le_succ_of_le (HE.out x l' hx).1, (HE.out x l' hx).2⟩)
              go_roundw
              case rel => exact ⟨vs.set a (.slice A6 (la.length + 1) c6), nx.set a (la ++ [b]), j + 1, by go_num, by omega, N9, HE9, B9⟩
              case measure => simp [intOf]; omega
        · have j1 : ¬ (j : Int) < (m : Int) := by omega
          have HNR := Lib.hid HN.out.toR
          have hnbl : nb < w4.heap.size := (HN.out.own.lt nb rfl).2
          have HLN := Lib.hid HN.out.len
          have HTR : Hid (∀ (a b c : Nat), (∃ s t, l[a]? = some s ∧ l[b]? = some t ∧ less s t = true) → (∃ s t, l[b]? = some s ∧ l[c]? = some t ∧ less s t = true) → ∃ s t, l[a]? = some s ∧ l[c]? = some t ∧ less s t = true) := Lib.hid (by
            rintro a b c ⟨s, t, h1, h2, h3⟩ ⟨s', t', h4, h5, h6⟩
            rw [h2] at h4
            injection h4 with h4
            subst h4
            exact ⟨s, t', h1, h5, less_trans h3 h6⟩)
          have HIR : Hid (∀ (a : Nat), ¬ ∃ s t, l[a]? = some s ∧ l[a]? = some t ∧ less s t = true) := Lib.hid (by
            rintro a ⟨s, t, h1, h2, h3⟩
            rw [h1] at h2
            injection h2 with h2
            subst h2
            exact less_irr s h3)
          have HOK : Hid (∀ (x : Nat) (l' : List Nat), nx[x]? = some l' → l'.length ≤ 60 ∧ ∀ y ∈ l', y < i ∧ ∃ s t, l[y]? = some s ∧ l[x]? = some t ∧ less s t = true) := Lib.hid (fun x l' hx => ⟨Nat.le_trans (HE.out x l' hx).1 (by omega), (HE.out x l' hx).2⟩)
          clear HN HE hjm
          go_wp2_with fail
          go_loopw [17] (fun s17 wr => ∃ x : Nat, s17 = .int .i64 (x : Int) ∧ x ≤ i ∧ Hid (Below w4.heap.size w4 wr)) (fun s17 _ => i - (intOf s17).toNat)
          case atStart => exact ⟨0, rfl, Nat.zero_le _, Lib.hid (Below.refl _ _)⟩
          case round =>
            obtain ⟨x, rfl, hx, hB6⟩ := hrel
            obtain ⟨w6, rfl⟩ : ∃ x, x = wr := ⟨_, rfl⟩
            by_cases hxi : x < i
            · have x1 : (x : Int) < (i : Int) := by omega
              have hR6 : NxR w6 w6.heap.size nb nx := fun y l' hy => by
                obtain ⟨A', c', h1, h2⟩ := HNR.out.below hnbl hB6.out y l' hy
                exact ⟨A', c', h1, h2.more hB6.out.size⟩
              have hn6 : nb < w6.heap.size := Nat.lt_of_lt_of_le hnbl hB6.out.size
              have HRC := Lib.hid (reaches_any _ HTR.out HIR.out i hn30 nx HLN.out HOK.out x hxi nb i w6 hR6 hn6)
              clear hR6
              go_wp2_with fail
              refine HRC.out.mono ?_
              rintro e w7 ⟨rfl, hb7⟩
              have B7 := Lib.hid (hB6.out.trans (hb7.mono hB6.out.size))
              clear hb7 HRC hB6
              go_wp2_with fail
              go_roundw
              case rel => exact ⟨x + 1, by go_num, by omega, B7⟩
              case measure => simp [intOf]; omega
            · have x1 : ¬ (x : Int) < (i : Int) := by omega
              clear hxi
              go_wp2_with fail
              go_ret
              exact ⟨rfl, hB3.out.trans (hB6.out.mono hB3.out.size)⟩
end Go.Proofs.Ythijpcbblmcfiaa
