/- Walks: the document's net: Flight. -/
import Derived.Test.YtlpdihcgdgkkbaaSs
namespace Go.Proofs.Ytlpdihcgdgkkbaa
open Go.RowKit Go.St
set_option linter.unusedVariables false
set_option linter.unusedSimpArgs false
set_option maxRecDepth 100000

theorem rd_cells (w : World) (C : Array Value) (t : TypeId) : Rd (w.alloc (.cells C t)) (w.heap.size + 1) (some ⟨w.heap.size, 0, none⟩) C.toList := fun _ => ⟨w.heap.size, 0, rfl, by omega, fun i u hu => by rw [World.cell?_alloc_mark, Nat.zero_add]; simpa using hu⟩
set_option maxHeartbeats 1600000 in
theorem rflight_any {W : World} {base b : Nat} {v : Value} {F : Nat → Prop} {s : Nt} (h : NetR W base b v F s) :
    Calls Try.prog 53 #[.pointer (some ⟨b, 0, none⟩)] W fun e w' => ∃ v' l', e = .returned v' ∧ l'.map Ltr.k = s.ks ∧ w'.ownsRow W.heap.size 51 4 v' l'.length (lv l') ∧ FlB w' W.heap.size v'.ownBlock l' ∧ Below W.heap.size W w' := by
  have HN := Lib.hid (rnone_net h)
  obtain ⟨l, el, hs⟩ := h
  have HE := Lib.hid el
  have hlen := hs.len
  obtain ⟨A, c, rfl, -, -, hr⟩ := hs.row
  have c2 := hs.cell 2 _ rfl
  have lt := hs.lt
  have HR : Hid (∀ k x, l[k]? = some x → ∃ g, A = some ⟨g, 0, none⟩ ∧ g < W.heap.size ∧ RowI W b g k l.length c x) := Lib.hid (fun k x hx => by
    obtain ⟨g, hA, hg, hc⟩ := hr (by rintro rfl; simp at hx)
    subst hA
    exact ⟨g, rfl, hg, c2, hc k x 0 _ hx rfl, hc k x 1 _ hx rfl, hc k x 2 _ hx rfl, hc k x 3 _ hx rfl⟩)
  have BY := Lib.hid hs.byt
  clear hs el hr
  go_enter Try.func53, Try.ntmps53
  go_wp2_with fail
  refine HN.out.mono ?_
  rintro e w' ⟨rfl, rfl⟩
  clear HN
  go_wp2_with fail
  go_loopw [3, 4] (fun v i wr => ∃ (k : Nat) (ms : List Ltr) (A1 : Option Addr) (c1 : Nat), v = .slice A1 k c1 ∧ i = .int .i64 k ∧ k ≤ l.length ∧ ms.length = k ∧ Hid (ms.map Ltr.k = (l.take k).map Ltr.k) ∧ Hid (wr.ownsRow W.heap.size 51 4 (.slice A1 k c1) k (lv ms)) ∧ Hid (FlB wr W.heap.size (Value.slice A1 k c1).ownBlock ms) ∧ Hid (Below W.heap.size W wr)) (fun _ i _ => l.length - (intOf i).toNat)
  case atStart => exact ⟨0, [], none, 0, rfl, rfl, Nat.zero_le _, rfl, Lib.hid rfl, Lib.hid ⟨rfl, .inl ⟨rfl, rfl⟩⟩, Lib.hid (FlB.nil _ _ _), Lib.hid (Below.refl _ _)⟩
  case round =>
    obtain ⟨k, ms, A1, c1, rfl, rfl, hk, hml, hmk, ho, hfl, hb⟩ := hrel
    obtain ⟨w5, rfl⟩ : ∃ x, x = wr := ⟨_, rfl⟩
    have cb := (hb.out.cell (p := ⟨b, 2, none⟩) lt).trans c2
    by_cases hlt : k < l.length
    · obtain ⟨g, rfl, hg, hri⟩ := HR.out k l[k] (List.getElem?_eq_getElem hlt)
      have hri := hri.keep (hb.out.block b lt) (hb.out.block g hg)
      have hx := (BY.out l[k] (List.getElem_mem hlt)).keep hb.out.size (fun j _ hj => hb.out.block j hj)
      have htk : (l.take (k + 1)).map Ltr.k = (l.take k).map Ltr.k ++ [l[k].k] := by rw [List.take_add_one, List.getElem?_eq_getElem hlt, List.map_append]; rfl
      generalize l[k] = x at *
      obtain ⟨d2, d0, d1, d3, d4⟩ := hri
      have hxl := hx.len
      have hxb := hx.bnd
      have HX := Lib.hid hx
      have HTK := Lib.hid htk
      have i1 : (k : Int) < (l.length : Int) := by omega
      have i0 : (0 : Int) ≤ (k : Int) := by omega
      clear hx htk
      go_upto_region 8 with (fail)
      have bA : Below w5.heap.size w5 (w5.alloc (.cells #[.int .i64 x.k.num, .int .i64 x.k.fr, .int .i64 x.k.to, .slice x.A x.n x.c] 51)) := (Below.refl _ _).alloc (Nat.le_refl _) _
      have qA := fun o => World.cell?_alloc_mark w5 #[.int .i64 x.k.num, .int .i64 x.k.fr, .int .i64 x.k.to, .slice x.A x.n x.c] 51 (0, 0) o
      have fA := fun o => World.frozen?_alloc_at (w := w5) #[.int .i64 x.k.num, .int .i64 x.k.fr, .int .i64 x.k.to, .slice x.A x.n x.c] 51 w5.heap.size o rfl
      have zA : (w5.alloc (.cells #[.int .i64 x.k.num, .int .i64 x.k.fr, .int .i64 x.k.to, .slice x.A x.n x.c] 51)).heap.size = w5.heap.size + 1 := by simp
      have XA := Lib.hid (HX.out.read.below (w' := w5.alloc (.cells #[.int .i64 x.k.num, .int .i64 x.k.fr, .int .i64 x.k.to, .slice x.A x.n x.c] 51)) bA)
      clear d0 d1 d2 d3 d4 HX
      have BA := Lib.hid bA
      clear bA
      have OA := Lib.hid (own_keep ho.out BA.out (Nat.le_refl _))
      have FA := Lib.hid (hfl.out.next BA.out)
      have NA := Lib.hid (hb.out.trans (BA.out.mono hb.out.size))
      have hW5 := hb.out.size
      have hrow := fun j (e : (Value.slice A1 k c1).ownBlock = some j) => (ho.out.lt j e).2
      have hmsl := fun i y (hy : ms[i]? = some y) j (e : (ltB y).ownBlock = some j) => ((hfl.out.byt i y hy).1.lt j e).2
      generalize w5.alloc (.cells #[.int .i64 x.k.num, .int .i64 x.k.fr, .int .i64 x.k.to, .slice x.A x.n x.c] 51) = wA at *
      generalize hq : w5.heap.size = q at *
      clear ho hfl hb BA cb
      have q0 := qA 0; have q1 := qA 1; have q2 := qA 2; have q3 := qA 3
      simp only [List.getElem?_toArray, List.getElem?_cons_zero, List.getElem?_cons_succ] at q0 q1 q2 q3
      go_wp2_with fail
      refine (rown_any x.A x.n x.c q x.k.bs hxl (by omega) wA XA.out (by omega)).mono ?_
      rintro e w6 ⟨v6, rfl, own6, hb6⟩
      obtain ⟨A6, c6, rfl, -, -, -⟩ := own_rd4 own6
      have hqA : q < wA.heap.size := by omega
      have r0 := (hb6.cell (p := ⟨q, 0, none⟩) hqA).trans q0
      have r1 := (hb6.cell (p := ⟨q, 1, none⟩) hqA).trans q1
      have r2 := (hb6.cell (p := ⟨q, 2, none⟩) hqA).trans q2
      have r3 := (hb6.cell (p := ⟨q, 3, none⟩) hqA).trans q3
      have rf := (hb6.frozen (p := ⟨q, 3, none⟩) hqA).trans (fA 3)
      have O6 := own_keep OA.out hb6 (Nat.le_refl _)
      have F6 := FA.out.next hb6
      have N6 := NA.out.trans (hb6.mono (by have := NA.out.size; omega))
      have hz6 := hb6.size
      have hfar : ∀ j, j ≠ q → (w6.setCell ⟨q, 3, none⟩ (.slice A6 x.n c6)).heap[j]? = w6.heap[j]? := fun j e => Below.heap_setCell _ _ _ _ e
      have O7 := Lib.hid (ownsRow_of (W' := w6.setCell ⟨q, 3, none⟩ (.slice A6 x.n c6)) O6 (fun j e => hfar j (fun e2 => by have := hrow j e; omega)))
      have F7 := Lib.hid (F6.keep (W' := w6.setCell ⟨q, 3, none⟩ (.slice A6 x.n c6)) (fun i y j hy e => hfar j (fun e2 => by have := hmsl i y hy j e; omega)))
      have B7 := Lib.hid (ownsRow_of (W' := w6.setCell ⟨q, 3, none⟩ (.slice A6 x.n c6)) own6 (fun j e => hfar j (fun e2 => by have := (own6.lt j e).1; omega)))
      have L7 := Lib.hid (fun j (e : (Value.slice A6 x.n c6).ownBlock = some j) => own6.lt j e)
      have N7 : Hid (Below W.heap.size W (w6.setCell ⟨q, 3, none⟩ (.slice A6 x.n c6))) := Lib.hid (N6.setCell (p := ⟨q, 3, none⟩) (by simp; omega) _)
      have s0 := (World.cell?_setCell_other w6 ⟨q, 3, none⟩ ⟨q, 0, none⟩ (.slice A6 x.n c6) (by simp)).trans r0
      have s1 := (World.cell?_setCell_other w6 ⟨q, 3, none⟩ ⟨q, 1, none⟩ (.slice A6 x.n c6) (by simp)).trans r1
      have s2 := (World.cell?_setCell_other w6 ⟨q, 3, none⟩ ⟨q, 2, none⟩ (.slice A6 x.n c6) (by simp)).trans r2
      have s3 := World.cell?_setCell_same w6 ⟨q, 3, none⟩ (.slice A6 x.n c6) r3
      have z7 : w6.heap.size = (w6.setCell ⟨q, 3, none⟩ (.slice A6 x.n c6)).heap.size := by simp [World.setCell]
      clear O6 F6 N6 hfar own6 OA FA NA XA qA fA q0 q1 q2 q3 hb6
      go_upto_region 9 with (fail)
      clear r0 r1 r2 r3 rf
      generalize w6.setCell ⟨q, 3, none⟩ (.slice A6 x.n c6) = w7 at *
      have hql : q < w7.heap.size := by omega
      go_wp2_with (at_builtin; refine wpList_app styL (.tmp 29) (.tmp 31) rfl rfl W.heap.size (own_keep O7.out ((Below.refl _ _).alloc (Nat.le_refl _) _) (Nat.le_refl _)) rfl 1 1 (rd_cells _ _ _) rfl rfl (by intro u hu; simp at hu; rcases hu with rfl | rfl | rfl | rfl <;> rfl) (by unfold maxLen; omega) (by omega) (by have := N7.out.size; simp; omega) ?_; intro v2 w2 own2 gr2 nil2 at2)
      obtain ⟨A2, c2', rfl, -, -⟩ := own_sl own2
      have N2 : Hid (Below W.heap.size W w2) := Lib.hid ((N7.out.alloc N7.out.size _).grown gr2 (by have := N7.out.size; simp; omega) (fun j e => (O7.out.lt j e).1))
      have hkeep : ∀ j, j < w7.heap.size → (Value.slice A1 k c1).ownBlock ≠ some j → w2.heap[j]? = w7.heap[j]? := fun j hj hn => (gr2.block j (by simp; omega) (fun e => hn e.symm)).trans (((Below.refl w7.heap.size w7).alloc (Nat.le_refl _) _).block j hj)
      have hrow2 : ∀ j, (Value.slice A2 (k + 1) c2').ownBlock = some j → (Value.slice A1 k c1).ownBlock = some j ∨ w7.heap.size ≤ j := fun j e => by
        rcases at2 with e1 | e1
        · rw [e1] at e; exact .inl e
        · rw [e1] at e; injection e with e; simp at e; exact .inr (by omega)
      have F2 : Hid (FlB w2 W.heap.size (Value.slice A2 (k + 1) c2').ownBlock (ms ++ [⟨x.k, A6, x.n, c6⟩])) := by
        have G1 := F7.out.keep (W' := w2) (fun i y j hy e => hkeep j (by have := hmsl i y hy j e; omega) (fun e2 => F7.out.apr j e2 i y hy e))
        have G2 : FlB w2 W.heap.size (Value.slice A2 (k + 1) c2').ownBlock ms := ⟨G1.byt, G1.apart, fun j e i y hy e2 => by
          rcases hrow2 j e with h1 | h1
          · exact F7.out.apr j h1 i y hy e2
          · have := hmsl i y hy j e2; omega⟩
        refine Lib.hid (G2.snoc (x := ⟨x.k, A6, x.n, c6⟩) (ownsRow_of (B7.out.mono (base' := W.heap.size) (by omega)) (fun j e => hkeep j (by have := (L7.out j e).2; omega) (fun e2 => by have h1 := (L7.out j e).1; have h2 := hrow j e2; omega))) hxb (fun j e => ⟨fun e2 => ?_, fun i y hy e2 => ?_⟩))
        · have h1 := L7.out j e
          rcases hrow2 j e2 with h3 | h3
          · have := hrow j h3; omega
          · omega
        · have h1 := L7.out j e
          have := hmsl i y hy j e2
          omega
      have O2 : Hid (w2.ownsRow W.heap.size 51 4 (.slice A2 (k + 1) c2') (k + 1) (lv (ms ++ [⟨x.k, A6, x.n, c6⟩]))) := Lib.hid (by rw [lv_append]; exact own_eq own2 rfl (by simp [lv, ltc]))
      clear own2 gr2 nil2 at2 hkeep hrow2 O7 F7 B7 L7 N7
      go_wp2_with fail
      go_roundw
      case rel => exact ⟨k + 1, _, A2, c2', rfl, by go_num, by omega, by rw [List.length_append, hml]; rfl, Lib.hid (by rw [List.map_append, hmk.out, HTK.out]; rfl), O2, F2, N2⟩
      case measure => simp [intOf]; omega
    · obtain rfl : k = l.length := by omega
      go_wp2_with fail
      go_ret
      have e1 : ms.map Ltr.k = l.map Ltr.k := by have := hmk.out; rwa [List.take_length] at this
      refine ⟨_, ms, rfl, by rw [e1, HE.out], ?_, hfl.out, hb.out⟩
      have := ho.out
      rw [hml]
      exact this
end Go.Proofs.Ytlpdihcgdgkkbaa
