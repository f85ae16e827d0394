/- Walks: Deliver and Drop of a net. -/
import Derived.Test.YtlpdihcgdgkkbaaSn
namespace Go.Proofs.Ytlpdihcgdgkkbaa
open Go.RowKit Go.St
set_option linter.unusedVariables false
set_option linter.unusedSimpArgs false
set_option maxRecDepth 100000

def nilL : Ltr := ⟨nilK, none, 0, 0⟩
theorem LtB.nil (W : World) (F : Nat → Prop) : LtB W F nilL := ⟨rfl, Nat.zero_le _, fun h => absurd rfl h⟩
set_option maxHeartbeats 1600000 in
theorem sdeliver_any {W : World} {base b : Nat} {v : Value} {F : Nat → Prop} {s : Nt} (h : NetP W base b v F s) (hw : s.WF) (num : Int) :
    Calls Try.prog 37 #[.pointer (some ⟨b, 0, none⟩), .int .i64 num] W fun e w' => ∃ x, e = .returned (.tuple #[ltV x, .int .i64 (hitE s num)]) ∧ x.k = outK s num ∧ LtB w' F x ∧ OutP base b v.ownBlock F (outS s num) W w' := by
  have HP := Lib.hid h
  have HF := Lib.hid (fun W' (k : Below W.heap.size W W') => sfind_net (h.next k) hw num)
  cases hh : hitB s num
  · rw [fndV_no hw hh] at HF
    have e1 : hitE s num = 4 := by unfold hitE; rw [hh]; rfl
    have e2 : outK s num = nilK := by unfold outK; rw [hh]; rfl
    have e3 : outS s num = s := by unfold outS; rw [hh]; rfl
    rw [e1] at HF ⊢
    rw [e2, e3]
    clear h hw e1 e2 e3
    go_enter Try.func37, Try.ntmps37
    go_wp2_with fail
    refine (HF.out _ (by go_grown)).mono ?_
    rintro e w1 ⟨rfl, hB⟩
    obtain ⟨hcw1, hfw1⟩ := bcell hB
    have z0 : W.heap.size < w1.heap.size := by have := hB.size; simp at this; omega
    have HB : Hid (Below W.heap.size W w1) := Lib.hid (((Below.refl _ _).alloc (Nat.le_refl _) _).trans (hB.mono (by simp)))
    clear hB
    go_wp2
    refine bodyPost_ret (v := .tuple #[ltV nilL, .int .i64 4]) (by simp [results, Try.results37, go_sem, ltV, nilL, nilK, *]) rfl ⟨nilL, rfl, rfl, LtB.nil _ _, HP.out.same ?_⟩
    have hb := HB.out
    have hbs := hb.size
    go_grown
  · rw [fndV_hit hw hh] at HF
    have e1 : hitE s num = 0 := by unfold hitE; rw [hh]; rfl
    have e2 : outK s num = hitK s num := by unfold outK; rw [hh]; rfl
    have e3 : outS s num = ⟨s.nodes, s.last, s.ks.eraseIdx (hitI s num)⟩ := by unfold outS; rw [hh]; rfl
    rw [e1] at HF ⊢
    rw [e2, e3]
    have hlt := hit_lt hh
    obtain ⟨l, el, hs⟩ := h
    obtain ⟨x, hx, hk⟩ := hit_at hh el
    obtain ⟨g, c, hv, hg, hlc, hr⟩ := hs.rowI rfl hx
    have hl : l.length = s.ks.length := by rw [← el, List.length_map]
    have HR := Lib.hid hr
    have hbl := hs.lt
    rw [← hk]
    generalize hitI s num = i at *
    obtain ⟨m, hm⟩ : ∃ m, l.length = m + 1 := ⟨l.length - 1, by omega⟩
    have hel : (l.eraseIdx i).length = m := by rw [List.length_eraseIdx, if_pos (by omega)]; omega
    have hln := hs.len
    subst hv
    have hs0 := hs
    rw [hm] at hl hlc hr HR hs HP ⊢
    have hmap : (l.eraseIdx i).map Ltr.k = s.ks.eraseIdx i := by rw [← el]; simp [List.eraseIdx_eq_take_drop_succ, List.map_take, List.map_drop]
    have HM := Lib.hid hmap
    have HS := Lib.hid hs
    have HX := Lib.hid (hs.byt x (List.mem_of_getElem? hx))
    have i1 : (i : Int) < ((m + 1 : Nat) : Int) := by omega
    have i0 : (0 : Int) ≤ (i : Int) := by omega
    have im : i ≤ m := by omega
    have im2 : i ≤ 2048 := by omega
    have HD := Lib.hid (fun W' (k : Below W.heap.size W W') => sdel_any (W := W') (base := base) (g := g) (m := m) (c := c) (l := l) hm (by omega) (own_eq (own_keep hs.own k (Nat.le_refl _)) hm rfl) i im)
    have hbg : b ≠ g := fun e => hs.ne (by rw [e]; rfl)
    have hpF := Lib.hid (fun k (hk : F k) => hs.Fp k hk)
    clear hw hh hk e1 e2 e3 hlt hs hs0 hx el hr hmap
    unfold OutP
    dsimp only
    go_enter Try.func37, Try.ntmps37
    go_wp2_with fail
    refine (HF.out _ (by go_grown)).mono ?_
    rintro e w1 ⟨rfl, hB⟩
    have HB1 : Hid (Below W.heap.size W w1) := Lib.hid (((Below.refl _ _).alloc (Nat.le_refl _) _).trans (hB.mono (by simp)))
    have z1 : W.heap.size < w1.heap.size := by have := hB.size; simp at this; omega
    have p1 := fun o => (hB.cell (p := ⟨W.heap.size, o, none⟩) (by simp)).trans (World.cell?_alloc_mark W #[.int .i64 0, .int .i64 0, .int .i64 0, .slice none 0 0] 51 (0, 0) o)
    have f1 := fun o => (hB.frozen (p := ⟨W.heap.size, o, none⟩) (by simp)).trans (World.frozen?_alloc_at #[.int .i64 0, .int .i64 0, .int .i64 0, .slice none 0 0] 51 W.heap.size o rfl)
    have hcel := (bcell HB1.out).1
    obtain ⟨c2, d0, d1, d2, d3⟩ := HR.out
    replace c2 := (hcel b 2 hbl).trans c2
    replace d0 := (hcel g _ hg).trans d0
    replace d1 := (hcel g _ hg).trans d1
    replace d2 := (hcel g _ hg).trans d2
    replace d3 := (hcel g _ hg).trans d3
    have hb1 : b < w1.heap.size := by omega
    have hg1 : g < w1.heap.size := by omega
    clear hcel hB HF HR hl hm
    go_upto_region 5 with (fail)
    have B2 : Hid (Below W.heap.size W (w1.alloc (.cells #[.int .i64 x.k.num, .int .i64 x.k.fr, .int .i64 x.k.to, .slice x.A x.n x.c] 51))) := Lib.hid (HB1.out.alloc HB1.out.size _)
    have q2 := fun o => World.cell?_alloc_mark w1 #[.int .i64 x.k.num, .int .i64 x.k.fr, .int .i64 x.k.to, .slice x.A x.n x.c] 51 (0, 0) o
    have p2 := fun o => (World.cell?_alloc_lt w1 (.cells #[.int .i64 x.k.num, .int .i64 x.k.fr, .int .i64 x.k.to, .slice x.A x.n x.c] 51) ⟨W.heap.size, o, none⟩ z1).trans (p1 o)
    have f2 := fun o => (frozen?_alloc_cells w1 #[.int .i64 x.k.num, .int .i64 x.k.fr, .int .i64 x.k.to, .slice x.A x.n x.c] 51 ⟨W.heap.size, o, none⟩).trans (f1 o)
    have c22 := (World.cell?_alloc_lt w1 (.cells #[.int .i64 x.k.num, .int .i64 x.k.fr, .int .i64 x.k.to, .slice x.A x.n x.c] 51) ⟨b, 2, none⟩ hb1).trans c2
    have z2 : w1.heap.size < (w1.alloc (.cells #[.int .i64 x.k.num, .int .i64 x.k.fr, .int .i64 x.k.to, .slice x.A x.n x.c] 51)).heap.size := by simp
    clear c2 d0 d1 d2 d3 p1 f1
    generalize w1.alloc (.cells #[.int .i64 x.k.num, .int .i64 x.k.fr, .int .i64 x.k.to, .slice x.A x.n x.c] 51) = w2 at *
    generalize w1.heap.size = q at *
    generalize hp : W.heap.size = p at *
    go_wp2_with fail
    refine (HD.out _ B2.out).mono ?_
    rintro e w3 ⟨rfl, own3, hf3⟩
    have hf := hf3 g
    have hbg' : g ≠ b := fun e => hbg e.symm
    have hqg : q ≠ g := by omega
    have hpg : p ≠ g := by omega
    have hqb : q ≠ b := by omega
    have hpb : p ≠ b := by omega
    have q3 := fun o => (hf.cell (p := ⟨q, o, none⟩) z2 hqg (by simp; omega)).trans (q2 o)
    have p3 := fun o => (hf.cell (p := ⟨p, o, none⟩) (by simp; omega) hpg (by simp; omega)).trans (p2 o)
    have f3 := fun o => (hf.frozen (p := ⟨p, o, none⟩) (by simp; omega) hpg (by simp; omega)).trans (f2 o)
    have c3 := (hf.cell (p := ⟨b, 2, none⟩) (by simp; omega) hbg (by simp; omega)).trans c22
    have S2 := HS.out.next (by rw [hp]; exact B2.out)
    have b3 := (hf.frozen (p := ⟨b, 2, none⟩) (by simp; omega) hbg (by simp; omega)).trans (S2.fz 2)
    have S3 := Lib.hid (S2.del hel hf own3)
    have R3 : Hid (Fr b (some g) W (w3.setCell ⟨b, 2, none⟩ (.slice (some ⟨g, 0, none⟩) m c))) := Lib.hid ((Fr.pre (by rw [hp]; exact B2.out) (hf3 b)).setCell (p := ⟨b, 2, none⟩) (.inl rfl) _)
    have s0 := q3 0; have s1 := q3 1; have s2 := q3 2; have s3 := q3 3
    have t0 := p3 0; have t1 := p3 1; have t2 := p3 2; have t3 := p3 3
    simp only [List.getElem?_toArray, List.getElem?_cons_zero, List.getElem?_cons_succ] at s0 s1 s2 s3 t0 t1 t2 t3
    have hz3 : p < w3.heap.size := by have := hf.size; omega
    clear q2 p2 f2 c22 own3 hf3 hf q3 p3 S2 HD
    have hfar := fun (W : World) (i j : Nat) (v : Value) => World.cell?_setCell_other W ⟨b, i, none⟩ ⟨q, j, none⟩ v (fun e => hqb (congrArg Addr.block e).symm)
    have hfar2 := fun (W : World) (i j : Nat) (v : Value) => World.cell?_setCell_other W ⟨b, i, none⟩ ⟨p, j, none⟩ v (fun e => hpb (congrArg Addr.block e).symm)
    go_wp2_with fail
    have hk4 : ∀ k, k ≠ p → (((((w3.setCell ⟨b, 2, none⟩ (.slice (some ⟨g, 0, none⟩) m c)).setCell ⟨p, 0, none⟩ (.int .i64 x.k.num)).setCell ⟨p, 1, none⟩ (.int .i64 x.k.fr)).setCell ⟨p, 2, none⟩ (.int .i64 x.k.to)).setCell ⟨p, 3, none⟩ (.slice x.A x.n x.c)).heap[k]? = (w3.setCell ⟨b, 2, none⟩ (.slice (some ⟨g, 0, none⟩) m c)).heap[k]? := fun k e => (heap_set2 _ _ _ _ _ _ e).trans (heap_set2 _ _ _ _ _ _ e)
    have R4 := (((R3.out.setCell (p := ⟨p, 0, none⟩) (.inr (.inr (by simp; omega))) (.int .i64 x.k.num)).setCell (p := ⟨p, 1, none⟩) (.inr (.inr (by simp; omega))) (.int .i64 x.k.fr)).setCell (p := ⟨p, 2, none⟩) (.inr (.inr (by simp; omega))) (.int .i64 x.k.to)).setCell (p := ⟨p, 3, none⟩) (.inr (.inr (by simp; omega))) (.slice x.A x.n x.c)
    have S4 := S3.out.keep (W' := ((((w3.setCell ⟨b, 2, none⟩ (.slice (some ⟨g, 0, none⟩) m c)).setCell ⟨p, 0, none⟩ (.int .i64 x.k.num)).setCell ⟨p, 1, none⟩ (.int .i64 x.k.fr)).setCell ⟨p, 2, none⟩ (.int .i64 x.k.to)).setCell ⟨p, 3, none⟩ (.slice x.A x.n x.c)) (by simp [World.setCell]) (fun k _ hk => hk4 k (by
      rcases hk with h | h | h
      · omega
      · have h5 : some g = some k := h
        injection h5 with h5
        omega
      · have := (hpF.out k h).1; omega))
    have L4 := HX.out.keep (W' := ((((w3.setCell ⟨b, 2, none⟩ (.slice (some ⟨g, 0, none⟩) m c)).setCell ⟨p, 0, none⟩ (.int .i64 x.k.num)).setCell ⟨p, 1, none⟩ (.int .i64 x.k.fr)).setCell ⟨p, 2, none⟩ (.int .i64 x.k.to)).setCell ⟨p, 3, none⟩ (.slice x.A x.n x.c)) R4.size (fun k hF hlt => by
      obtain ⟨_, _, h3, h4⟩ := hpF.out k hF
      exact R4.block k hlt h3 h4)
    have H4 := Lib.hid (And.intro R4 (And.intro S4 L4))
    clear hk4 R4 S4 L4
    refine bodyPost_ret (v := .tuple #[ltV x, .int .i64 0]) (by simp [results, Try.results37, go_sem, ltV, *]) rfl ⟨x, rfl, rfl, H4.out.2.2, H4.out.1, _, F, _, H4.out.2.1, HM.out, .inl rfl, fun k hk => .inl hk⟩
theorem sdrop_any {W : World} {base b : Nat} {v : Value} {F : Nat → Prop} {s : Nt} (h : NetP W base b v F s) (hw : s.WF) (num : Int) :
    Calls Try.prog 38 #[.pointer (some ⟨b, 0, none⟩), .int .i64 num] W fun e w' => e = .returned (.int .i64 (hitE s num)) ∧ OutP base b v.ownBlock F (outS s num) W w' := by
  have H := Lib.hid (sdeliver_any h hw num)
  clear h hw
  go_enter Try.func38, Try.ntmps38
  go_wp2_with fail
  refine H.out.mono ?_
  rintro e w' ⟨x, rfl, -, -, ho⟩
  have HO := Lib.hid ho
  clear ho H
  unfold ltV
  go_wp2
  go_ret
  exact ⟨rfl, HO.out.post ((Below.refl _ _).alloc (Nat.le_refl _) _)⟩
end Go.Proofs.Ytlpdihcgdgkkbaa
