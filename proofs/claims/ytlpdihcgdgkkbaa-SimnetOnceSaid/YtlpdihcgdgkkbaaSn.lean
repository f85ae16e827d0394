/- Walks: Twice, Deliver and Drop of a net. -/
import Derived.Test.YtlpdihcgdgkkbaaSm
namespace Go.Proofs.Ytlpdihcgdgkkbaa
open Go.RowKit Go.St
set_option linter.unusedVariables false
set_option linter.unusedSimpArgs false
set_option maxRecDepth 100000

/-- The letter at a place of the row, in memory. -/
structure RowI (W : World) (b : Nat) (g i n c : Nat) (x : Ltr) : Prop where
  c2 : W.cell? ⟨b, 2, none⟩ = some (.slice (some ⟨g, 0, none⟩) n c)
  d0 : W.cell? ⟨g, i * 4, none⟩ = some (.int .i64 x.k.num)
  d1 : W.cell? ⟨g, i * 4 + 1, none⟩ = some (.int .i64 x.k.fr)
  d2 : W.cell? ⟨g, i * 4 + 2, none⟩ = some (.int .i64 x.k.to)
  d3 : W.cell? ⟨g, i * 4 + 3, none⟩ = some (.slice x.A x.n x.c)
theorem NetS.rowI {W : World} {base b : Nat} {cs : List Value} {v : Value} {F : Nat → Prop} {l : List Ltr} (h : NetS W base b cs v F l) (h2 : cs[2]? = some v) {i : Nat} {x : Ltr} (hx : l[i]? = some x) :
    ∃ g c, v = .slice (some ⟨g, 0, none⟩) l.length c ∧ g < W.heap.size ∧ l.length ≤ c ∧ RowI W b g i l.length c x := by
  obtain ⟨A, c, rfl, hc, -, hr⟩ := h.row
  obtain ⟨g, rfl, hg, hcell⟩ := hr (by rintro rfl; simp at hx)
  exact ⟨g, c, rfl, hg, hc, h.cell 2 _ h2, hcell i x 0 _ hx rfl, hcell i x 1 _ hx rfl, hcell i x 2 _ hx rfl, hcell i x 3 _ hx rfl⟩
theorem hit_at {s : Nt} {num : Int} (hb : hitB s num = true) {l : List Ltr} (e : l.map Ltr.k = s.ks) : ∃ x, l[hitI s num]? = some x ∧ x.k = hitK s num := by
  have h := hit_get hb
  rw [← e, List.getElem?_map] at h
  cases hx : l[hitI s num]? with
  | none => rw [hx] at h; cases h
  | some x => rw [hx] at h; exact ⟨x, rfl, by injection h⟩
theorem stwice_any {W : World} {base b : Nat} {v : Value} {F : Nat → Prop} {s : Nt} (h : NetP W base b v F s) (hw : s.WF) (hb : s.last ≤ 4611686018427387904) (num : Int) :
    Calls Try.prog 36 #[.pointer (some ⟨b, 0, none⟩), .int .i64 num] W fun e w' => e = .returned (.tuple #[.int .i64 (againV s num), .int .i64 (againE s num)]) ∧ OutP base b v.ownBlock F (againS s num) W w' := by
  have HP := Lib.hid h
  have HF := Lib.hid (sfind_net h hw num)
  have HW := Lib.hid hw
  cases hh : hitB s num
  · rw [fndV_no hw hh] at HF
    have e1 : hitE s num = 4 := by unfold hitE; rw [hh]; rfl
    have e2 : againE s num = 4 := by unfold againE; rw [hh]; rfl
    unfold againV againS
    rw [e1] at HF
    rw [e2]
    clear h hw e1 e2
    go_enter Try.func36, Try.ntmps36
    go_wp2_with fail
    refine HF.out.mono ?_
    rintro e w' ⟨rfl, hB⟩
    have HO := Lib.hid (HP.out.same hB)
    clear hB
    go_wp2
    go_ret2
    exact ⟨rfl, HO.out⟩
  · rw [fndV_hit hw hh] at HF
    have e1 : hitE s num = 0 := by unfold hitE; rw [hh]; rfl
    have e2 : againE s num = if 2048 ≤ s.ks.length then 3 else 0 := by unfold againE; rw [hh]; rfl
    rw [e1] at HF
    have hlt := hit_lt hh
    obtain ⟨l, el, hs⟩ := h
    obtain ⟨x, hx, hk⟩ := hit_at hh el
    obtain ⟨g, c, hv, hg, hlc, hr⟩ := hs.rowI rfl hx
    have hl : l.length = s.ks.length := by rw [← el, List.length_map]
    have hX := Lib.hid ((hs.byt x (List.mem_of_getElem? hx)).mono (fun k hF => (hs.Fp k hF).2.2.1))
    have HR := Lib.hid hr
    have hbl := hs.lt
    have hhi : hitK s num = x.k := hk.symm
    unfold againV againS
    rw [hhi]
    have HQ1 := Lib.hid (fun W' (k : Below W.heap.size W W') (hn : s.ks.length < 2048) => sput_net (HP.out.next k) hw hb x (hX.out.keep k.size (fun j _ hj => k.block j hj)) hn)
    have HQ2 := Lib.hid (fun W' (k : Below W.heap.size W W') (hn : ¬ s.ks.length < 2048) => sput_net_full (HP.out.next k) hw x hn)
    have i1 : (hitI s num : Int) < (l.length : Int) := by omega
    have i0 : (0 : Int) ≤ (hitI s num : Int) := by omega
    generalize hitI s num = i at *
    clear hs hx hk e1 hr hh hhi hX hlt hw el hv
    unfold ltV at HQ1 HQ2
    by_cases hn : s.ks.length < 2048
    · rw [if_neg (by omega)] at e2
      rw [e2]
      have H3 := Lib.hid (fun W' k => HQ1.out W' k hn)
      clear HQ1 HQ2 e2 hn
      go_enter Try.func36, Try.ntmps36
      go_wp2_with fail
      refine HF.out.mono ?_
      rintro e w1 ⟨rfl, hB⟩
      have hcel := (bcell hB).1
      obtain ⟨c2, d0, d1, d2, d3⟩ := HR.out
      replace c2 := (hcel b 2 hbl).trans c2
      replace d0 := (hcel g _ hg).trans d0
      replace d1 := (hcel g _ hg).trans d1
      replace d2 := (hcel g _ hg).trans d2
      replace d3 := (hcel g _ hg).trans d3
      have HB := Lib.hid hB
      clear hcel hB
      go_wp2_with fail
      refine (H3.out _ HB.out).mono ?_
      rintro e w' ⟨rfl, ho⟩
      have HO := Lib.hid (NetG.pre HB.out ho)
      clear ho H3
      go_wp2
      go_ret2
      exact ⟨rfl, HO.out⟩
    · rw [if_pos (by omega)] at e2
      rw [e2]
      have H3 := Lib.hid (fun W' k => HQ2.out W' k hn)
      clear HQ1 HQ2 e2 hn
      go_enter Try.func36, Try.ntmps36
      go_wp2_with fail
      refine HF.out.mono ?_
      rintro e w1 ⟨rfl, hB⟩
      have hcel := (bcell hB).1
      obtain ⟨c2, d0, d1, d2, d3⟩ := HR.out
      replace c2 := (hcel b 2 hbl).trans c2
      replace d0 := (hcel g _ hg).trans d0
      replace d1 := (hcel g _ hg).trans d1
      replace d2 := (hcel g _ hg).trans d2
      replace d3 := (hcel g _ hg).trans d3
      have HB := Lib.hid hB
      clear hcel hB
      go_wp2_with fail
      refine (H3.out _ HB.out).mono ?_
      rintro e w' ⟨rfl, ho⟩
      have HO := Lib.hid (HP.out.same (HB.out.trans (ho.mono HB.out.size)))
      clear ho H3
      go_wp2
      go_ret2
      exact ⟨rfl, HO.out⟩
/-- A letter taken out, in memory. -/
theorem NetS.del {W W' : World} {base b g n c m : Nat} {nodes last : Int} {F : Nat → Prop} {l : List Ltr} (h : NetS W base b (csP nodes last (.slice (some ⟨g, 0, none⟩) n c)) (.slice (some ⟨g, 0, none⟩) n c) F l) {i : Nat} (hm : (l.eraseIdx i).length = m)
    (hf : Fr g (some g) W W') (own : W'.ownsRow base 51 4 (.slice (some ⟨g, 0, none⟩) m c) m (lv (l.eraseIdx i))) :
    NetS (W'.setCell ⟨b, 2, none⟩ (.slice (some ⟨g, 0, none⟩) m c)) base b (csP nodes last (.slice (some ⟨g, 0, none⟩) m c)) (.slice (some ⟨g, 0, none⟩) m c) F (l.eraseIdx i) := by
  have hne : b ≠ g := fun e => h.ne (by rw [e]; rfl)
  have hc := fun o => hf.cell (p := ⟨b, o, none⟩) h.lt hne (by simp; exact fun e => hne e.symm)
  have hz := fun o => hf.frozen (p := ⟨b, o, none⟩) h.lt hne (by simp; exact fun e => hne e.symm)
  have hs : W.heap.size ≤ (W'.setCell ⟨b, 2, none⟩ (.slice (some ⟨g, 0, none⟩) m c)).heap.size := by simpa [World.setCell] using hf.size
  refine ⟨Nat.lt_of_lt_of_le h.lt hs, h.lo, fun o => by simpa using (hz o).trans (h.fz o), ?_, ?_, h.ne, fun k hk => ?_, fun y hy => ?_, ?_⟩
  · intro j u hu
    match j, hu with
    | 0, hu => cases hu; rw [World.cell?_setCell_other _ _ _ _ (by simp)]; exact (hc 0).trans (h.cell 0 _ rfl)
    | 1, hu => cases hu; rw [World.cell?_setCell_other _ _ _ _ (by simp)]; exact (hc 1).trans (h.cell 1 _ rfl)
    | 2, hu => cases hu; exact World.cell?_setCell_same _ _ _ ((hc 2).trans (h.cell 2 _ rfl))
    | j + 3, hu => simp [csP] at hu
  · rw [hm]
    exact own.kept (row := some b) ⟨rfl, rfl, rfl, by simp [World.setCell], fun k _ hk => Below.heap_setCell _ _ _ _ (fun e => hk (by rw [e]))⟩ (.inr h.ne)
  · obtain ⟨h1, h2⟩ := h.Fp k hk
    exact ⟨Nat.lt_of_lt_of_le h1 hs, h2⟩
  · refine (h.byt y (List.mem_of_mem_eraseIdx hy)).keep hs (fun k hk hlt => ?_)
    obtain ⟨_, _, h1, h2⟩ := h.Fp k hk
    exact (Below.heap_setCell _ _ _ _ h1).trans (hf.block k hlt (fun e => h2 (by rw [e]; rfl)) h2)
  · have := List.length_eraseIdx_le l i
    have := h.len
    omega
end Go.Proofs.Ytlpdihcgdgkkbaa
