/- Walk: does one come from a transaction to another one, by waits that go down? -/
import Derived.Test.YthijpcbblmcfiaaPq
import Derived.Test.YthijpcbblmcfiaaQue
import Derived.Test.YthijpcbblmcfiaaHa
import Derived.Deep.OwnRows
namespace Go.Proofs.Ythijpcbblmcfiaa
open Go.RowKit Go.St
set_option linter.unusedVariables false
set_option linter.unusedSimpArgs false
set_option maxRecDepth 100000

def iv (l : List Nat) : List Value := l.map (fun y : Nat => Value.int .i64 (y : Int))
def tv (l : List Bool) : List Value := l.map Value.bool
theorem styI : STy Try.prog 68 3 1 8 (.int .i64 0) := ⟨Try.underlying68, ⟨_, rfl, by kernel_rfl, by kernel_rfl, by kernel_rfl⟩, rfl, by decide⟩
/-- The rows of whom each one waits for. -/
def NxR (W : World) (B gn : Nat) (nx : List (List Nat)) : Prop := ∀ (x : Nat) (l : List Nat), nx[x]? = some l → ∃ A c, W.cell? ⟨gn, x, none⟩ = some (.slice A l.length c) ∧ Rd W B A (iv l)
theorem NxR.below {W W' : World} {B gn : Nat} {nx : List (List Nat)} (h : NxR W B gn nx) (hg : gn < B) (hb : Below B W W') : NxR W' B gn nx := fun x l hx => by
  obtain ⟨A, c, h1, h2⟩ := h x l hx
  exact ⟨A, c, (hb.cell (p := ⟨gn, x, none⟩) hg).trans h1, h2.below hb⟩
def sLen : Value → Nat
  | .slice _ n _ => n
  | _ => 0
/-- What stands in the walk: those to go on from, those seen. -/
structure RcS (W : World) (B gs N : Nat) (lt : Nat → Nat → Prop) (to' gq oq cq : Nat) (ts : List Nat) (ss : List Bool) : Prop where
  q : ownsQ W B 3 gq oq ts.length cq (iv ts)
  s : W.ownsRow B 4 1 (.slice (some ⟨gs, 0, none⟩) N N) N (tv ss)
  ne : gq ≠ gs
  ok : ∀ t ∈ ts, t < N ∧ (t = to' ∨ lt t to')
theorem RcS.un {W : World} {B gs N : Nat} {lt : Nat → Nat → Prop} {to' gq oq cq : Nat} {ts : List Nat} {ss : List Bool} (h : RcS W B gs N lt to' gq oq cq ts ss) : unW W gs N 0 = un ss := by
  have hl : ss.length = N := by simpa [tv] using h.s.1
  rw [← hl]
  refine unW_eq ss 0 (fun j b hj => ?_)
  have hjl : j < ss.length := (List.getElem?_eq_some_iff.1 hj).1
  rw [Nat.zero_add, h.s.cellAt j (by simpa [tv, hl] using hjl)]
  simp [tv, hj]
theorem RcS.tail {W : World} {B gs N : Nat} {lt : Nat → Nat → Prop} {to' gq oq cq x : Nat} {ts : List Nat} {ss : List Bool} (h : RcS W B gs N lt to' gq oq cq (x :: ts) ss) : RcS W B gs N lt to' gq (if cq = 1 then oq else oq + 1) (cq - 1) ts ss :=
  ⟨ownsQ.tail (x := .int .i64 (x : Int)) (show ownsQ W B 3 gq oq (ts.length + 1) cq (.int .i64 (x : Int) :: iv ts) from h.q), h.s, h.ne, fun t ht => h.ok t (List.mem_cons_of_mem _ ht)⟩

theorem RcS.mark {W : World} {B gs N : Nat} {lt : Nat → Nat → Prop} {to' gq oq cq : Nat} {ts : List Nat} {ss : List Bool} (h : RcS W B gs N lt to' gq oq cq ts ss) (y : Nat) : RcS (W.setCell ⟨gs, y, none⟩ (.bool true)) B gs N lt to' gq oq cq ts (ss.set y true) := by
  refine ⟨h.q.keep (Below.heap_setCell _ _ _ _ h.ne), ?_, h.ne, h.ok⟩
  have e : tv (ss.set y true) = (tv ss).set y (.bool true) := by simp [tv, List.map_set]
  rw [e]
  exact (h.s.stored y (.bool true)).1
theorem RcS.push {W W' : World} {B gs N : Nat} {lt : Nat → Nat → Prop} {to' gq oq cq : Nat} {ts : List Nat} {ss : List Bool} (h : RcS W B gs N lt to' gq oq cq ts ss) {ob : Obj} {g' o' c' n y : Nat} (hn : ts.length = n) (own : ownsQ W' B 3 g' o' (n + 1) c' (iv ts ++ [.int .i64 (y : Int)])) (gr : (W.alloc ob).grownBy W' (some gq)) (hg : g' = gq ∨ g' = (W.alloc ob).heap.size) (hy : y < N ∧ lt y to') : RcS W' B gs N lt to' g' o' c' (ts ++ [y]) ss := by
  have hgs := (h.s.lt gs rfl).2
  refine ⟨?_, (h.s.alloc ob).kept gr (.inr (fun e => h.ne (by injection e with e; exact e.symm))), ?_, fun t ht => ?_⟩
  · rw [List.length_append, hn, show iv (ts ++ [y]) = iv ts ++ [.int .i64 (y : Int)] by simp [iv]]
    exact own
  · rcases hg with rfl | hg
    · exact h.ne
    · rw [hg, World.size_alloc]; omega
  · rcases List.mem_append.1 ht with h1 | h1
    · exact h.ok t h1
    · have e : t = y := by simpa using h1
      rw [e]
      exact ⟨hy.1, .inr hy.2⟩

set_option maxHeartbeats 3200000 in
theorem reaches_any (lt : Nat → Nat → Prop) (tr : ∀ a b c, lt a b → lt b c → lt a c) (ir : ∀ a, ¬ lt a a) (N : Nat) (hN : N ≤ 30) (nx : List (List Nat)) (hnx : nx.length = N) (hok : ∀ x l, nx[x]? = some l → l.length ≤ 60 ∧ ∀ y ∈ l, y < N ∧ lt y x) (to' : Nat) (hto : to' < N) (gn cn : Nat) (w : World) (hr : NxR w w.heap.size gn nx) (hg : gn < w.heap.size) :
    Calls Try.prog 41 #[.slice (some ⟨gn, 0, none⟩) N cn, .int .i64 (to' : Int), .int .i64 (to' : Int)] w fun e w' => e = .returned (.bool false) ∧ Below w.heap.size w w' := by
  have HR := Lib.hid hr
  have HX := Lib.hid hnx
  have HOK := Lib.hid hok
  have TR := Lib.hid tr
  have IR := Lib.hid ir
  clear hr hnx hok tr ir
  have hmk := fun W => run_make_row' (P := Try.prog) 85 4 (.bool false) 1 Try.underlying85 (by kernel_rfl) rfl .i64 .i64 N (by omega) (by omega) W
  go_enter Try.func41, Try.ntmps41
  go_wp2_with fail
  clear hmk
  have B0 : Hid (Below w.heap.size w ((w.alloc (.cells (madeCells #[.bool false] N) 4)).alloc (.cells #[.int .i64 (to' : Int)] 3))) := Lib.hid (((Below.refl _ _).alloc (Nat.le_refl _) _).alloc (by simp) _)
  have O0 : Hid (RcS ((w.alloc (.cells (madeCells #[.bool false] N) 4)).alloc (.cells #[.int .i64 (to' : Int)] 3)) w.heap.size w.heap.size N lt to' (w.heap.size + 1) 0 1 [to'] (List.replicate N false)) := by
    refine Lib.hid ⟨?_, ?_, by omega, fun t ht => ?_⟩
    · have h := ownsQ.of (World.ownsRow_lit (base := w.heap.size) (size := 1) (e := 3) (w.alloc (.cells (madeCells #[.bool false] N) 4)) #[.int .i64 (to' : Int)] 1 (by simp) (by decide) rfl)
      rw [World.size_alloc] at h
      exact h
    · have h := World.ownsRow_lit (base := w.heap.size) (size := 1) (e := 4) w (madeCells #[.bool false] N) N (Nat.le_refl _) (by unfold maxLen; omega) (by simp [madeCells])
      rw [toList_madeCells_one] at h
      rw [show tv (List.replicate N false) = List.replicate N (.bool false) by simp [tv]]
      exact h.alloc _
    · have e : t = to' := by simpa using ht
      rw [e]
      exact ⟨hto, .inl rfl⟩
  generalize (w.alloc (.cells (madeCells #[.bool false] N) 4)).alloc (.cells #[.int .i64 (to' : Int)] 3) = w0 at *
  go_loopw [8] (fun s8 wr => ∃ (gq oq cq : Nat) (ts : List Nat) (ss : List Bool), s8 = .slice (some ⟨gq, oq, none⟩) ts.length cq ∧ Hid (2 * un ss + ts.length ≤ 61) ∧ Hid (RcS wr w.heap.size w.heap.size N lt to' gq oq cq ts ss) ∧ Hid (Below w.heap.size w wr)) (fun s8 wr => 2 * unW wr w.heap.size N 0 + sLen s8)
  case atStart => exact ⟨_, _, _, [to'], _, rfl, Lib.hid (by rw [un_rep]; simp; omega), O0, B0⟩
  case round =>
    obtain ⟨gq, oq, cq, ts, ss, rfl, hMB, hS, hB⟩ := hrel
    clear O0 B0
    obtain ⟨w5, rfl⟩ : ∃ x, x = wr := ⟨_, rfl⟩
    cases ts with
    | nil =>
      go_wp2_with fail
      go_ret
      exact ⟨rfl, hB.out⟩
    | cons x ts =>
      have hS2 := Lib.hid hS.out.tail
      have hx0 : w5.cell? ⟨gq, oq, none⟩ = some (.int .i64 (x : Int)) := hS.out.q.cells 0 _ rfl
      obtain ⟨hxN, hxo⟩ := hS.out.ok x (by simp)
      have HXO := Lib.hid hxo
      obtain ⟨l, hl⟩ : ∃ l, nx[x]? = some l := ⟨_, List.getElem?_eq_getElem (by rw [HX.out]; exact hxN)⟩
      obtain ⟨hl60, hly⟩ := HOK.out x l hl
      obtain ⟨A, c, hc1, hc2⟩ := HR.out x l hl
      have HLY := Lib.hid hly
      have HC := Lib.hid hc2
      have HC1 := Lib.hid hc1
      have hu := hS.out.un
      have hcap : ts.length + 1 ≤ cq := hS.out.q.2.2.1
      have hpos : (0 : Int) < ((ts.length + 1 : Nat) : Int) := by omega
      have hx1 : (x : Int) < (N : Int) := by omega
      have hx2 : (0 : Int) ≤ (x : Int) := by omega
      have h5 : w.heap.size ≤ w5.heap.size := hB.out.size
      have hc5 := (hB.out.cell (p := ⟨gn, x, none⟩) hg).trans hc1
      clear hly hc2 hxo hl hc1
      obtain ⟨M, hM⟩ : ∃ M, 2 * unW w5 w.heap.size N 0 + ts.length = M := ⟨_, rfl⟩
      have hM1 : Hid (2 * un ss + ts.length ≤ M) := Lib.hid (by omega)
      have hM2 : Hid (∀ g o c, 2 * unW w5 w.heap.size N 0 + sLen (.slice (some ⟨g, o, none⟩) (ts.length + 1) c) = M + 1) := Lib.hid (fun g o c => by simp only [sLen]; omega)
      have hM3 : Hid (M ≤ 60) := Lib.hid (by have h1 := hMB.out; simp only [List.length_cons] at h1; omega)
      clear hM hu hS hMB
      simp only [List.length_cons]
      have HN := Lib.hid (show ts.length = ts.length from rfl)
      go_wp2_with fail
      all_goals
        first | rw [if_pos (c := cq = 1) (by assumption)] at hS2 | rw [if_neg (c := cq = 1) (by assumption)] at hS2
        go_loopw [8, 10] (fun s8 s10 wr => ∃ (gq oq cq : Nat) (ts : List Nat) (ss : List Bool) (i : Nat), s8 = .slice (some ⟨gq, oq, none⟩) ts.length cq ∧ s10 = .int .i64 (i : Int) ∧ i ≤ l.length ∧ Hid (2 * un ss + ts.length ≤ M) ∧ Hid (RcS wr w.heap.size w.heap.size N lt to' gq oq cq ts ss) ∧ Hid (Below w.heap.size w wr)) (fun s8 s10 wr => l.length - (intOf s10).toNat)
        case atStart =>
          first
            | exact ⟨_, _, _, ts, ss, 0, rfl, rfl, Nat.zero_le _, hM1, hS2, hB⟩
            | (have e : cq = 1 := by assumption
               rw [e] at hS2
               exact ⟨_, _, _, ts, ss, 0, rfl, rfl, Nat.zero_le _, hM1, hS2, hB⟩)
        case round =>
          obtain ⟨gq2, oq2, cq2, ts2, ss2, i, rfl, rfl, hi, hm, hS3, hB3⟩ := hrel
          clear hS2 hM1 hB hx0 h5 hc5 hcap hpos
          obtain ⟨w6, rfl⟩ : ∃ x, x = wr := ⟨_, rfl⟩
          have hc6 := (hB3.out.cell (p := ⟨gn, x, none⟩) hg).trans HC1.out
          by_cases hlt : i < l.length
          · obtain ⟨y, hy⟩ : ∃ y, l[i]? = some y := ⟨_, List.getElem?_eq_getElem hlt⟩
            obtain ⟨hyN, hyx⟩ := HLY.out y (List.mem_of_getElem? hy)
            have hyt : lt y to' := by
              rcases HXO.out with e | h
              · rw [← e]; exact hyx
              · exact TR.out _ _ _ hyx h
            have hne : ¬ y = to' := fun e => IR.out to' (by rw [e] at hyt; exact hyt)
            have hne2 : ¬ (y : Int) = (to' : Int) := by omega
            have HYT := Lib.hid (show y < N ∧ lt y to' from ⟨hyN, hyt⟩)
            obtain ⟨b, off, hA, hb, hcb⟩ := HC.out.at_ (i := i) (v := .int .i64 (y : Int)) (by simp [iv, hy])
            have hcb6 := (hB3.out.cell (p := ⟨b, off + i, none⟩) hb).trans hcb
            rw [hA] at hc6
            have i1 : (i : Int) < (l.length : Int) := by omega
            have i2 : (0 : Int) ≤ (i : Int) := by omega
            have y1 : (y : Int) < (N : Int) := by omega
            have y2 : (0 : Int) ≤ (y : Int) := by omega
            have hl3 : ss2.length = N := by simpa [tv] using hS3.out.s.1
            have hys := hS3.out.s.cellAt y (by simpa [tv, hl3] using hyN)
            have hyf := hS3.out.s.frozenAt y
            rw [show (tv ss2)[y]? = some (.bool ss2[y]) by simp [tv]] at hys
            have hss : ss2[y]? = some ss2[y] := List.getElem?_eq_getElem _
            generalize ss2[y] = sy at *
            have HSS := Lib.hid hss
            clear hy hyx hyt hcb hss hl3 hA
            cases sy
            · have HQ := Lib.hid (hS3.out.mark y)
              have hb7 : Hid (Below w.heap.size w (w6.setCell ⟨w.heap.size, y, none⟩ (.bool true))) := Lib.hid (hB3.out.setCell (Nat.le_refl _) _)
              have hmu := Lib.hid (un_set HSS.out)
              have hts : ts2.length ≤ 1000000 := by have h1 := hm.out; have h2 := hM3.out; omega
              have h8 := hb7.out.size
              have hsz : (w6.setCell ⟨w.heap.size, y, none⟩ (.bool true)).heap.size = w6.heap.size := by simp [World.setCell]
              go_wp2_with (at_builtin; refine wpList_append_q styI (.tmp 52) (.tmp 54) rfl rfl w.heap.size (HQ.out.q.keep (_root_.Go.heap_alloc_old _ _ HQ.out.q.lt)) rfl ⟨w6.heap.size, 0, none⟩ 1 (.int .i64 (y : Int)) (by rw [show w6.heap.size = (w6.setCell ⟨w.heap.size, y, none⟩ (.bool true)).heap.size from hsz.symm, World.cell?_alloc_mark]; rfl) rfl rfl rfl hts (by rw [World.size_alloc]; omega) (by decide) rfl ?_; intro g' o' c' w7 own7 gr7 at7)
              go_roundw
              case rel => exact ⟨g', o', c', ts2 ++ [y], ss2.set y true, i + 1, by rw [List.length_append]; rfl, by go_num, by omega, Lib.hid (by have h1 := hm.out; have h2 := hmu.out; rw [List.length_append]; simp only [List.length_cons, List.length_nil]; omega), Lib.hid (HQ.out.push rfl own7 gr7 at7 HYT.out), Lib.hid ((hb7.out.alloc h8 _).grown gr7 (by rw [World.size_alloc]; omega) (fun k e => by injection e with e; rw [← e]; exact HQ.out.q.2.1))⟩
              case measure => simp [intOf]; omega
            · go_wp2_with fail
              go_roundw
              case rel => exact ⟨gq2, oq2, cq2, ts2, ss2, i + 1, rfl, by go_num, by omega, hm, hS3, hB3⟩
              case measure => simp [intOf]; omega
          · have i1 : ¬ (i : Int) < (l.length : Int) := by omega
            go_wp2_with fail
            go_roundw
            case rel => exact ⟨gq2, oq2, cq2, ts2, ss2, rfl, Lib.hid (by have h1 := hm.out; have h2 := hM3.out; omega), hS3, hB3⟩
            case measure =>
              have h1 := hM2.out 0 0 0
              have h2 := hS3.out.un
              have h3 := hm.out
              simp only [sLen] at h1 ⊢
              simp [sLen]
              omega
end Go.Proofs.Ythijpcbblmcfiaa
