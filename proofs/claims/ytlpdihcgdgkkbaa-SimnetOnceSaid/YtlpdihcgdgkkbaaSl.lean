/- Walks: Send and Twice of a net. -/
import Derived.Test.YtlpdihcgdgkkbaaSk
namespace Go.Proofs.Ytlpdihcgdgkkbaa
open Go.RowKit Go.St
set_option linter.unusedVariables false
set_option linter.unusedSimpArgs false
set_option maxRecDepth 100000

theorem NetS.toB {W : World} {base b : Nat} {nodes last : Int} {A : Option Addr} {n c : Nat} {F : Nat → Prop} {l : List Ltr} (h : NetS W base b (csP nodes last (.slice A n c)) (.slice A n c) F l) : NetB W b nodes last A n c :=
  ⟨h.lt, h.fz, h.cell 0 _ rfl, h.cell 1 _ rfl, h.cell 2 _ rfl⟩
/-- The program's net. -/
def NetP (W : World) (base b : Nat) (v : Value) (F : Nat → Prop) (s : Nt) : Prop := ∃ l, l.map Ltr.k = s.ks ∧ NetS W base b (csP s.nodes s.last v) v F l
/-- The document's net. -/
def NetR (W : World) (base b : Nat) (v : Value) (F : Nat → Prop) (s : Nt) : Prop := ∃ l, l.map Ltr.k = s.ks ∧ NetS W base b (csR s.nodes s.last v) v F l
def OutP (base b : Nat) (row : Option Nat) (F : Nat → Prop) (s : Nt) (W w' : World) : Prop := NetG base b row F (csP s.nodes s.last) s.ks W w'
def OutR (base b : Nat) (row : Option Nat) (F : Nat → Prop) (s : Nt) (W w' : World) : Prop := NetG base b row F (csR s.nodes s.last) s.ks W w'
theorem NetP.next {W w' : World} {base b : Nat} {v : Value} {F : Nat → Prop} {s : Nt} (h : NetP W base b v F s) (hb : Below W.heap.size W w') : NetP w' base b v F s := by
  obtain ⟨l, e, h⟩ := h; exact ⟨l, e, h.next hb⟩
theorem NetR.next {W w' : World} {base b : Nat} {v : Value} {F : Nat → Prop} {s : Nt} (h : NetR W base b v F s) (hb : Below W.heap.size W w') : NetR w' base b v F s := by
  obtain ⟨l, e, h⟩ := h; exact ⟨l, e, h.next hb⟩
theorem NetP.same {W w' : World} {base b : Nat} {v : Value} {F : Nat → Prop} {s : Nt} (h : NetP W base b v F s) (hb : Below W.heap.size W w') : OutP base b v.ownBlock F s W w' := by
  obtain ⟨l, e, h⟩ := h
  have := NetG.same h hb
  rw [e] at this
  exact this
theorem NetR.same {W w' : World} {base b : Nat} {v : Value} {F : Nat → Prop} {s : Nt} (h : NetR W base b v F s) (hb : Below W.heap.size W w') : OutR base b v.ownBlock F s W w' := by
  obtain ⟨l, e, h⟩ := h
  have := NetG.same h hb
  rw [e] at this
  exact this
theorem snone_net {W : World} {base b : Nat} {v : Value} {F : Nat → Prop} {s : Nt} (h : NetP W base b v F s) (hw : s.WF) : Calls Try.prog 73 #[.pointer (some ⟨b, 0, none⟩)] W fun e w' => e = .returned (.bool false) ∧ W = w' := by
  obtain ⟨l, e, h⟩ := h
  obtain ⟨A, c, rfl, -, -, -⟩ := h.row
  exact snone_yes b s.nodes s.last A l.length c W h.toB (by have := hw.nd; omega)
theorem sfind_net {W : World} {base b : Nat} {v : Value} {F : Nat → Prop} {s : Nt} (h : NetP W base b v F s) (hw : s.WF) (num : Int) :
    Calls Try.prog 75 #[.pointer (some ⟨b, 0, none⟩), .int .i64 num] W fun e w' => e = .returned (.tuple #[.int .i64 (fndV s.ks.length (lowI s num) (numI s) num), .int .i64 (hitE s num)]) ∧ Below W.heap.size W w' := by
  obtain ⟨l, e, h⟩ := h
  obtain ⟨A, c, rfl, -, -, hr⟩ := h.row
  have hl : l.length = s.ks.length := by rw [← e, List.length_map]
  have hlen := hw.len
  have := sfind_any b s.nodes s.last A l.length c (lowI s num) (numI s) num W h.toB (by have := hw.nd; omega) (by omega) (by have := low_le s num; omega) (fun t ht => low_lt ht) (fun t h1 h2 => low_ge hw h1 (by omega)) (fun hpos => by
    obtain ⟨g, rfl, hg, hc⟩ := hr (by rintro rfl; simp at hpos)
    refine ⟨g, 0, rfl, hg, fun i hi => ?_⟩
    have h1 := hc i l[i] 0 _ (List.getElem?_eq_getElem hi) rfl
    have h2 : s.ks[i]? = some l[i].k := by rw [← e, List.getElem?_map, List.getElem?_eq_getElem hi]; rfl
    rw [numI_get h2]
    simpa using h1)
  rw [hl, fndE_hit hw] at this
  exact this
theorem sput_net {W : World} {base b : Nat} {v : Value} {F : Nat → Prop} {s : Nt} (h : NetP W base b v F s) (hw : s.WF) (hb : s.last ≤ 4611686018427387904) (x : Ltr) (hx : LtB W (fun k => k ≠ b) x) (hn : s.ks.length < 2048) :
    Calls Try.prog 74 #[.pointer (some ⟨b, 0, none⟩), ltV x] W fun e w' => e = .returned (.tuple #[.int .i64 (s.last + 1), .int .i64 0]) ∧ OutP base b v.ownBlock F (putS s x.k.fr x.k.to x.k.bs) W w' := by
  obtain ⟨l, e, h⟩ := h
  have hl : l.length = s.ks.length := by rw [← e, List.length_map]
  refine (sput_any h x hx (by omega) hw.ls hb).mono ?_
  rintro e2 w' ⟨rfl, ho⟩
  rw [e] at ho
  exact ⟨rfl, ho⟩
theorem sput_net_full {W : World} {base b : Nat} {v : Value} {F : Nat → Prop} {s : Nt} (h : NetP W base b v F s) (hw : s.WF) (x : Ltr) (hn : ¬ s.ks.length < 2048) :
    Calls Try.prog 74 #[.pointer (some ⟨b, 0, none⟩), ltV x] W fun e w' => e = .returned (.tuple #[.int .i64 0, .int .i64 3]) ∧ Below W.heap.size W w' := by
  obtain ⟨l, e, h⟩ := h
  have hl : l.length = s.ks.length := by rw [← e, List.length_map]
  exact sput_full h x (by have := hw.len; omega)
theorem ssend_any {W : World} {base b : Nat} {v : Value} {F : Nat → Prop} {s : Nt} (h : NetP W base b v F s) (hw : s.WF) (hb : s.last ≤ 4611686018427387904) (fr to : Int) (A : Option Addr) (n c : Nat) (bs : List UInt8) (hx : LtB W (fun k => k ≠ b) ⟨⟨0, fr, to, bs⟩, A, n, c⟩) :
    Calls Try.prog 35 #[.pointer (some ⟨b, 0, none⟩), .int .i64 fr, .int .i64 to, .slice A n c] W fun e w' => e = .returned (.tuple #[.int .i64 (sendV s fr to), .int .i64 (sendE s fr to)]) ∧ OutP base b v.ownBlock F (sendS s fr to bs) W w' := by
  have HP := Lib.hid h
  have HN := Lib.hid (snone_net h hw)
  have H1 := Lib.hid (fun hn => sput_net h hw hb ⟨⟨0, fr, to, bs⟩, A, n, c⟩ hx hn)
  have H2 := Lib.hid (fun hn => sput_net_full h hw ⟨⟨0, fr, to, bs⟩, A, n, c⟩ hn)
  obtain ⟨l, -, hs⟩ := h
  have c0 := hs.cell 0 _ rfl
  have lt := hs.lt
  unfold sendV sendS
  clear hx hs hw
  by_cases hok : okK s.nodes fr to = true
  · have hE : sendE s fr to = if 2048 ≤ s.ks.length then 3 else 0 := by unfold sendE; rw [if_pos hok]
    unfold okK at hok
    simp only [Bool.and_eq_true, decide_eq_true_eq] at hok
    obtain ⟨⟨a1, a2⟩, a3, a4⟩ := hok
    have b1 : decide (fr < 0) = false := decide_eq_false (by omega)
    have b2 : decide (s.nodes ≤ fr) = false := decide_eq_false (by omega)
    have b3 : decide (to < 0) = false := decide_eq_false (by omega)
    have b4 : decide (s.nodes ≤ to) = false := decide_eq_false (by omega)
    by_cases hn : s.ks.length < 2048
    · rw [if_neg (by omega)] at hE
      rw [hE]
      have H3 := Lib.hid (H1.out hn)
      unfold ltV at H3
      clear H1 H2 a1 a2 a3 a4 hE
      go_enter Try.func35, Try.ntmps35
      go_wp2_with fail
      refine HN.out.mono ?_
      rintro e w' ⟨rfl, rfl⟩
      go_wp2_with fail
      refine H3.out.mono ?_
      rintro e w' ⟨rfl, ho⟩
      have HO := Lib.hid ho
      clear ho
      go_wp2
      go_ret2
      exact ⟨rfl, HO.out⟩
    · rw [if_pos (by omega)] at hE
      rw [hE]
      have H3 := Lib.hid (H2.out hn)
      unfold ltV at H3
      clear H1 H2 a1 a2 a3 a4 hE
      go_enter Try.func35, Try.ntmps35
      go_wp2_with fail
      refine HN.out.mono ?_
      rintro e w' ⟨rfl, rfl⟩
      go_wp2_with fail
      refine H3.out.mono ?_
      rintro e w' ⟨rfl, ho⟩
      have HO := Lib.hid (HP.out.same ho)
      clear ho
      go_wp2
      go_ret2
      exact ⟨rfl, HO.out⟩
  · have hE : sendE s fr to = 2 := by unfold sendE; rw [if_neg hok]
    rw [hE]
    have HO := Lib.hid (HP.out.same (Below.refl _ _))
    clear H1 H2 hE
    have hor : (decide (fr < 0) = true) ∨ (decide (fr < 0) = false ∧ decide (s.nodes ≤ fr) = true) ∨ (decide (fr < 0) = false ∧ decide (s.nodes ≤ fr) = false ∧ decide (to < 0) = true) ∨ (decide (fr < 0) = false ∧ decide (s.nodes ≤ fr) = false ∧ decide (to < 0) = false ∧ decide (s.nodes ≤ to) = true) := by
      unfold okK at hok
      simp only [Bool.and_eq_true, decide_eq_true_eq, decide_eq_false_iff_not] at hok ⊢
      omega
    clear hok
    rcases hor with b1 | ⟨b1, b2⟩ | ⟨b1, b2, b3⟩ | ⟨b1, b2, b3, b4⟩
    all_goals
      go_enter Try.func35, Try.ntmps35
      go_wp2_with fail
      refine HN.out.mono ?_
      rintro e w' ⟨rfl, rfl⟩
      go_wp2_with fail
      go_ret2
      exact ⟨rfl, HO.out⟩
end Go.Proofs.Ytlpdihcgdgkkbaa
