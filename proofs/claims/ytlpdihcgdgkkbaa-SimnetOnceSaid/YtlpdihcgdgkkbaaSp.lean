/- Walks: Flight of a net. -/
import Derived.Test.YtlpdihcgdgkkbaaSo
namespace Go.Proofs.Ytlpdihcgdgkkbaa
open Go.RowKit Go.St
set_option linter.unusedVariables false
set_option linter.unusedSimpArgs false
set_option maxRecDepth 100000

def ltB (x : Ltr) : Value := .slice x.A x.n x.c
/-- Letters of the call's own: each one's bytes in a block of its own. -/
structure FlB (W : World) (base : Nat) (row : Option Nat) (l : List Ltr) : Prop where
  byt : ∀ (i : Nat) x, l[i]? = some x → W.ownsRow base 5 1 (ltB x) x.n (bv x.k.bs) ∧ x.n ≤ 1000000
  apart : ∀ (i j : Nat) x y, i ≠ j → l[i]? = some x → l[j]? = some y → (ltB x).ownBlock = none ∨ (ltB x).ownBlock ≠ (ltB y).ownBlock
  apr : ∀ g, row = some g → ∀ (i : Nat) x, l[i]? = some x → (ltB x).ownBlock ≠ some g
theorem FlB.nil (W : World) (base : Nat) (row : Option Nat) : FlB W base row [] := ⟨fun i x h => by simp at h, fun i j x y _ h => by simp at h, fun g _ i x h => by simp at h⟩
theorem FlB.keep {W W' : World} {base : Nat} {row : Option Nat} {l : List Ltr} (h : FlB W base row l) (hk : ∀ (i : Nat) x g, l[i]? = some x → (ltB x).ownBlock = some g → W'.heap[g]? = W.heap[g]?) : FlB W' base row l :=
  ⟨fun i x hx => ⟨ownsRow_of (h.byt i x hx).1 (fun g e => hk i x g hx e), (h.byt i x hx).2⟩, h.apart, h.apr⟩
theorem FlB.next {W W' : World} {base : Nat} {row : Option Nat} {l : List Ltr} (h : FlB W base row l) (hb : Below W.heap.size W W') : FlB W' base row l :=
  h.keep (fun i x g hx e => hb.block g ((h.byt i x hx).1.lt g e).2)
theorem FlB.snoc {W : World} {base : Nat} {row : Option Nat} {l : List Ltr} (h : FlB W base row l) {x : Ltr} (hx : W.ownsRow base 5 1 (ltB x) x.n (bv x.k.bs)) (hn : x.n ≤ 1000000)
    (hnew : ∀ g, (ltB x).ownBlock = some g → row ≠ some g ∧ ∀ (i : Nat) y, l[i]? = some y → (ltB y).ownBlock ≠ some g) : FlB W base row (l ++ [x]) := by
  have hcase : ∀ (i : Nat) y, (l ++ [x])[i]? = some y → (i < l.length ∧ l[i]? = some y) ∨ (i = l.length ∧ y = x) := fun i y hy => by
    rcases Nat.lt_or_ge i l.length with h1 | h1
    · rw [List.getElem?_append_left h1] at hy
      exact .inl ⟨h1, hy⟩
    · rw [List.getElem?_append_right h1] at hy
      have := (List.getElem?_eq_some_iff.1 hy).1
      simp at this
      have h2 : i = l.length := by omega
      subst h2
      simp at hy
      exact .inr ⟨rfl, hy.symm⟩
  refine ⟨fun i y hy => ?_, fun i j y z hij hy hz => ?_, fun g hg i y hy => ?_⟩
  · rcases hcase i y hy with ⟨_, h1⟩ | ⟨_, rfl⟩
    · exact h.byt i y h1
    · exact ⟨hx, hn⟩
  · rcases hcase i y hy with ⟨a1, h1⟩ | ⟨a1, rfl⟩
    · rcases hcase j z hz with ⟨a2, h2⟩ | ⟨a2, rfl⟩
      · exact h.apart i j y z hij h1 h2
      · cases hb : (ltB y).ownBlock with
        | none => exact .inl rfl
        | some g => exact .inr (fun e => (hnew g e.symm).2 i y h1 hb)
    · rcases hcase j z hz with ⟨a2, h2⟩ | ⟨a2, rfl⟩
      · cases hb : (ltB y).ownBlock with
        | none => exact .inl rfl
        | some g => exact .inr (fun e => (hnew g hb).2 j z h2 e.symm)
      · omega
  · rcases hcase i y hy with ⟨_, h1⟩ | ⟨_, rfl⟩
    · exact h.apr g hg i y h1
    · exact fun e => (hnew g e).1 hg
theorem lv_setB (ms : List Ltr) (x : Ltr) (r : List Ltr) (A : Option Addr) (c : Nat) : (lv (ms ++ x :: r)).set (ms.length * 4 + 3) (.slice A x.n c) = lv (ms ++ [⟨x.k, A, x.n, c⟩] ++ r) := by
  rw [lv_append, List.set_append_right _ _ (by rw [lv_length]; omega), lv_length, lv_append, lv_append, List.append_assoc]
  congr 1
  rw [show ms.length * 4 + 3 - ms.length * 4 = 3 by omega, lv_cons, lv_cons]
  simp [ltc, lv]
set_option maxHeartbeats 1600000 in
theorem sflight_any {W : World} {base b : Nat} {v : Value} {F : Nat → Prop} {s : Nt} (h : NetP W base b v F s) (hw : s.WF) :
    Calls Try.prog 52 #[.pointer (some ⟨b, 0, none⟩)] W fun e w' => ∃ v' l', e = .returned v' ∧ l'.map Ltr.k = s.ks ∧ w'.ownsRow W.heap.size 51 4 v' l'.length (lv l') ∧ FlB w' W.heap.size v'.ownBlock l' ∧ Below W.heap.size W w' := by
  have HN := Lib.hid (snone_net h hw)
  obtain ⟨l, el, hs⟩ := h
  have HE := Lib.hid el
  have HS := Lib.hid hs
  have hlen := hs.len
  obtain ⟨A, c, rfl, -, -, -⟩ := hs.row
  have c2 := hs.cell 2 _ rfl
  have HC := Lib.hid (lclone_any A l.length c W.heap.size (lv l) (lv_length l) (lv_one l) (by omega) W hs.rd (Nat.le_refl _))
  have BY := Lib.hid hs.byt
  clear hs el hw
  go_enter Try.func52, Try.ntmps52
  go_wp2_with fail
  refine HN.out.mono ?_
  rintro e w' ⟨rfl, rfl⟩
  go_wp2_with fail
  refine HC.out.mono ?_
  rintro e w1 ⟨v1, rfl, own1, hb1⟩
  have O1 := Lib.hid own1
  have B1 := Lib.hid hb1
  clear own1 hb1 HC HN
  have hform : ∃ A1 c1, v1 = .slice A1 l.length c1 ∧ l.length ≤ c1 ∧ c1 ≤ maxLen := by
    rcases O1.out.2 with ⟨hv, h0⟩ | ⟨g, cap, cur, e0, _, _, h1, h2, _⟩
    · exact ⟨none, 0, by rw [hv, h0], by omega, Nat.zero_le _⟩
    · exact ⟨_, cap, e0, h1, h2⟩
  obtain ⟨A1, c1, rfl, hc1, hcm⟩ := hform
  go_wp2_with fail
  go_loopw [14] (fun i wr => ∃ (k : Nat) (ms : List Ltr), i = .int .i64 k ∧ k ≤ l.length ∧ ms.length = k ∧ Hid (ms.map Ltr.k = (l.take k).map Ltr.k) ∧ Hid (wr.ownsRow W.heap.size 51 4 (.slice A1 l.length c1) l.length (lv (ms ++ l.drop k))) ∧ Hid (FlB wr W.heap.size (Value.slice A1 l.length c1).ownBlock ms) ∧ Hid (Below W.heap.size W wr)) (fun i _ => l.length - (intOf i).toNat)
  case atStart => exact ⟨0, [], rfl, Nat.zero_le _, rfl, Lib.hid rfl, Lib.hid (by simpa using O1.out), Lib.hid (FlB.nil _ _ _), B1⟩
  case round =>
    obtain ⟨k, ms, rfl, hk, hml, hmk, ho, hfl, hb⟩ := hrel
    clear O1 B1
    by_cases hlt : k < l.length
    · obtain ⟨g, cap, hA1, hg0, hg1⟩ := ho.out.form (by omega)
      injection hA1 with hA1 _ hc2
      subst hA1 hc2
      have hdk : l.drop k = l[k] :: l.drop (k + 1) := List.drop_eq_getElem_cons hlt
      have hx0 := BY.out l[k] (List.getElem_mem hlt)
      have htk : (l.take (k + 1)).map Ltr.k = (l.take k).map Ltr.k ++ [l[k].k] := by rw [List.take_add_one, List.getElem?_eq_getElem hlt, List.map_append]; rfl
      generalize l[k] = x at *
      have hget : (ms ++ l.drop k)[k]? = some x := by rw [List.getElem?_append_right (by omega), hdk, hml]; simp
      have c3 := ho.out.cellAt (k * 4 + 3) (by omega)
      rw [lv_get _ k 3 x _ hget rfl] at c3
      have fz := ho.out.frozenAt (k * 4 + 3)
      have hx := hx0.keep hb.out.size (fun j _ hj => hb.out.block j hj)
      have hxl := hx.len
      have hxb := hx.bnd
      have HX := Lib.hid hx
      have HDK := Lib.hid hdk
      have HTK := Lib.hid htk
      have i1 : (k : Int) < (l.length : Int) := by omega
      have i0 : (0 : Int) ≤ (k : Int) := by omega
      clear hx hx0 hget hdk htk
      go_wp2_with fail
      refine (bclone_any x.A x.n x.c wr.heap.size x.k.bs hxl (by omega) wr HX.out.read (Nat.le_refl _)).mono ?_
      rintro e w3 ⟨v3, rfl, own3, hb3⟩
      obtain ⟨A3, c3', rfl, -, -, -⟩ := own_rd4 own3
      have O3 := own_keep ho.out hb3 (Nat.le_refl _)
      have hst := O3.stored (k * 4 + 3) (.slice A3 x.n c3')
      have hset : (lv (ms ++ l.drop k)).set (k * 4 + 3) (.slice A3 x.n c3') = lv (ms ++ [⟨x.k, A3, x.n, c3'⟩] ++ l.drop (k + 1)) := by rw [HDK.out, ← hml]; exact lv_setB ms x _ A3 c3'
      rw [hset] at hst
      have hcx := (hb3.cell (p := ⟨g, k * 4 + 3, none⟩) hg1).trans c3
      have hfx := (hb3.frozen (p := ⟨g, k * 4 + 3, none⟩) hg1).trans fz
      have hB3 : Below W.heap.size W w3 := hb.out.trans (hb3.mono hb.out.size)
      have N3 : Hid (Below W.heap.size W (w3.setCell ⟨g, k * 4 + 3, none⟩ (.slice A3 x.n c3'))) := Lib.hid (hB3.setCell hg0 _)
      have hfar : ∀ j, j ≠ g → (w3.setCell ⟨g, k * 4 + 3, none⟩ (.slice A3 x.n c3')).heap[j]? = w3.heap[j]? := fun j e => Below.heap_setCell _ _ _ _ e
      have H4 := hfl.out.next hb3
      have F4 : Hid (FlB (w3.setCell ⟨g, k * 4 + 3, none⟩ (.slice A3 x.n c3')) W.heap.size (Value.slice (some ⟨g, 0, none⟩) l.length c1).ownBlock (ms ++ [⟨x.k, A3, x.n, c3'⟩])) := Lib.hid ((H4.keep (fun i y j hy e => hfar j (fun e2 => H4.apr g rfl i y hy (by rw [e, e2])))).snoc
        (ownsRow_of (own3.mono (base' := W.heap.size) hb.out.size) (fun j e => hfar j (fun e2 => by have := (own3.lt j e).1; omega))) hxb
        (fun j e => by
          have hj := (own3.lt j e).1
          refine ⟨fun e2 => ?_, fun i y hy e2 => ?_⟩
          · have e3 : g = j := Option.some.inj e2
            omega
          · have := ((hfl.out.byt i y hy).1.lt j e2).2
            omega))
      have O4 : Hid ((w3.setCell ⟨g, k * 4 + 3, none⟩ (.slice A3 x.n c3')).ownsRow W.heap.size 51 4 (.slice (some ⟨g, 0, none⟩) l.length c1) l.length (lv (ms ++ [⟨x.k, A3, x.n, c3'⟩] ++ l.drop (k + 1)))) := Lib.hid hst.1
      clear own3 hst hset hfar H4 O3 hb3 hB3 ho hfl hb c3 fz
      go_wp2_with fail
      go_roundw
      case rel => exact ⟨k + 1, _, by go_num, by omega, by rw [List.length_append, hml]; rfl, Lib.hid (by rw [List.map_append, hmk.out, HTK.out]; rfl), O4, F4, N3⟩
      case measure => simp [intOf]; omega
    · obtain rfl : k = l.length := by omega
      go_wp2_with fail
      go_ret
      have e1 : ms.map Ltr.k = l.map Ltr.k := by have := hmk.out; rwa [List.take_length] at this
      refine ⟨_, ms, rfl, by rw [e1, HE.out], ?_, hfl.out, hb.out⟩
      have := ho.out
      rw [List.drop_length, List.append_nil] at this
      rw [hml]
      exact this
end Go.Proofs.Ytlpdihcgdgkkbaa
