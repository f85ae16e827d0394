/- Walk: lists are merged and folded as the document says. -/
import Derived.Test.YtmcpjpkidcbgiaaEs
import Derived.Test.YtmcpjpkidcbgiaaGc
import Derived.Test.YtmcpjpkidcbgiaaGg
import Derived.Test.YtmcpjpkidcbgiaaGh
import Derived.Test.YtmcpjpkidcbgiaaGi
import Derived.Test.YtmcpjpkidcbgiaaGj
import Derived.Test.YtmcpjpkidcbgiaaOin
import Derived.Test.YtmcpjpkidcbgiaaFm
namespace Go.Proofs.Ytmcpjpkidcbgiaa
open Go.RowKit Go.ChangeShapes Go.WideShapes Go.ChangeAt Go.St Go.Maps
set_option linter.unusedVariables false
set_option linter.unusedSimpArgs false
set_option maxRecDepth 100000

theorem open_entssU {w : World} {b0 : Nat} {r : Reach} {v : Value} (hv : Value.okWide Try.prog w r b0 39 v) (ft : fits Try.prog w w.heap.size 1048576 8 39 v.cells.toList) :
    ∃ x : EntssArg w, v = .slice x.A x.n x.c ∧ True := open_entss hv (fits_more (by omega) _ _ _ ft)
theorem open_intsU {w : World} {b0 : Nat} {r : Reach} {v : Value} (hv : Value.okWide Try.prog w r b0 45 v) (ft : fits Try.prog w w.heap.size 1048576 8 45 v.cells.toList) :
    ∃ x : IntsArg w, v = .slice x.A x.n x.c ∧ True := open_ints hv (fits_more (by omega) _ _ _ ft)

theorem mrg_mem : ∀ (n : Nat) (ls : List (List Ent)) (out a : List Ent), mrgN n ls out = some a → ∀ x ∈ a, x ∈ out ∨ ∃ l ∈ ls, x ∈ l
  | 0, _, _, _, h => by cases h
  | n + 1, ls, out, a, h => by
    rw [mrgN] at h
    cases hb : bstM ls 0 none with
    | none =>
      rw [hb] at h
      have h : some out = some a := h
      injection h with h
      subst h
      exact fun x hx => .inl hx
    | some p =>
      obtain ⟨i, x⟩ := p
      rw [hb] at h
      have h : (if okM out x = true then mrgN n (ls.set i ((ls[i]?.getD []).tail)) (out ++ [x]) else none) = some a := h
      obtain ⟨r, hi⟩ := bst_at hb
      by_cases hk : okM out x = true
      · rw [if_pos hk, hi] at h
        have h : mrgN n (ls.set i r) (out ++ [x]) = some a := h
        intro y hy
        have hin : (x :: r) ∈ ls := List.mem_of_getElem? hi
        rcases mrg_mem n _ _ _ h y hy with h1 | ⟨l, hl, h1⟩
        · rcases List.mem_append.1 h1 with h2 | h2
          · exact .inl h2
          · rw [List.mem_singleton.1 h2]
            exact .inr ⟨_, hin, List.mem_cons_self ..⟩
        · rcases mem_set' hl with e | e
          · subst e
            exact .inr ⟨_, hin, List.mem_cons_of_mem _ h1⟩
          · exact .inr ⟨l, e, h1⟩
      · rw [if_neg hk] at h
        cases h
theorem mrgL_mem {ls : List (List Ent)} {x : Ent} (h : x ∈ mrgL ls) : ∃ l ∈ ls, x ∈ l := by
  rcases mrg_cases ls with ⟨-, h2⟩ | ⟨-, h2⟩ | ⟨a, -, h2, h3⟩
  · rw [h2] at h; cases h
  · rw [h2] at h; cases h
  · rw [h2] at h
    rcases mrg_mem _ _ _ _ h3 x h with h4 | h4
    · cases h4
    · exact h4
theorem mrgL_ris (ls : List (List Ent)) : risE (mrgL ls) = true := by
  rcases mrg_cases ls with ⟨-, h2⟩ | ⟨-, h2⟩ | ⟨a, -, h2, h3⟩
  · rw [h2]; rfl
  · rw [h2]; rfl
  · rw [h2]; exact mrg_ris h3
theorem mrgL_len (ls : List (List Ent)) : (mrgL ls).length ≤ totL ls := by
  rcases mrg_cases ls with ⟨-, h2⟩ | ⟨-, h2⟩ | ⟨a, -, h2, h3⟩
  · rw [h2]; exact Nat.zero_le _
  · rw [h2]; exact Nat.zero_le _
  · rw [h2]; exact Nat.le_of_eq (mrg_len h3)

/-- Slices that look into lists that are lent, none of them in a row's own block. -/
def LsL (W : World) (row : Option Nat) (vs : List Value) (ls : List (List Ent)) : Prop := ∀ (i : Nat) (l : List Ent), ls[i]? = some l → ∃ g ci, vs[i]? = some (Value.slice (some ⟨g, 0, none⟩) l.length ci) ∧ l.length + 3 ≤ ci ∧ Rd W W.heap.size (some ⟨g, 0, none⟩) (env (lentE l)) ∧ row ≠ some g ∧ g < W.heap.size
theorem LsL.grown {W W' : World} {row : Option Nat} {vs : List Value} {ls : List (List Ent)} (h : LsL W row vs ls) (hg : W.grownBy W' row) : LsL W' row vs ls := fun i l hl => by
  obtain ⟨g, ci, h1, h2, h3, h4, h5⟩ := h i l hl
  exact ⟨g, ci, h1, h2, rd_grown h3 hg (fun g' o e => by injection e with e; injection e with e; exact e ▸ h4), h4, Nat.lt_of_lt_of_le h5 hg.size⟩
theorem LsL.below {W W' : World} {row : Option Nat} {vs : List Value} {ls : List (List Ent)} (h : LsL W row vs ls) (hb : Below W.heap.size W W') : LsL W' row vs ls := h.grown (below_grownBy hb)
theorem LsL.row {W : World} {row row' : Option Nat} {vs : List Value} {ls : List (List Ent)} (h : LsL W row vs ls) (hr : ∀ g, row' = some g → row = some g ∨ W.heap.size ≤ g) : LsL W row' vs ls := fun i l hl => by
  obtain ⟨g, ci, h1, h2, h3, h4, h5⟩ := h i l hl
  refine ⟨g, ci, h1, h2, h3, fun e => ?_, h5⟩
  rcases hr g e with h6 | h6
  · exact h4 h6
  · omega
theorem LsL.snoc {W : World} {row : Option Nat} {vs : List Value} {ls : List (List Ent)} (h : LsL W row vs ls) (hv : vs.length = ls.length) {l : List Ent} {g ci : Nat} (hc : l.length + 3 ≤ ci) (hr : Rd W W.heap.size (some ⟨g, 0, none⟩) (env (lentE l))) (hn : row ≠ some g) (hg : g < W.heap.size) : LsL W row (vs ++ [.slice (some ⟨g, 0, none⟩) l.length ci]) (ls ++ [l]) := fun i l' hl => by
  rcases Nat.lt_or_ge i ls.length with h1 | h1
  · rw [List.getElem?_append_left h1] at hl
    obtain ⟨g', ci', h2, h3, h4, h5, h6⟩ := h i l' hl
    exact ⟨g', ci', by rw [List.getElem?_append_left (by omega)]; exact h2, h3, h4, h5, h6⟩
  · have hi : i = ls.length := by
      have := (List.getElem?_eq_some_iff.1 hl).1
      rw [List.length_append, List.length_cons, List.length_nil] at this
      omega
    subst hi
    rw [List.getElem?_append_right (Nat.le_refl _), Nat.sub_self] at hl
    have hl : l = l' := by simpa using hl
    subst hl
    exact ⟨g, ci, by rw [List.getElem?_append_right (by omega), ← hv, Nat.sub_self]; rfl, hc, hr, hn, hg⟩
theorem LsL.lsb {W : World} {row : Option Nat} {vs : List Value} {ls : List (List Ent)} (h : LsL W row vs ls) : LsB W W.heap.size vs ls := fun i l hl => by
  obtain ⟨g, ci, h1, h2, h3, -, -⟩ := h i l hl
  refine ⟨_, ci, h1, by omega, ?_⟩
  have h4 := h3.take (l.length * 4)
  unfold lentE at h4
  rw [env_app, List.take_append_of_le_length (by rw [env_len]; exact Nat.le_refl _), List.take_of_length_le (by rw [env_len]; exact Nat.le_refl _)] at h4
  exact h4

set_option maxHeartbeats 6400000 in
theorem blockFolds_walk (w : World) (A : Option Addr) (k c : Nat) (vs : List Value) (ls : List (List Ent)) (hv : vs.length = k) (hl : ls.length = k) (hn : k ≤ 140737488351232) (hs : ∀ l ∈ ls, l.length ≤ 140737488351232) (hr : Rd w w.heap.size A vs) (hls : LsB w w.heap.size vs ls) (K : Option Addr) (nk ck : Nat) (ks : List Int) (hkl : ks.length = nk) (hkc : nk ≤ ck) (hkn : ck ≤ 140737488351232) (hrk : Rd w w.heap.size K (nv ks)) (last : Bool) :
    Calls Try.prog 9 #[.slice A k c, .slice K nk ck, .bool last] w fun e w' => e = .returned (.bool true) ∧ Below w.heap.size w w' := by
  obtain ⟨p, hp⟩ : ∃ p, p = w.heap.size := ⟨_, rfl⟩
  have HP := Lib.hid hp
  rw [← hp] at hr hls hrk
  have hpw : p ≤ w.heap.size := by omega
  have HV := Lib.hid hv
  have HL := Lib.hid hl
  have KL := Lib.hid hkl
  have HR := Lib.hid hr
  have HLS := Lib.hid hls
  have HS := Lib.hid hs
  have HK := Lib.hid hrk
  clear hr hls hv hl hp hs hkl hrk
  go_enter Try.func9, Try.ntmps9
  go_wp2_with fail
  refine (lives07_any w).mono ?_
  rintro e w2 ⟨rfl, hb⟩
  have B2 : Hid (Below p w w2) := Lib.hid (hb.mono hpw)
  have z2 : p ≤ w2.heap.size := Nat.le_trans hpw hb.size
  clear hb
  by_cases hk12 : 12 < k
  · have i8 : (12 : Int) < (k : Int) := by omega
    go_wp2_with fail
    go_ret
    exact ⟨rfl, by rw [← HP.out]; exact B2.out⟩
  have i8 : ¬ (12 : Int) < (k : Int) := by omega
  by_cases hk70 : 70 < nk
  · have i9 : (70 : Int) < (nk : Int) := by omega
    go_wp2_with fail
    go_ret
    exact ⟨rfl, by rw [← HP.out]; exact B2.out⟩
  have i9 : ¬ (70 : Int) < (nk : Int) := by omega
  go_wp2_with fail
  go_loopw [7, 8] (fun s7 s8 wr => ∃ (A7 : Option Addr) (c7 i : Nat) (vs7 : List Value), s7 = .slice A7 i c7 ∧ s8 = .int .i64 (i : Int) ∧ i ≤ k ∧ Hid (∀ (j : Nat) (l : List Ent), j < i → ls[j]? = some l → l.length ≤ 70 ∧ ∀ x ∈ l, x.key.size ≤ 600) ∧ Hid (wr.ownsRow p 22 1 (.slice A7 i c7) i vs7) ∧ Hid (LsL wr (Value.slice A7 i c7).ownBlock vs7 (ls.take i)) ∧ Hid (Below p w wr) ∧ p ≤ wr.heap.size) (fun _ s8 _ => k - (intOf s8).toNat)
  case atStart => exact ⟨none, 0, 0, [], rfl, rfl, Nat.zero_le _, Lib.hid (fun j l h => by omega), Lib.hid (World.ownsRow_nil _ _ _ _), Lib.hid (fun i l h => by simp at h), B2, z2⟩
  case round =>
    clear B2 z2 i8 i9
    obtain ⟨A7, c7, i, vs7, rfl, rfl, hi, HA, N3, L3, B3, z3⟩ := hrel
    obtain ⟨w3, rfl⟩ : ∃ x, x = wr := ⟨_, rfl⟩
    by_cases hlt : i < k
    · obtain ⟨l, hll⟩ : ∃ l, ls[i]? = some l := ⟨_, List.getElem?_eq_getElem (by rw [HL.out]; exact hlt)⟩
      obtain ⟨Ai, ci, hvi, hcl, hri⟩ := HLS.out i l hll
      have hln := HS.out l (List.mem_of_getElem? hll)
      have HLI := Lib.hid hll
      obtain ⟨gl, ol, rfl, hgl, hce⟩ := HR.out.at_ hvi
      have HGL := Lib.hid hce
      have RI := Lib.hid hri
      have i1 : (i : Int) < (k : Int) := by omega
      have i0 : (0 : Int) ≤ (i : Int) := by omega
      have zg : gl < w3.heap.size := by omega
      have ce3 := (B3.out.cell (p := ⟨gl, ol + i, none⟩) hgl).trans HGL.out
      have HO := Lib.hid (small7_any Ai l.length ci l rfl (by omega) p w3 (hri.below B3.out) z3)
      clear hvi hri hll hcl hce
      go_wp2_with fail
      refine HO.out.mono ?_
      rintro e w4 ⟨rfl, hb⟩
      have B4 := Lib.hid (B3.out.trans (hb.mono z3))
      have z4 : p ≤ w4.heap.size := Nat.le_trans z3 hb.size
      have t4 : w3.heap.size ≤ w4.heap.size := hb.size
      clear B3
      have N4 := Lib.hid (own_keep N3.out hb (Nat.le_refl _))
      have L4 := Lib.hid (L3.out.below hb)
      clear N3 L3
      clear hb HO ce3
      cases hsm : smallE l
      · go_wp2_with fail
        go_ret
        exact ⟨rfl, by rw [← HP.out]; exact B4.out⟩
      · have hsb := smallE_b hsm
        have hl70 := hsb.1
        have HA9 : Hid (∀ (j : Nat) (l : List Ent), j < i + 1 → ls[j]? = some l → l.length ≤ 70 ∧ ∀ x ∈ l, x.key.size ≤ 600) := Lib.hid (fun j l' h1 h2 => by
          rcases Nat.lt_or_ge j i with h | h
          · exact HA.out j l' h h2
          · have e : j = i := by omega
            subst e
            rw [HLI.out] at h2
            injection h2 with h2
            rw [← h2]
            exact hsb)
        have n0 : (0 : Int) ≤ (l.length : Int) := by omega
        clear hsm HA hsb
        go_wp2_with fail
        refine wp_heldall (S := fun W => Below p w W) 15 (by kernel_rfl) rfl (B4.out.trans ((Below.drew (Below.refl _ _)).mono z4)) (fun hHeld => ?_)
        refine takeL (i := 0) (v := ?_) rfl (by kernel_rfl) (by kernel_rfl) (by kernel_rfl) (fun _ _ _ h => h) ⟨by rfl, ?_⟩ (by first | assumption | trivial) ?_
        rotate_left
        · intro W9 hSw
          (try dsimp only at hSw)
          go_simp
          try with_reducible rfl
        (try simp only [Act.put, List.setIfInBounds_toArray, List.set_cons_zero, List.set_cons_succ])
        refine takeL (i := 1) (v := ?_) rfl (by kernel_rfl) (by kernel_rfl) (by kernel_rfl) (fun _ _ _ h => h) ⟨by rfl, ?_⟩ (by first | assumption | trivial) ?_
        rotate_left
        · intro W9 hSw
          (try dsimp only at hSw)
          go_simp
          try with_reducible rfl
        (try simp only [Act.put, List.setIfInBounds_toArray, List.set_cons_zero, List.set_cons_succ])
        refine takeL (i := 2) (v := ?_) rfl (by kernel_rfl) (by kernel_rfl) (by kernel_rfl) (fun _ _ _ h => h) ⟨by rfl, ?_⟩ (by first | assumption | trivial) ?_
        rotate_left
        · intro W9 hSw
          (try dsimp only at hSw)
          go_simp
          try with_reducible rfl
        (try simp only [Act.put, List.setIfInBounds_toArray, List.set_cons_zero, List.set_cons_succ])
        refine takeL (i := 3) (v := ?_) rfl (by kernel_rfl) (by kernel_rfl) (by kernel_rfl) (fun _ _ _ h => h) ⟨by rfl, ?_⟩ (by first | assumption | trivial) ?_
        rotate_left
        · intro W9 hSw
          (try dsimp only at hSw)
          go_simp
          try with_reducible rfl
        (try simp only [Act.put, List.setIfInBounds_toArray, List.set_cons_zero, List.set_cons_succ])
        refine takeL (i := 4) (v := ?_) rfl (by kernel_rfl) (by kernel_rfl) (by kernel_rfl) (fun _ _ _ h => h) ⟨by rfl, ?_⟩ (by first | assumption | trivial) ?_
        rotate_left
        · intro W9 hSw
          (try dsimp only at hSw)
          (have y0 := (hSw.cell (p := ⟨gl, ol + i, none⟩) hgl).trans HGL.out; have yl := World.block_lt_of_cell? W9 _ y0)
          go_simp
          try with_reducible rfl
        (try simp only [Act.put, List.setIfInBounds_toArray, List.set_cons_zero, List.set_cons_succ])
        refine takeL (i := 6) (v := ?_) rfl (by kernel_rfl) (by kernel_rfl) (by kernel_rfl) (fun _ _ _ h => h) ⟨by rfl, ?_⟩ (by first | assumption | trivial) ?_
        rotate_left
        · intro W9 hSw
          (try dsimp only at hSw)
          go_simp
          try with_reducible rfl
        (try simp only [Act.put, List.setIfInBounds_toArray, List.set_cons_zero, List.set_cons_succ])
        refine takeL (i := 7) (v := ?_) rfl (by kernel_rfl) (by kernel_rfl) (by kernel_rfl) (fun _ _ _ h => h) ⟨by rfl, ?_⟩ (by first | assumption | trivial) ?_
        rotate_left
        · intro W9 hSw
          (try dsimp only at hSw)
          go_simp
          try with_reducible rfl
        (try simp only [Act.put, List.setIfInBounds_toArray, List.set_cons_zero, List.set_cons_succ])
        refine takeL (i := 8) (v := ?_) rfl (by kernel_rfl) (by kernel_rfl) (by kernel_rfl) (fun _ _ _ h => h) ⟨by rfl, ?_⟩ (by first | assumption | trivial) ?_
        rotate_left
        · intro W9 hSw
          (try dsimp only at hSw)
          go_simp
          try with_reducible rfl
        (try simp only [Act.put, List.setIfInBounds_toArray, List.set_cons_zero, List.set_cons_succ])
        refine takeL (i := 9) (v := ?_) rfl (by kernel_rfl) (by kernel_rfl) (by kernel_rfl) (fun _ _ _ h => h) ⟨by rfl, ?_⟩ (by first | assumption | trivial) ?_
        rotate_left
        · intro W9 hSw
          (try dsimp only at hSw)
          (have y0 := (hSw.cell (p := ⟨gl, ol + i, none⟩) hgl).trans HGL.out; have yl := World.block_lt_of_cell? W9 _ y0)
          go_simp
          try with_reducible rfl
        (try simp only [Act.put, List.setIfInBounds_toArray, List.set_cons_zero, List.set_cons_succ])
        refine takeL (i := 10) (v := ?_) rfl (by kernel_rfl) (by kernel_rfl) (by kernel_rfl) (fun _ _ _ h => h) ⟨by rfl, ?_⟩ (by first | assumption | trivial) ?_
        rotate_left
        · intro W9 hSw
          (try dsimp only at hSw)
          go_simp
          try with_reducible rfl
        (try simp only [Act.put, List.setIfInBounds_toArray, List.set_cons_zero, List.set_cons_succ])
        have SB := Lib.hid hHeld
        clear hHeld
        have hb : Below w4.heap.size w4 w4.drew := Below.drew (Below.refl _ _)
        have NX := Lib.hid (own_keep N4.out hb (Nat.le_refl _))
        have LX := Lib.hid (L4.out.below hb)
        have zX : p ≤ w4.drew.heap.size := z4
        clear hb N4 L4 B4
        generalize w4.drew = Y at *
        refine wpAnyH_ready (rs := [5]) (by kernel_rfl) (by simp) ?_
        refine consL rfl (by rfl) (fun K hK => ?_) ?_
        · go_simp
          refine (lentE_any Ai l.length ci p l rfl (by omega) Y (RI.out.below SB.out) zX).mono ?_
          rintro e w5 ⟨v5, rfl, own5, hb⟩
          obtain ⟨F5, c5, rfl, hc5, -⟩ := own_sl own5
          obtain ⟨g5, rfl⟩ := own_blkC own5 (by omega)
          have SB5' := SB.out.trans (hb.mono zX)
          refine hK.out _ _ SB5' (fun _ => ?_)
          clear hK K
          have O5 := Lib.hid own5
          have SB5 := Lib.hid SB5'
          have N5 := Lib.hid (own_keep NX.out hb (Nat.le_refl _))
          have L5 := Lib.hid (LX.out.below hb)
          have z5 : p ≤ w5.heap.size := Nat.le_trans zX hb.size
          have HNB : Hid ((Value.slice A7 i c7).ownBlock ≠ some g5) := Lib.hid (fun e => by have h1 := (NX.out.lt g5 e).2; have h2 := (O5.out.lt g5 rfl).1; omega)
          have hg5 : g5 < w5.heap.size := (own5.lt g5 rfl).2
          have RL5 : Hid (Rd w5 w5.heap.size (some ⟨g5, 0, none⟩) (env (lentE l))) := Lib.hid (own_rdq own5)
          clear hb SB SB5' NX LX own5 O5
          have n1 : (l.length : Int) ≤ (c5 : Int) := by omega
          have n2 : (l.length : Int) ≤ ((l.length + 3 : Nat) : Int) := by omega
          (try simp only [Act.put, List.setIfInBounds_toArray, List.set_cons_zero, List.set_cons_succ])
          refine takeL (i := 11) (v := ?_) rfl (by kernel_rfl) (by kernel_rfl) (by kernel_rfl) (fun _ _ _ h => h) ⟨by rfl, ?_⟩ (by first | assumption | trivial) ?_
          rotate_left
          · intro W9 hSw
            (try dsimp only at hSw)
            go_simp
            try with_reducible rfl
          (try simp only [Act.put, List.setIfInBounds_toArray, List.set_cons_zero, List.set_cons_succ])
          refine wpAnyH_ready (rs := [12]) (by kernel_rfl) (by simp) ?_
          refine consL rfl (by rfl) (fun K hK => ?_) ?_
          · go_simp
            have hal : Below w5.heap.size w5 (w5.alloc (.cells #[.slice (some ⟨g5, 0, none⟩) l.length c5] 22)) := (Below.refl _ _).alloc (Nat.le_refl _) _
            have N6 := Lib.hid (N5.out.alloc (.cells #[.slice (some ⟨g5, 0, none⟩) l.length c5] 22))
            have L6 := Lib.hid (L5.out.below hal)
            have RL6 := Lib.hid ((RL5.out.below hal).more hal.size)
            have RN : Hid (Rd (w5.alloc (.cells #[.slice (some ⟨g5, 0, none⟩) l.length c5] 22)) (w5.alloc (.cells #[.slice (some ⟨g5, 0, none⟩) l.length c5] 22)).heap.size (some ⟨w5.heap.size, 0, none⟩) [.slice (some ⟨g5, 0, none⟩) l.length c5]) := Lib.hid (rd_frC _ _ _ _)
            have SB6' := SB5.out.trans (hal.mono z5)
            have z6 : p ≤ (w5.alloc (.cells #[.slice (some ⟨g5, 0, none⟩) l.length c5] 22)).heap.size := Nat.le_trans z5 hal.size
            have hg6 : g5 < (w5.alloc (.cells #[.slice (some ⟨g5, 0, none⟩) l.length c5] 22)).heap.size := Nat.lt_of_lt_of_le hg5 hal.size
            refine hK.out _ _ SB6' (fun _ => ?_)
            clear hK K
            have SB6 := Lib.hid SB6'
            clear hal N5 L5 RL5 SB5 SB6' z5 hg5
            (try simp only [Act.put, List.setIfInBounds_toArray, List.set_cons_zero, List.set_cons_succ])
            generalize w5.alloc (.cells #[.slice (some ⟨g5, 0, none⟩) l.length c5] 22) = w6 at *
            generalize w5.heap.size = by_ at *
            refine wpAnyH_ready (rs := [13]) (by kernel_rfl) (by simp) ?_
            refine consL rfl (by rfl) (fun K hK => ?_) ?_
            · refine wp_app styEE (.tmp 38) (.tmp 50) rfl p N6.out rfl 1 1 RN.out rfl rfl (by simp [Value.oneCell']) (by unfold maxLen; omega) (by omega) z6 ?_
              intro v9 w7 own9 gr9 nil9 at9
              have hbl : Below p w6 w7 := (Below.refl _ _).grown gr9 z6 (fun g e => (N6.out.lt g e).1)
              have SB7' := SB6.out.trans hbl
              refine hK.out _ _ SB7' (fun _ => ?_)
              obtain ⟨A9, c9, rfl, -, -⟩ := own_sl own9
              have HVL : Hid (vs7.length = (ls.take i).length) := Lib.hid (by
                have := N6.out.1
                rw [List.length_take, HL.out]
                omega)
              have L7 : Hid (LsL w7 (Value.slice A9 (i + 1) c9).ownBlock (vs7 ++ [.slice (some ⟨g5, 0, none⟩) l.length c5]) (ls.take (i + 1))) := Lib.hid (by
                have h1 := (L6.out.snoc HVL.out (by omega) RL6.out HNB.out hg6).row (row' := (Value.slice A9 (i + 1) c9).ownBlock) (fun g hg => by
                  rcases at9 with h | h
                  · exact .inl (h.symm.trans hg)
                  · rw [hg] at h
                    injection h with h
                    exact .inr (by omega))
                have h2 : LsL w7 (Value.slice A9 (i + 1) c9).ownBlock (vs7 ++ [.slice (some ⟨g5, 0, none⟩) l.length c5]) (ls.take i ++ [l]) := fun j l' hl' => by
                  obtain ⟨g, ci', q1, q2, q3, q4, q5⟩ := h1 j l' hl'
                  have q6 : (Value.slice A7 i c7).ownBlock ≠ some g := by
                    obtain ⟨g', ci'', r1, r2, r3, r4, r5⟩ := (L6.out.snoc HVL.out (by omega) RL6.out HNB.out hg6) j l' hl'
                    rw [q1] at r1
                    injection r1 with r1
                    injection r1 with r1
                    injection r1 with r1
                    injection r1 with r1
                    exact r1 ▸ r4
                  exact ⟨g, ci', q1, q2, rd_grown q3 gr9 (fun g' o e => by injection e with e; injection e with e; exact e ▸ q6), q4, Nat.lt_of_lt_of_le q5 gr9.size⟩
                rw [List.take_add_one, HLI.out]
                exact h2)
              have N7 := Lib.hid own9
              have z7 : p ≤ w7.heap.size := Nat.le_trans z6 gr9.size
              have SB7 := Lib.hid SB7'
              clear hK K hbl own9 gr9 nil9 at9 N6 L6 RL6 RN SB6 SB7' z6 hg6 HNB
              (try simp only [Act.put, List.setIfInBounds_toArray, List.set_cons_zero, List.set_cons_succ])
              refine takeL (i := 14) (v := ?_) rfl (by kernel_rfl) (by kernel_rfl) (by kernel_rfl) (fun _ _ _ h => h) ⟨by rfl, ?_⟩ (by first | assumption | trivial) ?_
              rotate_left
              · intro W9 hSw
                (try dsimp only at hSw)
                go_simp
                try with_reducible rfl
              (try simp only [Act.put, List.setIfInBounds_toArray, List.set_cons_zero, List.set_cons_succ])
              refine wpAnyH_done (by kernel_rfl) ?_ _
              go_wp2_with fail
              go_roundw
              case rel => exact ⟨A9, c9, i + 1, _, rfl, by go_num, by omega, HA9, N7, L7, SB7, z7⟩
              case measure => simp [intOf]; omega
            · exact AllReadyH.nil
          · exact AllReadyH.nil
        · exact AllReadyH.nil
    · obtain rfl : i = k := by omega
      have i1 : ¬ (i : Int) < (i : Int) := by omega
      have h70 : Hid (∀ l ∈ ls, l.length ≤ 70 ∧ ∀ x ∈ l, x.key.size ≤ 600) := Lib.hid (fun l hl => by
        obtain ⟨j, hj⟩ := List.mem_iff_getElem?.1 hl
        exact HA.out j l (by have := (List.getElem?_eq_some_iff.1 hj).1; have := HL.out; omega) hj)
      have htot : totL ls ≤ 840 := by
        have h1 := tot_le (b := 70) (ls := ls) (fun l hl => (h70.out l hl).1)
        have h2 : ls.length * 70 ≤ 12 * 70 := Nat.mul_le_mul_right _ (by rw [HL.out]; omega)
        omega
      have htk : ls.take i = ls := List.take_of_length_le (by rw [HL.out]; omega)
      rw [htk] at L3
      have HRI := Lib.hid (mrgL_ris ls)
      have HLN : Hid ((mrgL ls).length ≤ 840) := Lib.hid (Nat.le_trans (mrgL_len ls) htot)
      have HKS : Hid (∀ x ∈ mrgL ls, x.key.size ≤ 600) := Lib.hid (fun x hx => by
        obtain ⟨l, h1, h2⟩ := mrgL_mem hx
        exact (h70.out l h1).2 x h2)
      have hv7 := N3.out.1
      have HM1 := Lib.hid (fun (A' : Option Addr) (c' : Nat) (vs' : List Value) (W : World) (h1 : vs'.length = i) h2 h3 => merge_any A' i c' vs' ls h1 HL.out (by omega) (by omega) W h2 h3)
      have HM2 := Lib.hid (fun W h2 h3 => rmerge_any A i c vs ls HV.out HL.out (by omega) (by omega) W h2 h3)
      obtain ⟨E, hE⟩ : ∃ E, E = mrgE ls := ⟨_, rfl⟩
      obtain ⟨L, hL⟩ : ∃ L, L = mrgL ls := ⟨_, rfl⟩
      rw [← hE, ← hL] at HM1 HM2
      rw [← hL] at HRI HLN HKS
      clear hE hL hlt HA htk
      have hL840 := HLN.out
      go_wp2_with fail
      refine (lentI_any K nk ck p ks KL.out (by omega) w3 (HK.out.below B3.out) z3).mono ?_
      rintro e w4 ⟨v4, rfl, own4, hb⟩
      obtain ⟨A9, c9, rfl, hc9, -⟩ := own_sl own4
      have OI4 := Lib.hid own4
      have B4 := Lib.hid (B3.out.trans (hb.mono z3))
      have z4 : p ≤ w4.heap.size := Nat.le_trans z3 hb.size
      have t4 : w3.heap.size ≤ w4.heap.size := hb.size
      clear B3
      have N4 := Lib.hid (own_keep N3.out hb (Nat.le_refl _))
      have L4 := Lib.hid (L3.out.below hb)
      clear N3 L3
      clear hb own4
      go_wp2_with fail
      have HN4 : Hid (∀ g, (Value.slice A7 i c7).ownBlock = some g → g < w4.heap.size) := Lib.hid (fun g h => (N4.out.lt g h).2)
      refine (HM1.out A7 c7 vs7 w4 (by omega) (own_rdq N4.out) L4.out.lsb).mono ?_
      rintro e w5 ⟨v5, rfl, own5, hb⟩
      obtain ⟨A10, c10, rfl, hc10, -⟩ := own_sl own5
      have OA5 := Lib.hid own5
      have HAL : Hid (∀ g, (Value.slice A10 L.length c10).ownBlock = some g → w4.heap.size ≤ g) := Lib.hid (fun g h => (own5.lt g h).1)
      have B5 := Lib.hid (B4.out.trans (hb.mono z4))
      have z5 : p ≤ w5.heap.size := Nat.le_trans z4 hb.size
      have t5 : w4.heap.size ≤ w5.heap.size := hb.size
      clear B4
      have N5 := Lib.hid (own_keep N4.out hb (Nat.le_refl _))
      have L5 := Lib.hid (L4.out.below hb)
      clear N4 L4
      have OI5 := Lib.hid (own_keep OI4.out hb (Nat.le_refl _))
      clear OI4
      clear hb own5 HM1
      go_wp2_with fail
      refine (HM2.out w5 ((HR.out.below B5.out).more z5) ((HLS.out.below B5.out).more z5)).mono ?_
      rintro e w6 ⟨v6, rfl, own6, hb⟩
      obtain ⟨A12, c12, rfl, hc12, hr12⟩ := own_sl own6
      have RB6 := Lib.hid hr12
      have B6 := Lib.hid (B5.out.trans (hb.mono z5))
      have z6 : p ≤ w6.heap.size := Nat.le_trans z5 hb.size
      have t6 : w5.heap.size ≤ w6.heap.size := hb.size
      clear B5
      have N6 := Lib.hid (own_keep N5.out hb (Nat.le_refl _))
      have L6 := Lib.hid (L5.out.below hb)
      clear N5 L5
      have OI6 := Lib.hid (own_keep OI5.out hb (Nat.le_refl _))
      clear OI5
      have OA6 := Lib.hid (own_keep OA5.out hb (Nat.le_refl _))
      clear OA5
      clear hb own6 HM2 hr12
      go_wp2_with fail
      refine (sameE_any A10 A12 L.length L.length c10 c12 _ _ L L rfl rfl (by omega) w6 (own_rdq OA6.out) (Nat.le_refl _) RB6.out (Nat.le_refl _)).mono ?_
      rintro e w7 ⟨rfl, hb⟩
      rw [decide_eq_true rfl]
      have B7 := Lib.hid (B6.out.trans (hb.mono z6))
      have z7 : p ≤ w7.heap.size := Nat.le_trans z6 hb.size
      have t7 : w6.heap.size ≤ w7.heap.size := hb.size
      clear B6
      have N7 := Lib.hid (own_keep N6.out hb (Nat.le_refl _))
      have L7 := Lib.hid (L6.out.below hb)
      clear N6 L6
      have OI7 := Lib.hid (own_keep OI6.out hb (Nat.le_refl _))
      clear OI6
      have OA7 := Lib.hid (own_keep OA6.out hb (Nat.le_refl _))
      clear OA6
      have RB7 := Lib.hid ((RB6.out.below hb).more hb.size)
      clear RB6
      clear hb
      have HN7 : Hid (∀ g, (Value.slice A7 i c7).ownBlock = some g → g < w7.heap.size) := Lib.hid (fun g h => (N7.out.lt g h).2)
      have HAB : Hid (∀ g, (Value.slice A10 L.length c10).ownBlock = some g → g < w7.heap.size) := Lib.hid (fun g h => (OA7.out.lt g h).2)
      have HLB : Hid (∀ (j : Nat) (l : List Ent) (g ci : Nat), ls[j]? = some l → vs7[j]? = some (Value.slice (some ⟨g, 0, none⟩) l.length ci) → g < w7.heap.size) := Lib.hid (fun j l g ci h1 h2 => by
        obtain ⟨g', ci', q1, -, -, -, q5⟩ := L7.out j l h1
        rw [q1] at h2
        injection h2 with h2
        injection h2 with h2
        injection h2 with h2
        injection h2 with h2
        exact h2 ▸ q5)
      have m0 : (0 : Int) ≤ (nk : Int) := by omega
      have m1 : (nk : Int) ≤ (c9 : Int) := by omega
      go_wp2_with fail
      refine (fold_any A10 L.length c10 L rfl (by omega) A9 nk c9 ks KL.out (by omega) last w7.heap.size w7 (own_rdq OA7.out) (by
        have h := (own_rdq OI7.out).take nk
        rw [← KL.out, lentI_take] at h
        exact h) (Nat.le_refl _)).mono ?_
      rintro e w8 ⟨v8, rfl, own8, hb⟩
      have hfl := fold_len L ks last
      have HFK : Hid (∀ x ∈ foldE L ks last, x.key.size ≤ 1000000) := Lib.hid (fun x hx => by have := HKS.out x ((fold_sub L ks last).subset hx); omega)
      have HRF := Lib.hid (fun W h1 h2 => rfold_any A12 L.length c12 L rfl (by omega) HRI.out K nk ck ks KL.out (by omega) last W.heap.size W h1 h2 (Nat.le_refl _))
      obtain ⟨M, hM⟩ : ∃ M, M = foldE L ks last := ⟨_, rfl⟩
      rw [← hM] at own8 HFK HRF hfl
      clear hM
      obtain ⟨A14, c14, rfl, hc14, -⟩ := own_sl own8
      have OM8 := Lib.hid own8
      have HMB := Lib.hid (fun g (h : (Value.slice A14 M.length c14).ownBlock = some g) => own8.lt g h)
      have B8 := Lib.hid (B7.out.trans (hb.mono z7))
      have z8 : p ≤ w8.heap.size := Nat.le_trans z7 hb.size
      have t8 : w7.heap.size ≤ w8.heap.size := hb.size
      clear B7
      have N8 := Lib.hid (own_keep N7.out hb (Nat.le_refl _))
      have L8 := Lib.hid (L7.out.below hb)
      clear N7 L7
      have OI8 := Lib.hid (own_keep OI7.out hb (Nat.le_refl _))
      clear OI7
      have OA8 := Lib.hid (own_keep OA7.out hb (Nat.le_refl _))
      clear OA7
      have RB8 := Lib.hid ((RB7.out.below hb).more hb.size)
      clear RB7
      clear hb own8
      go_wp2_with fail
      refine (sameE_any A10 A12 L.length L.length c10 c12 _ _ L L rfl rfl (by omega) w8 (own_rdq OA8.out) (Nat.le_refl _) RB8.out (Nat.le_refl _)).mono ?_
      rintro e w9 ⟨rfl, hb⟩
      rw [decide_eq_true rfl]
      have B9 := Lib.hid (B8.out.trans (hb.mono z8))
      have z9 : p ≤ w9.heap.size := Nat.le_trans z8 hb.size
      have t9 : w8.heap.size ≤ w9.heap.size := hb.size
      clear B8
      have N9 := Lib.hid (own_keep N8.out hb (Nat.le_refl _))
      have L9 := Lib.hid (L8.out.below hb)
      clear N8 L8
      have OI9 := Lib.hid (own_keep OI8.out hb (Nat.le_refl _))
      clear OI8
      have OA9 := Lib.hid (own_keep OA8.out hb (Nat.le_refl _))
      clear OA8
      have OM9 := Lib.hid (own_keep OM8.out hb (Nat.le_refl _))
      clear OM8
      have RB9 := Lib.hid ((RB8.out.below hb).more hb.size)
      clear RB8
      clear hb
      go_wp2_with fail
      refine (HRF.out w9 RB9.out ((HK.out.below B9.out).more z9)).mono ?_
      rintro e w10 ⟨v10, rfl, own10, hb⟩
      obtain ⟨A15, c15, rfl, hc15, hr15⟩ := own_sl own10
      have RM10 := Lib.hid hr15
      have B10 := Lib.hid (B9.out.trans (hb.mono z9))
      have z10 : p ≤ w10.heap.size := Nat.le_trans z9 hb.size
      have t10 : w9.heap.size ≤ w10.heap.size := hb.size
      clear B9
      have N10 := Lib.hid (own_keep N9.out hb (Nat.le_refl _))
      have L10 := Lib.hid (L9.out.below hb)
      clear N9 L9
      have OI10 := Lib.hid (own_keep OI9.out hb (Nat.le_refl _))
      clear OI9
      have OA10 := Lib.hid (own_keep OA9.out hb (Nat.le_refl _))
      clear OA9
      have OM10 := Lib.hid (own_keep OM9.out hb (Nat.le_refl _))
      clear OM9
      clear hb own10 hr15 HRF RB9
      go_wp2_with fail
      refine (sameE_any A14 A15 M.length M.length c14 c15 _ _ M M rfl rfl (by omega) w10 (own_rdq OM10.out) (Nat.le_refl _) RM10.out (Nat.le_refl _)).mono ?_
      rintro e w11 ⟨rfl, hb⟩
      rw [decide_eq_true rfl]
      have B11 := Lib.hid (B10.out.trans (hb.mono z10))
      have z11 : p ≤ w11.heap.size := Nat.le_trans z10 hb.size
      have t11 : w10.heap.size ≤ w11.heap.size := hb.size
      clear B10
      have N11 := Lib.hid (own_keep N10.out hb (Nat.le_refl _))
      have L11 := Lib.hid (L10.out.below hb)
      clear N10 L10
      have OI11 := Lib.hid (own_keep OI10.out hb (Nat.le_refl _))
      clear OI10
      have OA11 := Lib.hid (own_keep OA10.out hb (Nat.le_refl _))
      clear OA10
      have OM11 := Lib.hid (own_keep OM10.out hb (Nat.le_refl _))
      clear OM10
      clear hb RM10
      go_wp2_with fail
      refine (keptI_any A9 K (nk + 3) nk c9 ck _ _ (lentI ks) ks (by rw [lentI_length, KL.out]) KL.out (by omega) (by omega) w11 (own_rdq OI11.out) (Nat.le_refl _) (HK.out.below B11.out) z11).mono ?_
      rintro e w12 ⟨rfl, hb⟩
      rw [decide_eq_true rfl]
      have B12 := Lib.hid (B11.out.trans (hb.mono z11))
      have z12 : p ≤ w12.heap.size := Nat.le_trans z11 hb.size
      have t12 : w11.heap.size ≤ w12.heap.size := hb.size
      clear B11
      have N12 := Lib.hid (own_keep N11.out hb (Nat.le_refl _))
      have L12 := Lib.hid (L11.out.below hb)
      clear N11 L11
      have OA12 := Lib.hid (own_keep OA11.out hb (Nat.le_refl _))
      clear OA11
      have OM12 := Lib.hid (own_keep OM11.out hb (Nat.le_refl _))
      clear OM11
      clear hb OI11
      go_wp2_with fail
      go_loopw [15] (fun s15 wr => ∃ j : Nat, s15 = .int .i64 (j : Int) ∧ j ≤ i ∧ Hid (Below w12.heap.size w12 wr)) (fun s15 _ => i - (intOf s15).toNat)
      case atStart => exact ⟨0, rfl, Nat.zero_le _, Lib.hid (Below.refl _ _)⟩
      case round =>
        obtain ⟨j, rfl, hj, BL⟩ := hrel
        obtain ⟨w13, rfl⟩ : ∃ x, x = wr := ⟨_, rfl⟩
        have hb := BL.out
        have B13 := Lib.hid (B12.out.trans (hb.mono z12))
        have z13 : p ≤ w13.heap.size := Nat.le_trans z12 hb.size
        have t13 : w12.heap.size ≤ w13.heap.size := hb.size
        have N13 := Lib.hid (own_keep N12.out hb (Nat.le_refl _))
        have L13 := Lib.hid (L12.out.below hb)
        have OA13 := Lib.hid (own_keep OA12.out hb (Nat.le_refl _))
        have OM13 := Lib.hid (own_keep OM12.out hb (Nat.le_refl _))
        clear hb
        by_cases hlt : j < i
        · obtain ⟨l, hll⟩ : ∃ l, ls[j]? = some l := ⟨_, List.getElem?_eq_getElem (by rw [HL.out]; exact hlt)⟩
          obtain ⟨Ai, ci, hvi, hcl, hri⟩ := HLS.out j l hll
          obtain ⟨g, cg, hvg, hcg, hrg, -, hg13⟩ := L13.out j l hll
          have hl70 := (h70.out l (List.mem_of_getElem? hll)).1
          obtain ⟨gl, ol, rfl, hgl, hce⟩ := (HR.out.below B13.out).at_ hvi
          obtain ⟨g7, rfl⟩ := own_blkC N13.out (by have := (own_caps N13.out).1; omega)
          have hc7 := N13.out.cellAt j (by omega)
          rw [hvg] at hc7
          have zg7 := (N13.out.lt g7 rfl).2
          have HQ := Lib.hid (fun W (h : Below w13.heap.size w13 W) => keptE_any (some ⟨g, 0, none⟩) Ai (l.length + 3) l.length cg ci w13.heap.size p (lentE l) l (by rw [lentE_length]) rfl (by omega) (by omega) W (hrg.below h) h.size (hri.below (B13.out.trans (h.mono z13))) (Nat.le_trans z13 h.size))
          rw [decide_eq_true rfl] at HQ
          have i2 : (j : Int) < (i : Int) := by omega
          have i3 : (0 : Int) ≤ (j : Int) := by omega
          have n1 : (l.length : Int) + 3 ≤ (cg : Int) := by omega
          have n2 : (0 : Int) ≤ (l.length : Int) + 3 := by omega
          have zgl : gl < w13.heap.size := by omega
          clear hll hvi hvg hrg hri N13 L13 OA13 OM13
          go_wp2_with fail
          refine wp_qall (by kernel_rfl) (by kernel_rfl) ?_
          intro hcg
          repeat (first | go_big_quiet_step ((with_reducible (exact Calls.reg (HQ.out _ (below_regrown _ _ _))))) | quiet_step ((with_reducible (exact Calls.reg (HQ.out _ (below_regrown _ _ _))))))
          refine wpQuiet_nil ?_
          intro wq hbwq hcwq hfwq
          clear hcg
          have B9 := Lib.hid (BL.out.trans (hbwq.mono BL.out.size))
          clear hbwq hcwq hfwq
          go_wp2_with fail
          go_roundw
          case rel => exact ⟨j + 1, by go_num, by omega, B9⟩
          case measure => simp [intOf]; omega
        · have i2 : ¬ (j : Int) < (i : Int) := by omega
          have HNN : Hid (∀ g, (Value.slice A14 M.length c14).ownBlock = some g → (Value.slice A7 i c7).ownBlock ≠ some g) := Lib.hid (fun g h1 h2 => by have h3 := (HMB.out g h1).1; have h4 := HN7.out g h2; omega)
          have HNA : Hid (∀ g, (Value.slice A10 L.length c10).ownBlock = some g → (Value.slice A14 M.length c14).ownBlock ≠ some g) := Lib.hid (fun g h1 h2 => by have h3 := (HMB.out g h2).1; have h4 := HAB.out g h1; omega)
          have HNA2 : Hid (∀ g, (Value.slice A10 L.length c10).ownBlock = some g → (Value.slice A7 i c7).ownBlock ≠ some g) := Lib.hid (fun g h1 h2 => by have h3 := HAL.out g h1; have h4 := HN4.out g h2; omega)
          have HML : Hid (∀ g, (Value.slice A14 M.length c14).ownBlock = some g → g < w13.heap.size) := Lib.hid (fun g h => (OM13.out.lt g h).2)
          clear hlt N12 L12 OA12 OM12 BL B12
          go_wp2_with (at_builtin; refine wpList_app styEE (.tmp 123) (.tmp 125) rfl rfl p (N13.out.alloc _) rfl 1 1 (rd_frC _ _ _ _) rfl rfl (by simp [Value.oneCell']) (by unfold maxLen; omega) (by omega) (by rw [World.size_alloc]; omega) ?_; intro v9 w15 own9 gr9 nil9 at9; obtain ⟨A16, c16, rfl, -, -⟩ := own_sl own9)
          have hal : Below w13.heap.size w13 (w13.alloc (.cells #[.slice A10 L.length c10] 22)) := (Below.refl _ _).alloc (Nat.le_refl _) _
          have hbl : Below p w13 w15 := (hal.mono z13).grown gr9 (by rw [World.size_alloc]; omega) (fun g e => (N13.out.lt g e).1)
          have B15 := Lib.hid (B13.out.trans hbl)
          have z15 : p ≤ w15.heap.size := Nat.le_trans z13 hbl.size
          have OM15 := Lib.hid ((own_keep OM13.out hal (Nat.le_refl _)).kept gr9 (by
            cases h : (Value.slice A14 M.length c14).ownBlock with
            | none => exact .inl rfl
            | some g => exact .inr (fun e => HNN.out g h e.symm)))
          have OA15 := Lib.hid ((own_keep OA13.out hal (Nat.le_refl _)).kept gr9 (by
            cases h : (Value.slice A10 L.length c10).ownBlock with
            | none => exact .inl rfl
            | some g => exact .inr (fun e => HNA2.out g h e.symm)))
          have L15 := Lib.hid ((L13.out.below hal).grown gr9)
          have O15 := Lib.hid own9
          have HHS : Hid (∀ l ∈ ls ++ [L], l.length ≤ 1000000) := Lib.hid (fun l hl => by
            rcases List.mem_append.1 hl with h | h
            · have := (h70.out l h).1; omega
            · rw [List.mem_singleton.1 h]; omega)
          have HNR : Hid (∀ g o, A16 = some ⟨g, o, none⟩ → (Value.slice A14 M.length c14).ownBlock ≠ some g) := Lib.hid (fun g o h1 h2 => by
            have h3 : (Value.slice A16 (i + 1) c16).ownBlock = some g := by rw [h1]; rfl
            rcases at9 with h | h
            · exact HNN.out g h2 (h.symm.trans h3)
            · rw [h3] at h
              injection h with h
              have h4 := HML.out g h2
              rw [World.size_alloc] at h
              omega)
          have HV7 : Hid (vs7.length = ls.length) := Lib.hid (by rw [HL.out]; have := N13.out.1; omega)
          have HLR : Hid (LsR w15 (Value.slice A14 M.length c14).ownBlock (vs7 ++ [.slice A10 L.length c10]) (ls ++ [L])) := Lib.hid (fun j' l hl => by
            rcases Nat.lt_or_ge j' ls.length with h1 | h1
            · rw [List.getElem?_append_left h1] at hl
              obtain ⟨g, ci, q1, q2, q3, -, -⟩ := L15.out j' l hl
              obtain ⟨Ai', ci', r1, r2, r3⟩ := L15.out.lsb j' l hl
              rw [q1] at r1
              injection r1 with r1
              injection r1 with r4 r5 r6
              subst r4 r6
              refine ⟨some ⟨g, 0, none⟩, ci, by rw [List.getElem?_append_left (by rw [HV7.out]; exact h1)]; exact q1, r3, fun g' o e e2 => ?_⟩
              injection e with e
              injection e with e
              have h3 := (HMB.out g' e2).1
              have h4 := HLB.out j' l g ci hl q1
              omega
            · have hi : j' = ls.length := by
                have := (List.getElem?_eq_some_iff.1 hl).1
                rw [List.length_append, List.length_cons, List.length_nil] at this
                omega
              subst hi
              rw [List.getElem?_append_right (Nat.le_refl _), Nat.sub_self] at hl
              have hl : L = l := by simpa using hl
              subst hl
              exact ⟨A10, c10, by rw [List.getElem?_append_right (by rw [HV7.out]; exact Nat.le_refl _), HV7.out, Nat.sub_self]; rfl, own_rdq OA15.out, fun g o e e2 => HNA.out g (by rw [e]; rfl) e2⟩)
          clear hal hbl own9 gr9 nil9 at9 N13 L13 OA13 OM13 B13
          refine (apartE_any A14 M.length c14 w7.heap.size M A16 (i + 1) c16 (vs7 ++ [.slice A10 L.length c10]) (ls ++ [L]) rfl (by omega) (by omega) (by rw [List.length_append, HV7.out, HL.out]; rfl) (by rw [List.length_append, HL.out]; rfl) HHS.out HFK.out w15 OM15.out (own_rdq O15.out) HNR.out HLR.out).mono ?_
          rintro e w16 ⟨rfl, gr⟩
          have BF := Lib.hid (B15.out.grown gr z15 (fun g hg => by have := (HMB.out g hg).1; omega))
          clear gr
          go_wp2_with fail
          go_ret
          exact ⟨rfl, by rw [← HP.out]; exact BF.out⟩

theorem blockFolds_law (w : World) (x : EntssArg w) (_ : True) (k : IntsArg w) (_ : True) (last : Bool) :
    Calls Try.prog 9 #[.slice x.A x.n x.c, .slice k.A k.n k.c, .bool last] w fun e w' => e = .returned (.bool true) ∧ Below w.heap.size w w' :=
  blockFolds_walk w x.A x.n x.c x.vs x.ls x.hv x.hl (Nat.le_trans x.hc x.hn) x.hs x.rd x.lsb k.A k.n k.c k.l k.hl k.hc k.hn k.rd last
end Go.Proofs.Ytmcpjpkidcbgiaa
