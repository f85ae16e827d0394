/- A memtable by what it tells. -/
import Derived.Test.YtjhgbdeadkoegaaLm
namespace Go.Proofs.Ytjhgbdeadkoegaa
open Go.RowKit Go.St Go.Shelf Go.Maps
set_option linter.unusedVariables false
set_option linter.unusedSimpArgs false
set_option maxRecDepth 100000

/-- A memtable: its entries with their towers; its blocks are of S. -/
def Mt (W : World) (S : Nat → Prop) (T : Nat) (hs : List Int) (L : List Ld) : Prop := ∃ p A k c N, Tbl W p T A k c hs N (N.length : Int) (szL L) ∧ ordN N ∧ nds N = L ∧ (∀ x ∈ L, okE x.1 = true) ∧ S T ∧ (∀ n ∈ N, S n.g) ∧ (∀ g, (Value.slice A k c).ownBlock = some g → S g)
/-- Other blocks lie as they lay. -/
structure Oth (S : Nat → Prop) (w w' : World) : Prop where
  os : w'.os = w.os
  tape : w'.tape = w.tape
  output : w'.output = w.output
  size : w.heap.size ≤ w'.heap.size
  block : ∀ g, g < w.heap.size → ¬ S g → w'.heap[g]? = w.heap[g]?
theorem Oth.of {S : Nat → Prop} {w w' : World} (h : Below w.heap.size w w') : Oth S w w' := ⟨h.os, h.tape, h.output, h.size, fun g hg _ => h.block g hg⟩
theorem Oth.frt {S : Nat → Prop} {l : List Nat} {w w' : World} (h : FrT l w w') (hs : ∀ g ∈ l, S g) : Oth S w w' := ⟨h.os, h.tape, h.output, h.size, fun g hg hn => h.block g hg (fun hm => hn (hs g hm))⟩
theorem Oth.trans {S S' : Nat → Prop} {w w' w'' : World} (h : Oth S w w') (h2 : Oth S' w' w'') (hs : ∀ g, g < w.heap.size → S' g → S g) : Oth S w w'' :=
  ⟨h2.os.trans h.os, h2.tape.trans h.tape, h2.output.trans h.output, Nat.le_trans h.size h2.size, fun g hg hn => (h2.block g (Nat.lt_of_lt_of_le hg h.size) (fun h3 => hn (hs g hg h3))).trans (h.block g hg hn)⟩
theorem Oth.below {S : Nat → Prop} {w w' : World} (h : Oth S w w') {B : Nat} (hB : B ≤ w.heap.size) (hs : ∀ g, g < B → ¬ S g) : Below B w w' := ⟨h.os, h.tape, h.output, h.size, fun g hg => h.block g (Nat.lt_of_lt_of_le hg hB) (hs g hg)⟩
theorem bxv_blk {W W' : World} {b : Nat} {xs : List Value} (h : BxV W b xs) (hs : W.heap.size ≤ W'.heap.size) (hb : W'.heap[b]? = W.heap[b]?) : BxV W' b xs :=
  ⟨Nat.lt_of_lt_of_le h.lt hs, fun o => (World.frozen?_of_block (a := ⟨b, o, none⟩) hb).trans (h.fz o), fun i v hv => (World.cell?_of_block (a := ⟨b, i, none⟩) hb).trans (h.c i v hv)⟩
theorem Mt.keep {W W' : World} {S : Nat → Prop} {T : Nat} {hs : List Int} {L : List Ld} (h : Mt W S T hs L) (hz : W.heap.size ≤ W'.heap.size) (hk : ∀ g, S g → g < W.heap.size → W'.heap[g]? = W.heap[g]?) : Mt W' S T hs L := by
  obtain ⟨p, A, k, c, N, t, h1, h2, h3, h4, h5, h6⟩ := h
  refine ⟨p, A, k, c, N, ⟨bxv_blk t.hd hz (hk _ h4 t.hd.lt), fun i n hn => bxv_blk (t.nd i n hn) hz (hk _ (h5 n (List.mem_of_getElem? hn)) (t.nd i n hn).lt), t.dis, ownsRow_of t.row (fun g hg => hk g (h6 g hg) (t.row.lt g hg).2), t.rowT, t.lo, t.hs12, t.full⟩, h1, h2, h3, h4, h5, h6⟩
theorem Mt.next {W W' : World} {S : Nat → Prop} {T : Nat} {hs : List Int} {L : List Ld} (h : Mt W S T hs L) (hb : Below W.heap.size W W') : Mt W' S T hs L := h.keep hb.size (fun g _ hg => hb.block g hg)
theorem Mt.oth {W W' : World} {S S' : Nat → Prop} {T : Nat} {hs : List Int} {L : List Ld} (h : Mt W S T hs L) (ho : Oth S' W W') (hd : ∀ g, S g → ¬ S' g) : Mt W' S T hs L := h.keep ho.size (fun g h1 h2 => ho.block g h2 (hd g h1))
theorem Mt.mono {W : World} {S S' : Nat → Prop} {T : Nat} {hs : List Int} {L : List Ld} (h : Mt W S T hs L) (hs' : ∀ g, S g → S' g) : Mt W S' T hs L := by
  obtain ⟨p, A, k, c, N, t, h1, h2, h3, h4, h5, h6⟩ := h
  exact ⟨p, A, k, c, N, t, h1, h2, h3, hs' _ h4, fun n hn => hs' _ (h5 n hn), fun g hg => hs' _ (h6 g hg)⟩
theorem Mt.itr {W : World} {S : Nat → Prop} {T : Nat} {hs : List Int} {L : List Ld} (h : Mt W S T hs L) : Itr W (some ⟨T, 0, none⟩) (L.map Prod.fst) := by
  obtain ⟨p, A, k, c, N, t, h1, rfl, h3, h4, h5, h6⟩ := h
  exact .inr ⟨p, T, A, k, c, hs, N, _, _, rfl, t, nds_fst N⟩
theorem Mt.ok {W : World} {S : Nat → Prop} {T : Nat} {hs : List Int} {L : List Ld} (h : Mt W S T hs L) : ∀ x ∈ L, okE x.1 = true := by
  obtain ⟨p, A, k, c, N, t, h1, h2, h3, h4, h5, h6⟩ := h
  exact h3
theorem Mt.ord {W : World} {S : Nat → Prop} {T : Nat} {hs : List Int} {L : List Ld} (h : Mt W S T hs L) : ordL L := by
  obtain ⟨p, A, k, c, N, t, h1, rfl, h3, h4, h5, h6⟩ := h
  exact (nds_ord N).2 h1
theorem Mt.tow {W : World} {S : Nat → Prop} {T : Nat} {hs : List Int} {L : List Ld} (h : Mt W S T hs L) : ∀ x ∈ L, 1 ≤ x.2 ∧ x.2 ≤ 12 := by
  obtain ⟨p, A, k, c, N, t, h1, rfl, h3, h4, h5, h6⟩ := h
  intro x hx
  obtain ⟨n, hn, rfl⟩ := List.mem_map.1 hx
  have := t.full n hn
  exact ⟨this.2.1, this.2.2⟩
theorem mnew_any (K : Option Addr) (k c B : Nat) (hs : List Int) (hl : hs.length = k) (hk : k ≤ 1000000) (w : World) (hr : Rd w B K (nv hs)) (hB : B ≤ w.heap.size) :
    Calls Try.prog 11 #[.slice K k c] w fun e w' => ((okH hs = false ∧ e = .returned (.tuple #[.pointer none, .int .i64 2])) ∨ (okH hs = true ∧ ∃ T, e = .returned (.tuple #[.pointer (some ⟨T, 0, none⟩), .int .i64 0]) ∧ Mt w' (fun g => w.heap.size ≤ g ∧ g < w'.heap.size) T hs [])) ∧ Below w.heap.size w w' := by
  refine (tnew_any K k c B hs hl hk w hr hB).mono ?_
  rintro e w' ⟨h | ⟨h1, T, A', c', rfl, ht⟩, hb⟩
  · exact ⟨.inl h, hb⟩
  · exact ⟨.inr ⟨h1, T, rfl, w.heap.size, A', k, c', [], ht, List.Pairwise.nil, rfl, fun x hx => (by cases hx), ⟨ht.lo.1, ht.hd.lt⟩, fun n hn => (by cases hn), fun g hg => ht.row.lt g hg⟩, hb⟩
theorem madd_any (S : Nat → Prop) (T : Nat) (hs : List Int) (L : List Ld) (hL : L.length ≤ 100000) (e : Ent) (hk : e.key.size ≤ maxLen) (w : World) (h : Mt w S T hs L) :
    Calls Try.prog 12 #[.pointer (some ⟨T, 0, none⟩), .agg #[.string e.key, .string e.val, .int .i64 e.seq, .bool e.del]] w fun r w' => r = .returned (.int .i64 (addC e L)) ∧ Mt w' (fun g => S g ∨ (w.heap.size ≤ g ∧ g < w'.heap.size)) T hs (addL hs e L) ∧ Oth S w w' := by
  cases hok : okE e
  · have h0 := h
    obtain ⟨p, A, k, c, N, t, h1, h2, h3, h4, h5, h6⟩ := h
    refine (tadd_bad p T A k c hs N _ _ e hk hok w t).mono ?_
    rintro r w' ⟨rfl, hb⟩
    refine ⟨by unfold addC; rw [hok]; rfl, ?_, Oth.of hb⟩
    rw [show addL hs e L = L by unfold addL; rw [if_neg (fun hx => by rw [hok] at hx; cases hx.1)]]
    exact (h0.next hb).mono (fun g hg => .inl hg)
  · have h0 := h
    obtain ⟨p, A, k, c, N, t, h1, rfl, h3, h4, h5, h6⟩ := h
    have hz := szL_le h3
    rw [nds_len] at hL hz
    refine (tadd_any p T A k c hs N (szL (nds N)) hL ⟨hz.1, by omega⟩ h1 e hok w t).mono ?_
    rintro r w' (⟨ht, rfl, hb⟩ | ⟨ht, rfl, gn, hgn, ht2, hf⟩)
    · rw [nds_th] at ht
      refine ⟨by unfold addC; rw [hok, ht]; rfl, ?_, Oth.of hb⟩
      rw [show addL hs e (nds N) = nds N by unfold addL; rw [if_neg (fun hx => by rw [ht] at hx; cases hx.2)]]
      exact (h0.next hb).mono (fun g hg => .inl hg)
    · rw [nds_th] at ht
      have e1 : addL hs e (nds N) = nds (insN hs N gn e) := by
        unfold addL
        rw [if_pos ⟨hok, ht⟩]
        unfold insN
        rw [nds_len, ← nds_aP, ← nds_aQ]
        simp [nds]
      have e2 : (insN hs N gn e).length = N.length + 1 := by
        have h7 := congrArg List.length (ahead_app e N)
        rw [List.length_append] at h7
        unfold insN
        rw [List.length_append, List.length_cons]
        omega
      refine ⟨by unfold addC; rw [hok, ht]; rfl, ⟨p, A, k, c, insN hs N gn e, ?_, ?_, e1.symm, ?_, .inl h4, ?_, fun g hg => .inl (h6 g hg)⟩, Oth.frt hf (fun g hg => ?_)⟩
      · rw [e2]
        have e3 : szL (addL hs e (nds N)) = szL (nds N) + (e.key.size : Int) + (e.val.size : Int) := by
          unfold addL
          rw [if_pos ⟨hok, ht⟩, szL_ins]
        rw [e3]
        exact ht2
      · rw [← nds_ord, ← e1]
        exact addL_ord ((nds_ord N).2 h1)
      · intro x hx
        rcases addL_mem hx with h7 | ⟨h7, h8⟩
        · exact h3 x h7
        · rw [h7]; exact h8
      · intro n hn
        unfold insN at hn
        rcases List.mem_append.1 hn with h7 | h7
        · exact .inl (h5 n (by rw [ahead_app e N]; exact List.mem_append_left _ h7))
        · rcases List.mem_cons.1 h7 with h8 | h8
          · rw [h8]
            refine .inr ⟨hgn, ?_⟩
            obtain ⟨i, hi⟩ := List.mem_iff_getElem?.1 hn
            have := (ht2.nd i n hi).lt
            rw [h8] at this
            exact this
          · exact .inl (h5 n (by rw [ahead_app e N]; exact List.mem_append_right _ h8))
      · rcases List.mem_cons.1 hg with h7 | h7
        · rw [h7]; exact h4
        · obtain ⟨n, hn, rfl⟩ := List.mem_map.1 h7
          exact h5 n hn
theorem mlen_any (S : Nat → Prop) (T : Nat) (hs : List Int) (L : List Ld) (w : World) (h : Mt w S T hs L) : Calls Try.prog 21 #[.pointer (some ⟨T, 0, none⟩)] w fun e w' => e = .returned (.int .i64 (L.length : Int)) ∧ w = w' := by
  obtain ⟨p, A, k, c, N, t, h1, rfl, h3, h4, h5, h6⟩ := h
  rw [nds_len]
  exact tlen_any p T A k c hs N _ _ w t
theorem msize_any (S : Nat → Prop) (T : Nat) (hs : List Int) (L : List Ld) (w : World) (h : Mt w S T hs L) : Calls Try.prog 24 #[.pointer (some ⟨T, 0, none⟩)] w fun e w' => e = .returned (.int .i64 (szL L)) ∧ w = w' := by
  obtain ⟨p, A, k, c, N, t, h1, rfl, h3, h4, h5, h6⟩ := h
  exact tsize_any p T A k c hs N _ _ w t
theorem mget_any (S : Nat → Prop) (T : Nat) (hs : List Int) (L : List Ld) (hL : L.length ≤ 100000) (key : ByteArray) (seq : Int) (w : World) (h : Mt w S T hs L) : Calls Try.prog 17 #[.pointer (some ⟨T, 0, none⟩), .string key, .int .i64 seq] w fun e w' => e = .returned (.tuple #[(fndE (L.map Prod.fst) key seq).v, .bool (isE (L.map Prod.fst) key seq)]) ∧ Below w.heap.size w w' := by
  obtain ⟨p, A, k, c, N, t, h1, rfl, h3, h4, h5, h6⟩ := h
  rw [nds_fst]
  rw [nds_len] at hL
  exact tget_any p T A k c hs N _ _ hL h1 key seq w t
theorem mcost_any (S : Nat → Prop) (T : Nat) (hs : List Int) (L : List Ld) (hL : L.length ≤ 100000) (key : ByteArray) (seq : Int) (w : World) (h : Mt w S T hs L) : Calls Try.prog 20 #[.pointer (some ⟨T, 0, none⟩), .string key, .int .i64 seq] w fun e w' => e = .returned (.int .i64 (cst key seq L : Nat)) ∧ Below w.heap.size w w' := by
  obtain ⟨p, A, k, c, N, t, h1, rfl, h3, h4, h5, h6⟩ := h
  rw [nds_len] at hL
  rw [← cst_nds (fun n hn => (t.full n hn).1) key seq T]
  exact tcost_any p T A k c hs N _ _ hL key seq w t
theorem mlane_any (S : Nat → Prop) (T : Nat) (hs : List Int) (L : List Ld) (hL : L.length ≤ 100000) (j : Int) (w : World) (h : Mt w S T hs L) : Calls Try.prog 19 #[.pointer (some ⟨T, 0, none⟩), .int .i64 j] w fun e w' => ∃ v, e = .returned v ∧ w'.ownsRow w.heap.size 3 1 v (lnL j L).length (nv (lnL j L)) ∧ Below w.heap.size w w' := by
  obtain ⟨p, A, k, c, N, t, h1, rfl, h3, h4, h5, h6⟩ := h
  rw [nds_len] at hL
  rw [lnL_nds]
  exact tlane_any p T A k c hs N _ _ hL j w t
theorem mscan_any (S : Nat → Prop) (T : Nat) (hs : List Int) (L : List Ld) (hL : L.length ≤ 100000) (fr to_ : ByteArray) (seq : Int) (w : World) (h : Mt w S T hs L) : Calls Try.prog 18 #[.pointer (some ⟨T, 0, none⟩), .agg #[.string fr, .string to_], .int .i64 seq] w fun e w' => ∃ u, e = .returned u ∧ w'.ownsRow w.heap.size 32 4 u (visE fr to_ seq (L.map Prod.fst)).length (env (visE fr to_ seq (L.map Prod.fst))) ∧ Below w.heap.size w w' :=
  tscan_any _ _ (by rw [List.length_map]; exact hL) fr to_ seq w h.itr
theorem mall_any (S : Nat → Prop) (T : Nat) (hs : List Int) (L : List Ld) (hL : L.length ≤ 100000) (m : Nat) (w : World) (h : Mt w S T hs L) : Calls Try.prog 14 #[.pointer (some ⟨T, 0, none⟩), .int .i64 (m : Int)] w fun e w' => ∃ u, e = .returned u ∧ w'.ownsRow w.heap.size 32 4 u ((L.map Prod.fst).take m).length (env ((L.map Prod.fst).take m)) ∧ Below w.heap.size w w' :=
  all_any _ _ (by rw [List.length_map]; exact hL) m w h.itr
end Go.Proofs.Ytjhgbdeadkoegaa
