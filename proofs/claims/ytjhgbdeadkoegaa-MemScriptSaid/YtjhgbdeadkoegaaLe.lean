/- Walk: a memtable is made. What putting a node in does to the lanes' cells. -/
import Derived.Test.YtjhgbdeadkoegaaLd
namespace Go.Proofs.Ytjhgbdeadkoegaa
open Go.RowKit Go.St Go.Maps
set_option linter.unusedVariables false
set_option linter.unusedSimpArgs false
set_option maxRecDepth 100000

def okH (hs : List Int) : Bool := hs.all (fun h => decide (1 ≤ h) && decide (h ≤ 12))
theorem okH_all {hs : List Int} (h : okH hs = true) : ∀ x ∈ hs, 1 ≤ x ∧ x ≤ 12 := fun x hx => by
  have := List.all_eq_true.1 h x hx
  simpa using this
theorem okH_bad {hs : List Int} {i : Nat} {x : Int} (hx : hs[i]? = some x) (h : ¬ (1 ≤ x ∧ x ≤ 12)) : okH hs = false := by
  unfold okH
  rw [List.all_eq_false]
  exact ⟨x, List.mem_of_getElem? hx, by simpa using h⟩
theorem okH_yes {hs : List Int} (h : ∀ (j : Nat) (x : Int), hs[j]? = some x → 1 ≤ x ∧ x ≤ 12) : okH hs = true := by
  unfold okH
  rw [List.all_eq_true]
  intro x hx
  obtain ⟨j, hj⟩ := List.mem_iff_getElem?.1 hx
  simpa using h j x hj
/-- What New tells. -/
def NewR (k : Nat) (hs : List Int) (w : World) (e : Ending) (w' : World) : Prop :=
  (okH hs = false ∧ e = .returned (.tuple #[.pointer none, .int .i64 2])) ∨ (okH hs = true ∧ ∃ T A' c', e = .returned (.tuple #[.pointer (some ⟨T, 0, none⟩), .int .i64 0]) ∧ Tbl w' w.heap.size T A' k c' hs [] 0 0)
set_option maxHeartbeats 1600000 in
theorem tnew_any (K : Option Addr) (k c B : Nat) (hs : List Int) (hl : hs.length = k) (hk : k ≤ 1000000) (w : World) (hr : Rd w B K (nv hs)) (hB : B ≤ w.heap.size) :
    Calls Try.prog 11 #[.slice K k c] w fun e w' => NewR k hs w e w' ∧ Below w.heap.size w w' := by
  have HL := Lib.hid hl
  have HR := Lib.hid hr
  clear hl hr
  go_enter Try.func11, Try.ntmps11
  go_wp2_with fail
  go_loopw [8] (fun s8 wr => ∃ i : Nat, s8 = .int .i64 (i : Int) ∧ i ≤ k ∧ Hid (∀ (j : Nat) (x : Int), j < i → hs[j]? = some x → 1 ≤ x ∧ x ≤ 12) ∧ wr = w) (fun s8 _ => k - (intOf s8).toNat)
  case atStart => exact ⟨0, rfl, Nat.zero_le _, Lib.hid (fun j x h => by omega), rfl⟩
  case round =>
    obtain ⟨i, rfl, hi, HA, rfl⟩ := hrel
    obtain ⟨w, rfl⟩ : ∃ x, x = wr := ⟨_, rfl⟩
    by_cases hlt : i < k
    · obtain ⟨x, hx⟩ : ∃ x, hs[i]? = some x := ⟨_, List.getElem?_eq_getElem (by rw [HL.out]; exact hlt)⟩
      obtain ⟨b, o, eA, hb, hc⟩ := HR.out.at_ (nv_get hx)
      subst eA
      have HX := Lib.hid hx
      have i1 : (i : Int) < (k : Int) := by omega
      have i0 : (0 : Int) ≤ (i : Int) := by omega
      have zb : b < w.heap.size := by omega
      clear hx
      by_cases h1 : x < 1
      · have HO := Lib.hid (okH_bad HX.out (by omega))
        go_wp2_with fail
        go_ret2
        exact ⟨.inl ⟨HO.out, rfl⟩, Below.refl _ _⟩
      by_cases h2 : 12 < x
      · have HO := Lib.hid (okH_bad HX.out (by omega))
        go_wp2_with fail
        go_ret2
        exact ⟨.inl ⟨HO.out, rfl⟩, Below.refl _ _⟩
      have HA9 : Hid (∀ (j : Nat) (x : Int), j < i + 1 → hs[j]? = some x → 1 ≤ x ∧ x ≤ 12) := Lib.hid (fun j y h3 h4 => by
        rcases Nat.lt_or_ge j i with h | h
        · exact HA.out j y h h4
        · have e : j = i := by omega
          subst e
          rw [HX.out] at h4
          injection h4 with h4
          omega)
      go_wp2_with fail
      go_roundw
      case rel => exact ⟨i + 1, by go_num, by omega, HA9, (by first | rfl | trivial)⟩
      case measure => simp [intOf]; omega
    · have i1 : ¬ (i : Int) < (k : Int) := by omega
      have HO : Hid (okH hs = true) := Lib.hid (okH_yes (fun j x hj => HA.out j x (by have := (List.getElem?_eq_some_iff.1 hj).1; have := HL.out; omega) hj))
      clear hlt HA
      go_wp2_with (at_builtin; refine wpList_app styI (.const (.slice none 0 0)) (.tmp 19) rfl rfl w.heap.size (World.ownsRow_nil w _ _ _) rfl k c HR.out rfl (by rw [nv_length, HL.out, Nat.mul_one]) (nv_one _) (by unfold maxLen; omega) (by omega) (Nat.le_refl _) ?_; intro v1 w1 own1 gr1 nil1 at1; obtain ⟨A', c', rfl, -, -⟩ := own_sl own1)
      have B1 : Below w.heap.size w w1 := (Below.refl _ _).grown gr1 (Nat.le_refl _) (by simp [Value.ownBlock])
      have hal : Below w1.heap.size w1 (w1.alloc (.cells (tbc A' (0 + k) c' [] 0 0 true).toArray 69)) := (Below.refl _ _).alloc (Nat.le_refl _) _
      have X1 := BxV.new w1 (tbc A' (0 + k) c' [] 0 0 true).toArray 69
      have own2 := own_keep own1 hal (Nat.le_refl _)
      have hown := fun g h => own1.lt g h
      rw [Nat.zero_add] at X1 own2 hal hown
      go_ret2
      refine ⟨.inr ⟨HO.out, w1.heap.size, A', c', rfl, ⟨X1, fun i n h => by simp at h, by simp, own_eq own2 rfl (by simp), fun g hg => ⟨Nat.ne_of_lt (hown g hg).2, by simp⟩, ⟨B1.size, fun n h => by cases h⟩, okH_all HO.out, fun n h => by cases h⟩⟩, B1.trans (hal.mono B1.size)⟩

/-- All blocks but these stay. -/
structure FrT (S : List Nat) (w w' : World) : Prop where
  os : w'.os = w.os
  tape : w'.tape = w.tape
  output : w'.output = w.output
  size : w.heap.size ≤ w'.heap.size
  block : ∀ g, g < w.heap.size → g ∉ S → w'.heap[g]? = w.heap[g]?
theorem FrT.of {S : List Nat} {w w' : World} (h : Below w.heap.size w w') : FrT S w w' := ⟨h.os, h.tape, h.output, h.size, fun g hg _ => h.block g hg⟩
theorem FrT.then {S : List Nat} {w w' w'' : World} (h : FrT S w w') (hb : Below w'.heap.size w' w'') : FrT S w w'' :=
  ⟨hb.os.trans h.os, hb.tape.trans h.tape, hb.output.trans h.output, Nat.le_trans h.size hb.size, fun g hg hs => (hb.block g (Nat.lt_of_lt_of_le hg h.size)).trans (h.block g hg hs)⟩
theorem FrT.put {S : List Nat} {w w' : World} (h : FrT S w w') {b : Nat} (hb : b ∈ S ∨ w.heap.size ≤ b) (o : Nat) (v : Value) : FrT S w (w'.setCell ⟨b, o, none⟩ v) :=
  ⟨h.os, h.tape, h.output, by simpa using h.size, fun g hg hs => (Below.heap_setCell _ _ _ _ (show g ≠ b by
    rintro rfl
    rcases hb with h1 | h1
    · exact hs h1
    · omega)).trans (h.block g hg hs)⟩
theorem FrT.trans {S S' : List Nat} {w w' w'' : World} (h : FrT S w w') (h2 : FrT S' w' w'') (hs : ∀ g ∈ S', g ∈ S ∨ w.heap.size ≤ g) : FrT S w w'' :=
  ⟨h2.os.trans h.os, h2.tape.trans h.tape, h2.output.trans h.output, Nat.le_trans h.size h2.size, fun g hg hn => (h2.block g (Nat.lt_of_lt_of_le hg h.size) (fun hx => by
    rcases hs g hx with h1 | h1
    · exact hn h1
    · omega)).trans (h.block g hg hn)⟩
theorem FrT.below {S : List Nat} {p : Nat} {w w' : World} (h : FrT S w w') (hp : p ≤ w.heap.size) (hs : ∀ g ∈ S, p ≤ g) : Below p w w' :=
  ⟨h.os, h.tape, h.output, h.size, fun g hg => h.block g (by omega) (fun hx => by have := hs g hx; omega)⟩

/-- The cells of a table and its nodes. -/
structure TbM (W : World) (T : Nat) (A : Option Addr) (k c : Nat) (N : List Nd) (ln sz : Int) : Prop where
  hd : BxV W T (tbc A k c N ln sz true)
  nd : ∀ (i : Nat) (n : Nd), N[i]? = some n → BxV W n.g (ndc n (N.drop (i + 1)))
theorem TbM.next {W W' : World} {T : Nat} {A : Option Addr} {k c : Nat} {N : List Nd} {ln sz : Int} (h : TbM W T A k c N ln sz) (hb : Below W.heap.size W W') : TbM W' T A k c N ln sz :=
  ⟨h.hd.next hb, fun i n hn => (h.nd i n hn).next hb⟩
theorem tbc_set (A : Option Addr) (k c : Nat) (N : List Nd) (ln sz : Int) (mk : Bool) {u : Nat} (hu : u < 12) (v : Value) : (tbc A k c N ln sz mk).set (5 + u) v = Ent.z.c ++ [.int .i64 0] ++ (lnc 12 N).set u v ++ [.slice A k c, .int .i64 ln, .int .i64 sz, .bool mk] := by
  unfold tbc
  rw [List.set_append_left _ _ (by simp [Ent.c, lnc_len]; omega), List.set_append_right _ _ (by simp [Ent.c])]
  rw [show 5 + u - (Ent.z.c ++ [Value.int .i64 0]).length = u by simp [Ent.c]]
theorem ndc_set (n : Nd) (r : List Nd) {u : Nat} (v : Value) : (ndc n r).set (5 + u) v = n.e.c ++ [.int .i64 (n.t : Int)] ++ (lnc n.u r).set u v := by
  unfold ndc
  rw [List.set_append_right _ _ (by simp [Ent.c])]
  rw [show 5 + u - (n.e.c ++ [Value.int .i64 (n.t : Int)]).length = u by simp [Ent.c]]
theorem drop_add {α : Type} : ∀ (A B : List α) (m : Nat), (A ++ B).drop (A.length + m) = B.drop m
  | [], B, m => by rw [List.nil_append, List.length_nil, Nat.zero_add]
  | x :: r, B, m => by rw [List.cons_append, List.length_cons, Nat.add_right_comm, List.drop_succ_cons, drop_add r B m]
/-- The list as it was, and the new node in no lane yet. -/
theorem tbm_zero {W : World} {T : Nat} {A : Option Addr} {k c : Nat} {P Q : List Nd} {ln sz : Int} (h : TbM W T A k c (P ++ Q) ln sz) {gn t : Nat} {e : Ent} (hg : BxV W gn (ndc ⟨gn, e, t, 0⟩ Q)) : TbM W T A k c (P ++ ⟨gn, e, t, 0⟩ :: Q) ln sz := by
  refine ⟨?_, fun i n hn => ?_⟩
  · have := h.hd
    unfold tbc at this ⊢
    rw [lnc_zero]
    exact this
  · rcases Nat.lt_trichotomy i P.length with h1 | h1 | h1
    · rw [List.getElem?_append_left h1] at hn
      have h2 := h.nd i n (by rw [List.getElem?_append_left h1]; exact hn)
      rw [List.drop_append_of_le_length (by omega)] at h2 ⊢
      unfold ndc at h2 ⊢
      rw [lnc_zero]
      exact h2
    · subst h1
      rw [List.getElem?_append_right (Nat.le_refl _), Nat.sub_self] at hn
      have hn : (⟨gn, e, t, 0⟩ : Nd) = n := by simpa using hn
      subst hn
      rw [show (P ++ ⟨gn, e, t, 0⟩ :: Q).drop (P.length + 1) = Q by rw [drop_add]; rfl]
      exact hg
    · obtain ⟨j, rfl⟩ : ∃ j, i = P.length + 1 + j := ⟨i - (P.length + 1), by omega⟩
      rw [List.getElem?_append_right (by omega), show P.length + 1 + j - P.length = j + 1 by omega, List.getElem?_cons_succ] at hn
      have h2 := h.nd (P.length + j) n (by rw [List.getElem?_append_right (by omega), Nat.add_sub_cancel_left]; exact hn)
      rw [show (P ++ ⟨gn, e, t, 0⟩ :: Q).drop (P.length + 1 + j + 1) = (P ++ Q).drop (P.length + j + 1) by
        rw [show P.length + 1 + j + 1 = P.length + (j + 2) by omega, drop_add, show P.length + j + 1 = P.length + (j + 1) by omega, drop_add]
        rfl]
      exact h2
theorem tbm_up {W : World} {T : Nat} {A : Option Addr} {k c : Nat} {P Q : List Nd} {ln sz : Int} {gn t u : Nat} {e : Ent} (h : TbM W T A k c (P ++ ⟨gn, e, t, u⟩ :: Q) ln sz) (hu : u < 12) (hd : (T :: (P ++ ⟨gn, e, t, u⟩ :: Q).map Nd.g).Nodup) :
    TbM ((W.setCell ⟨gn, 5 + u, none⟩ (nxv u Q)).setCell ⟨lst u T P, 5 + u, none⟩ (ptr gn)) T A k c (P ++ ⟨gn, e, t, u + 1⟩ :: Q) ln sz := by
  rw [List.nodup_cons, List.map_append, List.map_cons, List.nodup_append] at hd
  obtain ⟨hT, hP, hQ, hPQ⟩ := hd
  rw [List.nodup_cons] at hQ
  have hTgn : T ≠ gn := fun e1 => hT (by rw [e1]; simp)
  have hPgn : ∀ m ∈ P, m.g ≠ gn := fun m hm => hPQ m.g (List.mem_map.2 ⟨m, hm, rfl⟩) gn (List.mem_cons_self ..)
  have hTP : (T :: P.map Nd.g).Nodup := by
    rw [List.nodup_cons]
    exact ⟨fun h1 => hT (List.mem_append_left _ h1), hP⟩
  have hL := lst_in u P T
  have hLgn : lst u T P ≠ gn := by
    rcases hL with e1 | ⟨m, hm, _, e1⟩
    · rw [e1]; exact hTgn
    · rw [e1]; exact hPgn m hm
  refine ⟨?_, fun i n hn => ?_⟩
  · have h1 := bxv_far h.hd (p := gn) (fun e => hTgn e.symm) (5 + u) (nxv u Q)
    by_cases e1 : lst u T P = T
    · have h2 := bxv_put h1 (5 + u) (by rw [tbc]; simp [Ent.c, lnc_len]; omega) (ptr gn)
      rw [tbc_set _ _ _ _ _ _ _ hu, ← lnc_up_hit gn e t u Q P hu hu (lst_head u P T hTP e1)] at h2
      rw [e1]
      exact h2
    · have h2 := bxv_far h1 e1 (5 + u) (ptr gn)
      unfold tbc at h2 ⊢
      rw [lnc_up_miss gn e t u Q P (fun h3 => e1 (lst_none u P T h3.2))]
      exact h2
  · rcases Nat.lt_trichotomy i P.length with h1 | h1 | h1
    · rw [List.getElem?_append_left h1] at hn
      have hm : n ∈ P := List.mem_of_getElem? hn
      have h2 := h.nd i n (by rw [List.getElem?_append_left h1]; exact hn)
      rw [List.drop_append_of_le_length (by omega)] at h2 ⊢
      have h3 := bxv_far h2 (p := gn) (fun e => hPgn n hm e.symm) (5 + u) (nxv u Q)
      by_cases e1 : lst u T P = n.g
      · obtain ⟨g1, g2⟩ := lst_only u P T i n hTP hn e1
        have h4 := bxv_put h3 (5 + u) (by rw [ndc_len]; omega) (ptr gn)
        rw [ndc_set, ← lnc_up_hit gn e t u Q (P.drop (i + 1)) hu g1 g2] at h4
        rw [e1]
        exact h4
      · have h4 := bxv_far h3 e1 (5 + u) (ptr gn)
        unfold ndc at h4 ⊢
        rw [lnc_up_miss gn e t u Q (P.drop (i + 1)) (fun h5 => e1 (lst_hit u P T i n hn h5.1 h5.2))]
        exact h4
    · subst h1
      rw [List.getElem?_append_right (Nat.le_refl _), Nat.sub_self] at hn
      have hn : (⟨gn, e, t, u + 1⟩ : Nd) = n := by simpa using hn
      subst hn
      have hdr : ∀ x, (P ++ (⟨gn, e, t, x⟩ : Nd) :: Q).drop (P.length + 1) = Q := fun x => by rw [drop_add]; rfl
      have h2 := h.nd P.length ⟨gn, e, t, u⟩ (by rw [List.getElem?_append_right (Nat.le_refl _), Nat.sub_self]; rfl)
      rw [hdr] at h2 ⊢
      have h3 := bxv_put h2 (5 + u) (by rw [ndc_len]; omega) (nxv u Q)
      have h4 := bxv_far h3 hLgn (5 + u) (ptr gn)
      rw [ndc_set, ← lnc_own u Q hu] at h4
      exact h4
    · obtain ⟨j, rfl⟩ : ∃ j, i = P.length + 1 + j := ⟨i - (P.length + 1), by omega⟩
      rw [List.getElem?_append_right (by omega), show P.length + 1 + j - P.length = j + 1 by omega, List.getElem?_cons_succ] at hn
      have hm : n ∈ Q := List.mem_of_getElem? hn
      have hdr : ∀ x, (P ++ (⟨gn, e, t, x⟩ : Nd) :: Q).drop (P.length + 1 + j + 1) = Q.drop (j + 1) := fun x => by
        rw [show P.length + 1 + j + 1 = P.length + (j + 2) by omega, drop_add]
        rfl
      have h2 := h.nd (P.length + 1 + j) n (by rw [List.getElem?_append_right (by omega), show P.length + 1 + j - P.length = j + 1 by omega]; exact hn)
      rw [hdr] at h2 ⊢
      have hngn : gn ≠ n.g := fun e1 => hQ.1 (List.mem_map.2 ⟨n, hm, e1.symm⟩)
      have hnL : lst u T P ≠ n.g := by
        rcases hL with e1 | ⟨m, hmP, _, e1⟩
        · rw [e1]
          exact fun e2 => hT (by rw [e2]; exact List.mem_append_right _ (List.mem_cons_of_mem _ (List.mem_map.2 ⟨n, hm, rfl⟩)))
        · rw [e1]
          exact hPQ m.g (List.mem_map.2 ⟨m, hmP, rfl⟩) n.g (List.mem_cons_of_mem _ (List.mem_map.2 ⟨n, hm, rfl⟩))
      exact bxv_far (bxv_far h2 hngn (5 + u) (nxv u Q)) hnL (5 + u) (ptr gn)
end Go.Proofs.Ytjhgbdeadkoegaa
