/- Walk: an entry is put into a memtable. -/
import Derived.Test.YtjhgbdeadkoegaaLe
import Derived.Test.YtjhgbdeadkoegaaCut
namespace Go.Proofs.Ytjhgbdeadkoegaa
open Go.RowKit Go.St Go.Maps
set_option linter.unusedVariables false
set_option linter.unusedSimpArgs false
set_option maxRecDepth 100000

def thN (e : Ent) (N : List Nd) : Bool := (aheadQ e N).head?.any (fun n => decide (n.e.key = e.key) && decide (n.e.seq = e.seq))
def towN (hs : List Int) (m : Nat) : Nat := if hs.length = 0 then 1 else (hs.getD (m % hs.length) 1).toNat
theorem tow_in {hs : List Int} (h : ∀ x ∈ hs, 1 ≤ x ∧ x ≤ 12) (m : Nat) : 1 ≤ towN hs m ∧ towN hs m ≤ 12 := by
  unfold towN
  split
  · omega
  · rename_i h0
    have hl : m % hs.length < hs.length := Nat.mod_lt _ (by omega)
    rw [List.getD_eq_getElem?_getD, List.getElem?_eq_getElem hl]
    have := h _ (List.getElem_mem hl)
    show 1 ≤ (hs[m % hs.length]).toNat ∧ (hs[m % hs.length]).toNat ≤ 12
    omega
theorem tow_at {hs : List Int} {m : Nat} {x : Int} (h0 : hs.length ≠ 0) (hx : hs[m % hs.length]? = some x) : towN hs m = x.toNat := by
  unfold towN
  rw [if_neg h0, List.getD_eq_getElem?_getD, hx]
  rfl
def insN (hs : List Int) (N : List Nd) (gn : Nat) (e : Ent) : List Nd := aheadP e N ++ ⟨gn, e, towN hs N.length, towN hs N.length⟩ :: aheadQ e N
set_option maxHeartbeats 1600000 in
theorem tadd_no (v : Option Addr) (e : Ent) (w : World) (h : NoT w v) : Calls Try.prog 12 #[.pointer v, .agg #[.string e.key, .string e.val, .int .i64 e.seq, .bool e.del]] w fun r w' => r = .returned (.int .i64 1) ∧ Below w.heap.size w w' := by
  have H := Lib.hid (fun W (hb : Below w.heap.size w W) => tnone_yes v W (h.next hb))
  clear h
  go_enter Try.func12, Try.ntmps12
  go_wp2_with fail
  have B1 : Hid (Below w.heap.size w (w.alloc (.cells #[.string e.key, .string e.val, .int .i64 e.seq, .bool e.del] 32))) := Lib.hid ((Below.refl _ _).alloc (Nat.le_refl _) _)
  refine (H.out _ B1.out).mono ?_
  rintro r w2 ⟨rfl, rfl⟩
  go_wp2_with fail
  go_ret
  exact ⟨rfl, B1.out⟩
set_option maxHeartbeats 1600000 in
theorem tadd_bad (p T : Nat) (A : Option Addr) (k c : Nat) (hs : List Int) (N : List Nd) (ln sz : Int) (e : Ent) (hk : e.key.size ≤ maxLen) (ho : okE e = false) (w : World) (ht : Tbl w p T A k c hs N ln sz) :
    Calls Try.prog 12 #[.pointer (some ⟨T, 0, none⟩), .agg #[.string e.key, .string e.val, .int .i64 e.seq, .bool e.del]] w fun r w' => r = .returned (.int .i64 2) ∧ Below w.heap.size w w' := by
  have H := Lib.hid (fun W (hb : Below w.heap.size w W) => tnone_no T W ((ht.next hb).hd.c 20 _ rfl))
  have HC := Lib.hid (fun W => check6_any e hk W)
  rw [show chkE e = 2 by unfold chkE; rw [ho]; rfl] at HC
  clear ht ho
  go_enter Try.func12, Try.ntmps12
  go_wp2_with fail
  have B1 : Hid (Below w.heap.size w (w.alloc (.cells #[.string e.key, .string e.val, .int .i64 e.seq, .bool e.del] 32))) := Lib.hid ((Below.refl _ _).alloc (Nat.le_refl _) _)
  refine (H.out _ B1.out).mono ?_
  rintro r w2 ⟨rfl, rfl⟩
  go_wp2_with fail
  refine (HC.out _).mono ?_
  rintro r w2 ⟨rfl, hb⟩
  have B2 := Lib.hid (B1.out.trans (hb.mono B1.out.size))
  clear hb
  go_wp2_with fail
  go_ret
  exact ⟨rfl, B2.out⟩
/-- What Add tells, and does. -/
def AddR (p T : Nat) (A : Option Addr) (k c : Nat) (hs : List Int) (N : List Nd) (sz : Int) (e : Ent) (w : World) (r : Ending) (w' : World) : Prop :=
  (thN e N = true ∧ r = .returned (.int .i64 9) ∧ Below w.heap.size w w') ∨
  (thN e N = false ∧ r = .returned (.int .i64 0) ∧ ∃ gn, w.heap.size ≤ gn ∧ Tbl w' p T A k c hs (insN hs N gn e) ((N.length : Int) + 1) (sz + (e.key.size : Int) + (e.val.size : Int)) ∧ FrT (T :: N.map Nd.g) w w')
theorem own_rdq' {w : World} {base : Nat} {e : TypeId} {A : Option Addr} {n c : Nat} {xs : List Value} {s : Nat} (h : w.ownsRow base e s (.slice A n c) n xs) : Rd w w.heap.size A xs := by
  obtain ⟨A', c', e, -, r⟩ := own_sl h
  injection e with e1
  rw [e1]
  exact r
theorem pv_get (pv : Nat → Nat) {u : Nat} (hu : u < 12) : ([.pointer (some ⟨pv 0, 0, none⟩), .pointer (some ⟨pv 1, 0, none⟩), .pointer (some ⟨pv 2, 0, none⟩), .pointer (some ⟨pv 3, 0, none⟩), .pointer (some ⟨pv 4, 0, none⟩), .pointer (some ⟨pv 5, 0, none⟩), .pointer (some ⟨pv 6, 0, none⟩), .pointer (some ⟨pv 7, 0, none⟩), .pointer (some ⟨pv 8, 0, none⟩), .pointer (some ⟨pv 9, 0, none⟩), .pointer (some ⟨pv 10, 0, none⟩), .pointer (some ⟨pv 11, 0, none⟩)] : List Value)[u]? = some (.pointer (some ⟨pv u, 0, none⟩)) := by
  have h : ([.pointer (some ⟨pv 0, 0, none⟩), .pointer (some ⟨pv 1, 0, none⟩), .pointer (some ⟨pv 2, 0, none⟩), .pointer (some ⟨pv 3, 0, none⟩), .pointer (some ⟨pv 4, 0, none⟩), .pointer (some ⟨pv 5, 0, none⟩), .pointer (some ⟨pv 6, 0, none⟩), .pointer (some ⟨pv 7, 0, none⟩), .pointer (some ⟨pv 8, 0, none⟩), .pointer (some ⟨pv 9, 0, none⟩), .pointer (some ⟨pv 10, 0, none⟩), .pointer (some ⟨pv 11, 0, none⟩)] : List Value) = (List.range 12).map (fun h => Value.pointer (some ⟨pv h, 0, none⟩)) := rfl
  rw [h, List.getElem?_map, List.getElem?_range hu]
  rfl
theorem Tbl.m {W : World} {p T : Nat} {A : Option Addr} {k c : Nat} {hs : List Int} {N : List Nd} {ln sz : Int} (h : Tbl W p T A k c hs N ln sz) : TbM W T A k c N ln sz := ⟨h.hd, h.nd⟩
theorem TbM.prev {W : World} {T : Nat} {A : Option Addr} {k c : Nat} {P R : List Nd} {ln sz : Int} (ht : TbM W T A k c (P ++ R) ln sz) (hf : ∀ m ∈ P, m.u ≤ 12) {h : Nat} (hh : h < 12) : W.cell? ⟨lst h T P, 5 + h, none⟩ = some (nxv h R) := by
  refine at_lst h R P T (ht.hd.c _ _ (tbc_get A k c _ ln sz true hh)) (fun j m hm hu => ?_)
  have hj := (List.getElem?_eq_some_iff.1 hm).1
  have h1 := (ht.nd j m (by rw [List.getElem?_append_left hj]; exact hm)).c _ _ (ndc_get m _ hh)
  rw [h1, List.drop_append_of_le_length (by omega)]
  unfold lnk
  rw [if_pos hu]
theorem dis_ins {T gn : Nat} {P Q : List Nd} {e : Ent} {t : Nat} (h : (T :: (P ++ Q).map Nd.g).Nodup) (hT : T ≠ gn) (hg : ∀ n ∈ P ++ Q, n.g ≠ gn) (u : Nat) : (T :: (P ++ (⟨gn, e, t, u⟩ : Nd) :: Q).map Nd.g).Nodup := by
  rw [List.nodup_cons, List.map_append, List.nodup_append] at h
  obtain ⟨h1, h2, h3, h4⟩ := h
  rw [List.nodup_cons, List.map_append, List.map_cons, List.nodup_append]
  refine ⟨fun hm => ?_, h2, ?_, fun a ha b hb => ?_⟩
  · rcases List.mem_append.1 hm with h5 | h5
    · exact h1 (List.mem_append_left _ h5)
    · rcases List.mem_cons.1 h5 with h6 | h6
      · exact hT h6
      · exact h1 (List.mem_append_right _ h6)
  · rw [List.nodup_cons]
    refine ⟨fun hm => ?_, h3⟩
    obtain ⟨n, hn, e1⟩ := List.mem_map.1 hm
    exact hg n (List.mem_append_right _ hn) e1
  · rcases List.mem_cons.1 hb with h6 | h6
    · obtain ⟨n, hn, e1⟩ := List.mem_map.1 ha
      intro e2
      exact hg n (List.mem_append_left _ hn) (by rw [e1, e2, h6])
    · exact h4 a ha b h6
/-- The table with the node in it. -/
theorem tbl_fin {w W : World} {p T gn t : Nat} {A : Option Addr} {k c : Nat} {hs : List Int} {N P Q : List Nd} {ln sz ln' sz' : Int} {e : Ent} (h : Tbl w p T A k c hs N ln sz) (hN : N = P ++ Q) (hg : w.heap.size ≤ gn) (ht : 1 ≤ t ∧ t ≤ 12) (m : TbM W T A k c (P ++ ⟨gn, e, t, t⟩ :: Q) ln' sz') (f : FrT (T :: N.map Nd.g) w W) : Tbl W p T A k c hs (P ++ ⟨gn, e, t, t⟩ :: Q) ln' sz' := by
  have hall : ∀ n ∈ N, n.g < w.heap.size := fun n hn => by
    obtain ⟨i, hi⟩ := List.mem_iff_getElem?.1 hn
    exact (h.nd i n hi).lt
  have hmem : ∀ n ∈ P ++ (⟨gn, e, t, t⟩ : Nd) :: Q, n = ⟨gn, e, t, t⟩ ∨ n ∈ N := fun n hn => by
    rw [hN]
    rcases List.mem_append.1 hn with h1 | h1
    · exact .inr (List.mem_append_left _ h1)
    · rcases List.mem_cons.1 h1 with h2 | h2
      · exact .inl h2
      · exact .inr (List.mem_append_right _ h2)
  refine ⟨m.hd, m.nd, ?_, ?_, fun g hgr => ?_, ⟨h.lo.1, fun n hn => ?_⟩, h.hs12, fun n hn => ?_⟩
  · have hd := h.dis
    rw [hN] at hd
    exact dis_ins hd (by have := h.hd.lt; omega) (fun n hn => by have := hall n (by rw [hN]; exact hn); omega) t
  · refine ownsRow_of h.row (fun g hgr => f.block g (h.row.lt g hgr).2 (fun hx => ?_))
    have h1 := h.rowT g hgr
    rcases List.mem_cons.1 hx with h2 | h2
    · exact h1.1 h2
    · exact h1.2 h2
  · have h1 := h.rowT g hgr
    refine ⟨h1.1, fun hx => ?_⟩
    obtain ⟨n, hn, e1⟩ := List.mem_map.1 hx
    rcases hmem n hn with h2 | h2
    · rw [h2] at e1
      have := (h.row.lt g hgr).2
      dsimp only at e1
      omega
    · exact h1.2 (List.mem_map.2 ⟨n, h2, e1⟩)
  · rcases hmem n hn with h2 | h2
    · rw [h2]
      have := h.lo.1
      have := h.hd.lt
      show p ≤ gn
      omega
    · exact h.lo.2 n h2
  · rcases hmem n hn with h2 | h2
    · rw [h2]; exact ⟨rfl, ht.1, ht.2⟩
    · exact h.full n h2
theorem nxv_ptr (h : Nat) : ∀ R : List Nd, ∃ o, nxv h R = .pointer o
  | [] => ⟨_, rfl⟩
  | n :: r => by
    rw [nxv]
    split
    · exact ⟨_, rfl⟩
    · exact nxv_ptr h r
theorem tbc_len (A : Option Addr) (k c : Nat) (N : List Nd) (ln sz ln' : Int) : (tbc A k c N ln sz true).set 18 (.int .i64 ln') = tbc A k c N ln' sz true := rfl
theorem tbc_sz (A : Option Addr) (k c : Nat) (N : List Nd) (ln sz sz' : Int) : (tbc A k c N ln sz true).set 19 (.int .i64 sz') = tbc A k c N ln sz' true := rfl
theorem tbm_t {W : World} {T : Nat} {A : Option Addr} {k c : Nat} {P Q : List Nd} {ln sz ln' sz' : Int} {gn t u : Nat} {e : Ent} (h : TbM W T A k c (P ++ ⟨gn, e, t, u⟩ :: Q) ln sz) (hd : (T :: (P ++ ⟨gn, e, t, u⟩ :: Q).map Nd.g).Nodup) (i : Nat) (v : Value) (hi : i < 21) (he : (tbc A k c (P ++ ⟨gn, e, t, u⟩ :: Q) ln sz true).set i v = tbc A k c (P ++ ⟨gn, e, t, u⟩ :: Q) ln' sz' true) : TbM (W.setCell ⟨T, i, none⟩ v) T A k c (P ++ ⟨gn, e, t, u⟩ :: Q) ln' sz' := by
  refine ⟨?_, fun j n hn => bxv_far (h.nd j n hn) (fun e1 => ?_) i v⟩
  · have := bxv_put h.hd i (by rw [tbc]; simp [Ent.c, lnc_len]; omega) v
    rwa [he] at this
  · rw [List.nodup_cons] at hd
    exact hd.1 (List.mem_map.2 ⟨n, List.mem_of_getElem? hn, e1.symm⟩)
theorem ndc_tow (gn : Nat) (e : Ent) (t' : Nat) (Q : List Nd) {x : Int} (hx : 1 ≤ x) : (ndc ⟨gn, e, t', 0⟩ Q).set 4 (.int .i64 x) = ndc ⟨gn, e, x.toNat, 0⟩ Q := by
  have e1 : ((x.toNat : Nat) : Int) = x := by omega
  unfold ndc
  dsimp only
  rw [e1]
  rfl
set_option maxHeartbeats 12800000 in
theorem tadd_any (p T : Nat) (A : Option Addr) (k c : Nat) (hs : List Int) (N : List Nd) (sz : Int) (hN : N.length ≤ 100000) (hsz : 0 ≤ sz ∧ sz ≤ 1000000000) (ho : ordN N) (e : Ent) (hk : okE e = true) (w : World) (ht : Tbl w p T A k c hs N (N.length : Int) sz) :
    Calls Try.prog 12 #[.pointer (some ⟨T, 0, none⟩), .agg #[.string e.key, .string e.val, .int .i64 e.seq, .bool e.del]] w fun r w' => AddR p T A k c hs N sz e w r w' := by
  have TB := Lib.hid ht
  have hkb : e.key.size ≤ 512 ∧ e.val.size ≤ 4096 := by
    unfold okE at hk
    simp only [Bool.and_eq_true, decide_eq_true_eq] at hk
    exact ⟨hk.1.1.2.2, hk.1.2⟩
  have H := Lib.hid (fun W (hb : Below w.heap.size w W) => tnone_no T W ((ht.next hb).hd.c 20 _ rfl))
  have HC := Lib.hid (fun W => check6_any e (by unfold maxLen; omega) W)
  rw [show chkE e = 0 by unfold chkE; rw [if_pos hk]] at HC
  obtain ⟨pv, FS, HPV, HFS, HF⟩ := tfind_ex p T A k c hs N (N.length : Int) sz hN e w ht
  have HL : Hid (∀ h, h < 12 → pv h = lst h T (aheadP e N)) := Lib.hid (fun h hh => by rw [HPV.out]; exact pvs_lst ho T hh)
  have HP := Lib.hid (fun h (hh : h < 12) => ht.prev (ahead_app e N) hh)
  have HQ := Lib.hid (nxv0 ht.full e)
  have hp0 := HP.out 0 (by omega)
  rw [← HL.out 0 (by omega)] at hp0
  have hlt : pv 0 < w.heap.size := World.block_lt_of_cell? w _ hp0
  have HP0 := Lib.hid hp0
  clear hp0
  have HKL : Hid (hs.length = k) := Lib.hid (by have := ht.row.1; rw [nv_length, Nat.mul_one] at this; exact this)
  clear ht hk HPV HFS
  go_enter Try.func12, Try.ntmps12
  go_wp2_with fail
  obtain ⟨be, hbe'⟩ : ∃ b, b = w.heap.size := ⟨_, rfl⟩
  have X1 : Hid (BxV (w.alloc (.cells #[.string e.key, .string e.val, .int .i64 e.seq, .bool e.del] 32)) be [.string e.key, .string e.val, .int .i64 e.seq, .bool e.del]) := Lib.hid (by rw [hbe']; exact BxV.new w _ _)
  have B1 : Hid (Below w.heap.size w (w.alloc (.cells #[.string e.key, .string e.val, .int .i64 e.seq, .bool e.del] 32))) := Lib.hid ((Below.refl _ _).alloc (Nat.le_refl _) _)
  have hbe : w.heap.size ≤ be := by omega
  rw [← hbe']
  clear hbe'
  generalize w.alloc (.cells #[.string e.key, .string e.val, .int .i64 e.seq, .bool e.del] 32) = w1 at *
  refine (H.out w1 B1.out).mono ?_
  rintro r w2 ⟨rfl, rfl⟩
  have x0 := X1.out.c 0 _ rfl
  have x1 := X1.out.c 1 _ rfl
  have x2 := X1.out.c 2 _ rfl
  have x3 := X1.out.c 3 _ rfl
  have xl := X1.out.lt
  go_wp2_with fail
  refine (HC.out w1).mono ?_
  rintro r w2 ⟨rfl, hb⟩
  have X2 := Lib.hid (X1.out.next hb)
  have B2 := Lib.hid (B1.out.trans (hb.mono B1.out.size))
  clear hb X1 B1 H HC x0 x1 x2 x3 xl
  have x0 := X2.out.c 0 _ rfl
  have x1 := X2.out.c 1 _ rfl
  have x2 := X2.out.c 2 _ rfl
  have x3 := X2.out.c 3 _ rfl
  have xl := X2.out.lt
  go_wp2_with fail
  refine (HF.out w2 B2.out).mono ?_
  rintro r w3 ⟨rfl, hb⟩
  have X3 := Lib.hid (X2.out.next hb)
  have B3 := Lib.hid (B2.out.trans (hb.mono B2.out.size))
  clear hb X2 B2 HF x0 x1 x2 x3 xl
  go_upto_region 7 with (fail)
  have XP5 : Hid (BxV (w3.alloc (.cells #[.pointer (some ⟨pv 0, 0, none⟩), .pointer (some ⟨pv 1, 0, none⟩), .pointer (some ⟨pv 2, 0, none⟩), .pointer (some ⟨pv 3, 0, none⟩), .pointer (some ⟨pv 4, 0, none⟩), .pointer (some ⟨pv 5, 0, none⟩), .pointer (some ⟨pv 6, 0, none⟩), .pointer (some ⟨pv 7, 0, none⟩), .pointer (some ⟨pv 8, 0, none⟩), .pointer (some ⟨pv 9, 0, none⟩), .pointer (some ⟨pv 10, 0, none⟩), .pointer (some ⟨pv 11, 0, none⟩)] 65)) w3.heap.size [.pointer (some ⟨pv 0, 0, none⟩), .pointer (some ⟨pv 1, 0, none⟩), .pointer (some ⟨pv 2, 0, none⟩), .pointer (some ⟨pv 3, 0, none⟩), .pointer (some ⟨pv 4, 0, none⟩), .pointer (some ⟨pv 5, 0, none⟩), .pointer (some ⟨pv 6, 0, none⟩), .pointer (some ⟨pv 7, 0, none⟩), .pointer (some ⟨pv 8, 0, none⟩), .pointer (some ⟨pv 9, 0, none⟩), .pointer (some ⟨pv 10, 0, none⟩), .pointer (some ⟨pv 11, 0, none⟩)]) := Lib.hid (BxV.new w3 _ _)
  have hal : Below w3.heap.size w3 (w3.alloc (.cells #[.pointer (some ⟨pv 0, 0, none⟩), .pointer (some ⟨pv 1, 0, none⟩), .pointer (some ⟨pv 2, 0, none⟩), .pointer (some ⟨pv 3, 0, none⟩), .pointer (some ⟨pv 4, 0, none⟩), .pointer (some ⟨pv 5, 0, none⟩), .pointer (some ⟨pv 6, 0, none⟩), .pointer (some ⟨pv 7, 0, none⟩), .pointer (some ⟨pv 8, 0, none⟩), .pointer (some ⟨pv 9, 0, none⟩), .pointer (some ⟨pv 10, 0, none⟩), .pointer (some ⟨pv 11, 0, none⟩)] 65)) := (Below.refl _ _).alloc (Nat.le_refl _) _
  have X5 := Lib.hid (X3.out.next hal)
  have B5 := Lib.hid (B3.out.trans (hal.mono B3.out.size))
  have hbq : w.heap.size ≤ w3.heap.size := B3.out.size
  clear hal X3 B3
  generalize w3.alloc (.cells #[.pointer (some ⟨pv 0, 0, none⟩), .pointer (some ⟨pv 1, 0, none⟩), .pointer (some ⟨pv 2, 0, none⟩), .pointer (some ⟨pv 3, 0, none⟩), .pointer (some ⟨pv 4, 0, none⟩), .pointer (some ⟨pv 5, 0, none⟩), .pointer (some ⟨pv 6, 0, none⟩), .pointer (some ⟨pv 7, 0, none⟩), .pointer (some ⟨pv 8, 0, none⟩), .pointer (some ⟨pv 9, 0, none⟩), .pointer (some ⟨pv 10, 0, none⟩), .pointer (some ⟨pv 11, 0, none⟩)] 65) = w5 at *
  generalize w3.heap.size = bq at *
  have p0 := XP5.out.c 0 _ rfl
  have pl := XP5.out.lt
  have c5 := (B5.out.cell (p := ⟨pv 0, 5, none⟩) hlt).trans HP0.out
  have z5 : pv 0 < w5.heap.size := Nat.lt_of_lt_of_le hlt B5.out.size
  have x0 := X5.out.c 0 _ rfl
  have x1 := X5.out.c 1 _ rfl
  have x2 := X5.out.c 2 _ rfl
  have x3 := X5.out.c 3 _ rfl
  have xl := X5.out.lt
  rcases HQ.out with ⟨g1, g2⟩ | ⟨n, r, g1, g2, g3⟩
  · rw [g2] at c5
    have HT : Hid (thN e N = false) := Lib.hid (by unfold thN; rw [g1]; rfl)
    clear g1 g2 HQ
    go_wp2_with fail
    refine wp_qall (by kernel_rfl) (by kernel_rfl) ?_
    intro hcg
    repeat (first | go_big_quiet_step (fail) | quiet_step (fail))
    refine wpQuiet_nil ?_
    intro wq hbwq hcwq hfwq
    clear hcg
    have X6 := Lib.hid (X5.out.next hbwq)
    have XP6 := Lib.hid (XP5.out.next hbwq)
    have B6 := Lib.hid (B5.out.trans (hbwq.mono B5.out.size))
    clear hbwq hcwq hfwq X5 XP5 B5 x0 x1 x2 x3 xl p0 pl c5 z5
    obtain ⟨w6, rfl⟩ : ∃ x, x = wq := ⟨_, rfl⟩
    have x0 := X6.out.c 0 _ rfl
    have x1 := X6.out.c 1 _ rfl
    have x2 := X6.out.c 2 _ rfl
    have x3 := X6.out.c 3 _ rfl
    have xl := X6.out.lt
    go_upto_region 11 with (fail)
    have hal : Below w6.heap.size w6 (w6.alloc (.cells #[.string e.key, .string e.val, .int .i64 e.seq, .bool e.del, .int .i64 1, .pointer none, .pointer none, .pointer none, .pointer none, .pointer none, .pointer none, .pointer none, .pointer none, .pointer none, .pointer none, .pointer none, .pointer none] 67)) := (Below.refl _ _).alloc (Nat.le_refl _) _
    have XG7 : Hid (BxV (w6.alloc (.cells #[.string e.key, .string e.val, .int .i64 e.seq, .bool e.del, .int .i64 1, .pointer none, .pointer none, .pointer none, .pointer none, .pointer none, .pointer none, .pointer none, .pointer none, .pointer none, .pointer none, .pointer none, .pointer none] 67)) w6.heap.size (ndc ⟨w6.heap.size, e, 1, 0⟩ (aheadQ e N))) := Lib.hid (by
      have h := BxV.new w6 #[.string e.key, .string e.val, .int .i64 e.seq, .bool e.del, .int .i64 1, .pointer none, .pointer none, .pointer none, .pointer none, .pointer none, .pointer none, .pointer none, .pointer none, .pointer none, .pointer none, .pointer none, .pointer none] 67
      unfold ndc
      rw [lnc_none]
      exact h)
    have X7 := Lib.hid (X6.out.next hal)
    have XP7 := Lib.hid (XP6.out.next hal)
    have B7 := Lib.hid (B6.out.trans (hal.mono B6.out.size))
    have hgn : w.heap.size ≤ w6.heap.size := B6.out.size
    have hqg : bq < w6.heap.size := XP6.out.lt
    have hbg : be < w6.heap.size := X6.out.lt
    clear hal X6 XP6 B6 x0 x1 x2 x3 xl
    generalize w6.alloc (.cells #[.string e.key, .string e.val, .int .i64 e.seq, .bool e.del, .int .i64 1, .pointer none, .pointer none, .pointer none, .pointer none, .pointer none, .pointer none, .pointer none, .pointer none, .pointer none, .pointer none, .pointer none, .pointer none] 67) = w7 at *
    generalize w6.heap.size = gn at *
    have TB7 := Lib.hid (TB.out.next (B7.out))
    have t17 := TB7.out.hd.c 17 _ rfl
    have t18 := TB7.out.hd.c 18 _ rfl
    have tl := TB7.out.hd.lt
    by_cases hk0 : 0 < k
    · have k1 : (0 : Int) < (k : Int) := by omega
      have hkl : hs.length ≠ 0 := by rw [HKL.out]; omega
      have hrm : N.length % k < k := Nat.mod_lt _ hk0
      obtain ⟨x, hx⟩ : ∃ x, hs[N.length % k]? = some x := ⟨_, List.getElem?_eq_getElem (by rw [HKL.out]; exact hrm)⟩
      have hx12 := TB.out.hs12 x (List.mem_of_getElem? hx)
      have HTW : Hid (towN hs N.length = x.toNat) := Lib.hid (tow_at hkl (by rw [HKL.out]; exact hx))
      obtain ⟨bh, oh, rfl, hbh, hch⟩ := (own_rdq' TB7.out.row).at_ (nv_get hx)
      have hmd : Int.tmod (N.length : Int) (k : Int) = ((N.length % k : Nat) : Int) := rfl
      have r1 : ((N.length % k : Nat) : Int) < (k : Int) := by omega
      have r0 : (0 : Int) ≤ ((N.length % k : Nat) : Int) := by omega
      obtain ⟨rm, hrme⟩ : ∃ rm, rm = N.length % k := ⟨_, rfl⟩
      rw [← hrme] at hmd r1 r0 hch hx
      have kz : ((k : Int) == 0) = false := by rw [beq_eq_false_iff_ne]; omega
      have kz2 : (k : Int) ≠ 0 := by omega
      have kz3 : ¬ k = 0 := by omega
      have HG7 := Lib.hid (XG7.out.c 4 _ rfl)
      clear hx hrme hrm hkl
      go_upto_region 13 with (fail)
      refine wp_heldcut (S := fun W => Below w7.heap.size w7 W) 13 (by kernel_rfl) (by kernel_rfl) (Below.drew (Below.refl _ _)) (fun hHeld => ?_)
      simp only [List.take_succ_cons, List.take_zero]
      clear t17 t18 tl
      refine takeL (i := 0) (v := ?_) rfl (by kernel_rfl) (by kernel_rfl) (by kernel_rfl) (fun _ _ _ h => h) ⟨by rfl, ?_⟩ (by first | assumption | trivial) ?_
      rotate_left
      · intro W9 hSw
        (try dsimp only at hSw)
        go_simp
        try with_reducible rfl
      (try simp only [Act.put, List.setIfInBounds_toArray, List.set_cons_zero, List.set_cons_succ])
      refine takeL (i := 1) (v := ?_) rfl (by kernel_rfl) (by kernel_rfl) (by kernel_rfl) (fun _ _ _ h => h) ⟨by rfl, ?_⟩ (by first | assumption | trivial) ?_
      rotate_left
      · intro W9 hSw
        (try dsimp only at hSw)
        go_simp
        try with_reducible rfl
      (try simp only [Act.put, List.setIfInBounds_toArray, List.set_cons_zero, List.set_cons_succ])
      refine takeL (i := 2) (v := ?_) rfl (by kernel_rfl) (by kernel_rfl) (by kernel_rfl) (fun _ _ _ h => h) ⟨by rfl, ?_⟩ (by first | assumption | trivial) ?_
      rotate_left
      · intro W9 hSw
        (try dsimp only at hSw)
        go_simp
        try with_reducible rfl
      (try simp only [Act.put, List.setIfInBounds_toArray, List.set_cons_zero, List.set_cons_succ])
      refine takeL (i := 3) (v := ?_) rfl (by kernel_rfl) (by kernel_rfl) (by kernel_rfl) (fun _ _ _ h => h) ⟨by rfl, ?_⟩ (by first | assumption | trivial) ?_
      rotate_left
      · intro W9 hSw
        (try dsimp only at hSw)
        go_simp
        try with_reducible rfl
      (try simp only [Act.put, List.setIfInBounds_toArray, List.set_cons_zero, List.set_cons_succ])
      refine takeL (i := 4) (v := ?_) rfl (by kernel_rfl) (by kernel_rfl) (by kernel_rfl) (fun _ _ _ h => h) ⟨by rfl, ?_⟩ (by first | assumption | trivial) ?_
      rotate_left
      · intro W9 hSw
        (try dsimp only at hSw)
        (have y := (TB7.out.next hSw).hd.c 17 _ rfl; have yl := (TB7.out.next hSw).hd.lt)
        go_simp
        try with_reducible rfl
      (try simp only [Act.put, List.setIfInBounds_toArray, List.set_cons_zero, List.set_cons_succ])
      refine takeL (i := 5) (v := ?_) rfl (by kernel_rfl) (by kernel_rfl) (by kernel_rfl) (fun _ _ _ h => h) ⟨by rfl, ?_⟩ (by first | assumption | trivial) ?_
      rotate_left
      · intro W9 hSw
        (try dsimp only at hSw)
        go_simp
        try with_reducible rfl
      (try simp only [Act.put, List.setIfInBounds_toArray, List.set_cons_zero, List.set_cons_succ])
      refine takeL (i := 6) (v := ?_) rfl (by kernel_rfl) (by kernel_rfl) (by kernel_rfl) (fun _ _ _ h => h) ⟨by rfl, ?_⟩ (by first | assumption | trivial) ?_
      rotate_left
      · intro W9 hSw
        (try dsimp only at hSw)
        go_simp
        try with_reducible rfl
      (try simp only [Act.put, List.setIfInBounds_toArray, List.set_cons_zero, List.set_cons_succ])
      refine takeL (i := 7) (v := ?_) rfl (by kernel_rfl) (by kernel_rfl) (by kernel_rfl) (fun _ _ _ h => h) ⟨by rfl, ?_⟩ (by first | assumption | trivial) ?_
      rotate_left
      · intro W9 hSw
        (try dsimp only at hSw)
        go_simp
        try with_reducible rfl
      (try simp only [Act.put, List.setIfInBounds_toArray, List.set_cons_zero, List.set_cons_succ])
      refine takeL (i := 8) (v := ?_) rfl (by kernel_rfl) (by kernel_rfl) (by kernel_rfl) (fun _ _ _ h => h) ⟨by rfl, ?_⟩ (by first | assumption | trivial) ?_
      rotate_left
      · intro W9 hSw
        (try dsimp only at hSw)
        (have y := (TB7.out.next hSw).hd.c 18 _ rfl; have yl := (TB7.out.next hSw).hd.lt)
        go_simp
        try with_reducible rfl
      (try simp only [Act.put, List.setIfInBounds_toArray, List.set_cons_zero, List.set_cons_succ])
      refine takeL (i := 9) (v := ?_) rfl (by kernel_rfl) (by kernel_rfl) (by kernel_rfl) (fun _ _ _ h => h) ⟨by rfl, ?_⟩ (by first | assumption | trivial) ?_
      rotate_left
      · intro W9 hSw
        (try dsimp only at hSw)
        go_simp
        try with_reducible rfl
      (try simp only [Act.put, List.setIfInBounds_toArray, List.set_cons_zero, List.set_cons_succ])
      refine takeL (i := 10) (v := ?_) rfl (by kernel_rfl) (by kernel_rfl) (by kernel_rfl) (fun _ _ _ h => h) ⟨by rfl, ?_⟩ (by first | assumption | trivial) ?_
      rotate_left
      · intro W9 hSw
        (try dsimp only at hSw)
        go_simp
        try with_reducible rfl
      (try simp only [Act.put, List.setIfInBounds_toArray, List.set_cons_zero, List.set_cons_succ])
      refine takeL (i := 11) (v := ?_) rfl (by kernel_rfl) (by kernel_rfl) (by kernel_rfl) (fun _ _ _ h => h) ⟨by rfl, ?_⟩ (by first | assumption | trivial) ?_
      rotate_left
      · intro W9 hSw
        (try dsimp only at hSw)
        go_simp
        try with_reducible rfl
      (try simp only [Act.put, List.setIfInBounds_toArray, List.set_cons_zero, List.set_cons_succ])
      refine takeL (i := 12) (v := ?_) rfl (by kernel_rfl) (by kernel_rfl) (by kernel_rfl) (fun _ _ _ h => h) ⟨by rfl, ?_⟩ (by first | assumption | trivial) ?_
      rotate_left
      · intro W9 hSw
        (try dsimp only at hSw)
        (have y := (hSw.cell (p := ⟨bh, oh + rm, none⟩) hbh).trans hch; have yl := World.block_lt_of_cell? W9 _ y)
        go_simp
        try with_reducible rfl
      (try simp only [Act.put, List.setIfInBounds_toArray, List.set_cons_zero, List.set_cons_succ])
      clear hHeld
      have hdr : Below w7.heap.size w7 w7.drew := Below.drew (Below.refl _ _)
      have XG8 := Lib.hid (XG7.out.next hdr)
      have X8 := Lib.hid (X7.out.next hdr)
      have XP8 := Lib.hid (XP7.out.next hdr)
      have B8 := Lib.hid (B7.out.trans (hdr.mono B7.out.size))
      clear hdr XG7 X7 XP7 B7 TB7 HG7
      generalize w7.drew = Y at *
      refine wpAnyH_done (by kernel_rfl) ?_ _
      simp only [tailPost, List.drop_succ_cons, List.drop_zero]
      have g4 := XG8.out.c 4 _ rfl
      have gf := XG8.out.fz
      have gl := XG8.out.lt
      go_upto_region 14 with (fail)
      have XG9 := Lib.hid (bxv_put XG8.out 4 (by rw [ndc_len]; omega) (.int .i64 x))
      rw [ndc_tow _ _ _ _ hx12.1] at XG9
      have X9 := Lib.hid (bxv_far X8.out (p := gn) (by omega) 4 (.int .i64 x))
      have XP9 := Lib.hid (bxv_far XP8.out (p := gn) (by omega) 4 (.int .i64 x))
      have B9 := Lib.hid (B8.out.setCell (p := ⟨gn, 4, none⟩) hgn (.int .i64 x))
      have ht12 : 1 ≤ x.toNat ∧ x.toNat ≤ 12 := by omega
      clear XG8 X8 XP8 B8 g4 gf gl
      generalize Y.setCell ⟨gn, 4, none⟩ (.int .i64 x) = w9 at *
      generalize x.toNat = t at *
      have g4 := XG9.out.c 4 _ rfl
      have gl := XG9.out.lt
      have HTG : Hid (T ≠ gn) := Lib.hid (by have := TB.out.hd.lt; omega)
      have HAL : Hid (∀ n ∈ aheadP e N ++ aheadQ e N, n.g ≠ gn) := Lib.hid (fun n hn => by
        rw [← ahead_app] at hn
        obtain ⟨i, hi⟩ := List.mem_iff_getElem?.1 hn
        have := (TB.out.nd i n hi).lt
        omega)
      have HDS : Hid (∀ u, (T :: (aheadP e N ++ (⟨gn, e, t, u⟩ : Nd) :: aheadQ e N).map Nd.g).Nodup) := Lib.hid (fun u => dis_ins (by rw [← ahead_app]; exact TB.out.dis) HTG.out HAL.out u)
      have HU12 : Hid (∀ m ∈ aheadP e N, m.u ≤ 12) := Lib.hid (fun m hm => by
        have h := TB.out.full m (by rw [ahead_app e N]; exact List.mem_append_left _ hm)
        omega)
      have TM0 : Hid (TbM w9 T (some ⟨bh, oh, none⟩) k c (aheadP e N ++ ⟨gn, e, t, 0⟩ :: aheadQ e N) (N.length : Int) sz) := Lib.hid (tbm_zero (by rw [← ahead_app]; exact TB.out.m.next B9.out) XG9.out)
      have F9 : Hid (FrT (T :: N.map Nd.g) w w9) := Lib.hid (FrT.of B9.out)
      clear XG9 B9
      go_wp2_with fail
      clear g4 gl
      go_loopw [82] (fun s82 wr => ∃ u : Nat, s82 = .int .i64 (u : Int) ∧ u ≤ t ∧ Hid (TbM wr T (some ⟨bh, oh, none⟩) k c (aheadP e N ++ ⟨gn, e, t, u⟩ :: aheadQ e N) (N.length : Int) sz) ∧ Hid (BxV wr be [.string e.key, .string e.val, .int .i64 e.seq, .bool e.del]) ∧ Hid (BxV wr bq [.pointer (some ⟨pv 0, 0, none⟩), .pointer (some ⟨pv 1, 0, none⟩), .pointer (some ⟨pv 2, 0, none⟩), .pointer (some ⟨pv 3, 0, none⟩), .pointer (some ⟨pv 4, 0, none⟩), .pointer (some ⟨pv 5, 0, none⟩), .pointer (some ⟨pv 6, 0, none⟩), .pointer (some ⟨pv 7, 0, none⟩), .pointer (some ⟨pv 8, 0, none⟩), .pointer (some ⟨pv 9, 0, none⟩), .pointer (some ⟨pv 10, 0, none⟩), .pointer (some ⟨pv 11, 0, none⟩)]) ∧ Hid (FrT (T :: N.map Nd.g) w wr)) (fun s82 _ => t - (intOf s82).toNat)
      case atStart => exact ⟨0, rfl, Nat.zero_le _, TM0, X9, XP9, F9⟩
      case round =>
        clear TM0 X9 XP9 F9
        obtain ⟨u, rfl, hut, TMU, XE1, XP1, F1⟩ := hrel
        obtain ⟨w1, rfl⟩ : ∃ x, x = wr := ⟨_, rfl⟩
        by_cases hlt2 : u < t
        · have hu12 : u < 12 := by omega
          have cpv := XP1.out.c u _ (pv_get pv hu12)
          have cpn := TMU.out.prev HU12.out hu12
          rw [show nxv u (⟨gn, e, t, u⟩ :: aheadQ e N) = nxv u (aheadQ e N) by rw [nxv, if_neg (by show ¬ u < u; omega)], ← HL.out u hu12] at cpn
          have HGN := Lib.hid (TMU.out.nd (aheadP e N).length ⟨gn, e, t, u⟩ (by rw [List.getElem?_append_right (Nat.le_refl _), Nat.sub_self]; rfl))
          have cgn := HGN.out.c _ _ (ndc_get _ _ hu12)
          have fgn := HGN.out.fz
          have hpg : pv u ≠ gn := by
            rw [HL.out u hu12]
            rcases lst_in u (aheadP e N) T with e1 | ⟨m, hm, _, e1⟩
            · rw [e1]; exact HTG.out
            · rw [e1]; exact HAL.out m (List.mem_append_left _ hm)
          have hpf : ∀ o, w1.frozen? ⟨pv u, o, none⟩ = false := by
            rw [HL.out u hu12]
            rcases lst_in u (aheadP e N) T with e1 | ⟨m, hm, _, e1⟩
            · rw [e1]; exact TMU.out.hd.fz
            · obtain ⟨i, hi⟩ := List.mem_iff_getElem?.1 hm
              have hj := (List.getElem?_eq_some_iff.1 hi).1
              rw [e1]
              exact (TMU.out.nd i m (by rw [List.getElem?_append_left hj]; exact hi)).fz
          have hpS : pv u ∈ (T :: N.map Nd.g) := by
            rw [HL.out u hu12]
            rcases lst_in u (aheadP e N) T with e1 | ⟨m, hm, _, e1⟩
            · rw [e1]; exact List.mem_cons_self ..
            · rw [e1]
              exact List.mem_cons_of_mem _ (List.mem_map.2 ⟨m, by rw [ahead_app e N]; exact List.mem_append_left _ hm, rfl⟩)
          obtain ⟨vo, hvo⟩ := nxv_ptr u (aheadQ e N)
          have HVO := Lib.hid hvo
          rw [hvo] at cpn
          clear hvo
          have HCV := Lib.hid cpv
          have HCN := Lib.hid cpn
          have HCG := Lib.hid cgn
          have HPF := Lib.hid hpf
          have HPS := Lib.hid hpS
          have zgn : gn < w1.heap.size := HGN.out.lt
          have zpv : pv u < w1.heap.size := World.block_lt_of_cell? w1 _ cpn
          have zbq : bq < w1.heap.size := XP1.out.lt
          have j0 : (0 : Int) ≤ (u : Int) := by omega
          have j1 : (u : Int) < 12 := by omega
          have j2 : (u : Int) < (t : Int) := by omega
          have hbqg : gn ≠ bq := by omega
          have hbeg : gn ≠ be := by omega
          have hq2 : pv u ≠ bq := by
            intro e1
            rcases List.mem_cons.1 HPS.out with h2 | h2
            · have := TB.out.hd.lt; omega
            · obtain ⟨m, hm, e2⟩ := List.mem_map.1 h2
              obtain ⟨i, hi⟩ := List.mem_iff_getElem?.1 hm
              have := (TB.out.nd i m hi).lt
              omega
          have hq3 : pv u ≠ be := by
            intro e1
            rcases List.mem_cons.1 HPS.out with h2 | h2
            · have := TB.out.hd.lt; omega
            · obtain ⟨m, hm, e2⟩ := List.mem_map.1 h2
              obtain ⟨i, hi⟩ := List.mem_iff_getElem?.1 hm
              have := (TB.out.nd i m hi).lt
              omega
          clear cpv cpn cgn fgn hpf hpS
          go_wp2_with fail
          have hdr : Below w1.heap.size w1 w1.drew := Below.drew (Below.refl _ _)
          have TM2 := Lib.hid (TMU.out.next hdr)
          have XE2 := Lib.hid (XE1.out.next hdr)
          have XP2 := Lib.hid (XP1.out.next hdr)
          have F2 := Lib.hid (F1.out.then hdr)
          have cgn := (hdr.cell (p := ⟨gn, 5 + u, none⟩) zgn).trans HCG.out
          have fgn := (hdr.frozen (p := ⟨gn, 5 + u, none⟩) zgn).trans (HGN.out.fz (5 + u))
          have cpn := (hdr.cell (p := ⟨pv u, 5 + u, none⟩) zpv).trans HCN.out
          have fpn := (hdr.frozen (p := ⟨pv u, 5 + u, none⟩) zpv).trans (HPF.out (5 + u))
          have yg : gn < w1.drew.heap.size := Nat.lt_of_lt_of_le zgn hdr.size
          have yp : pv u < w1.drew.heap.size := Nat.lt_of_lt_of_le zpv hdr.size
          have cbq := (hdr.cell (p := ⟨bq, u, none⟩) zbq).trans HCV.out
          have ybq : bq < w1.drew.heap.size := Nat.lt_of_lt_of_le zbq hdr.size
          clear hdr TMU XE1 XP1 F1 HGN
          refine wp_heldall (S := fun W => bq < W.heap.size ∧ W.cell? ⟨bq, u, none⟩ = some (.pointer (some ⟨pv u, 0, none⟩))) 23 (by kernel_rfl) rfl ⟨ybq, cbq⟩ (fun hHeld => ?_)
          generalize w1.drew = Y at *
          refine takeL (i := 0) (v := ?_) rfl (by kernel_rfl) (by kernel_rfl) (by kernel_rfl) (fun _ _ _ h => h) ⟨by rfl, ?_⟩ (by first | assumption | trivial) ?_
          rotate_left
          · intro W9 hSw
            (try dsimp only at hSw)
            go_simp
            try with_reducible rfl
          (try simp only [Act.put, List.setIfInBounds_toArray, List.set_cons_zero, List.set_cons_succ])
          refine takeL (i := 1) (v := ?_) rfl (by kernel_rfl) (by kernel_rfl) (by kernel_rfl) (fun _ _ _ h => h) ⟨by rfl, ?_⟩ (by first | assumption | trivial) ?_
          rotate_left
          · intro W9 hSw
            (try dsimp only at hSw)
            go_simp
            try with_reducible rfl
          (try simp only [Act.put, List.setIfInBounds_toArray, List.set_cons_zero, List.set_cons_succ])
          refine takeL (i := 2) (v := ?_) rfl (by kernel_rfl) (by kernel_rfl) (by kernel_rfl) (fun _ _ _ h => h) ⟨by rfl, ?_⟩ (by first | assumption | trivial) ?_
          rotate_left
          · intro W9 hSw
            (try dsimp only at hSw)
            go_simp
            try with_reducible rfl
          (try simp only [Act.put, List.setIfInBounds_toArray, List.set_cons_zero, List.set_cons_succ])
          refine takeL (i := 3) (v := ?_) rfl (by kernel_rfl) (by kernel_rfl) (by kernel_rfl) (fun _ _ _ h => h) ⟨by rfl, ?_⟩ (by first | assumption | trivial) ?_
          rotate_left
          · intro W9 hSw
            (try dsimp only at hSw)
            go_simp
            try with_reducible rfl
          (try simp only [Act.put, List.setIfInBounds_toArray, List.set_cons_zero, List.set_cons_succ])
          refine takeL (i := 4) (v := ?_) rfl (by kernel_rfl) (by kernel_rfl) (by kernel_rfl) (fun _ _ _ h => h) ⟨by rfl, ?_⟩ (by first | assumption | trivial) ?_
          rotate_left
          · intro W9 hSw
            (try dsimp only at hSw)
            (have y := hSw.2; have yl := hSw.1)
            go_simp
            try with_reducible rfl
          (try simp only [Act.put, List.setIfInBounds_toArray, List.set_cons_zero, List.set_cons_succ])
          refine takeL (i := 5) (v := ?_) rfl (by kernel_rfl) (by kernel_rfl) (by kernel_rfl) (fun _ _ _ h => h) ⟨by rfl, ?_⟩ (by first | assumption | trivial) ?_
          rotate_left
          · intro W9 hSw
            (try dsimp only at hSw)
            go_simp
            try with_reducible rfl
          (try simp only [Act.put, List.setIfInBounds_toArray, List.set_cons_zero, List.set_cons_succ])
          refine takeL (i := 6) (v := ?_) rfl (by kernel_rfl) (by kernel_rfl) (by kernel_rfl) (fun _ _ _ h => h) ⟨by rfl, ?_⟩ (by first | assumption | trivial) ?_
          rotate_left
          · intro W9 hSw
            (try dsimp only at hSw)
            go_simp
            try with_reducible rfl
          (try simp only [Act.put, List.setIfInBounds_toArray, List.set_cons_zero, List.set_cons_succ])
          refine takeL (i := 7) (v := ?_) rfl (by kernel_rfl) (by kernel_rfl) (by kernel_rfl) (fun _ _ _ h => h) ⟨by rfl, ?_⟩ (by first | assumption | trivial) ?_
          rotate_left
          · intro W9 hSw
            (try dsimp only at hSw)
            go_simp
            try with_reducible rfl
          (try simp only [Act.put, List.setIfInBounds_toArray, List.set_cons_zero, List.set_cons_succ])
          refine takeL (i := 8) (v := ?_) rfl (by kernel_rfl) (by kernel_rfl) (by kernel_rfl) (fun _ _ _ h => h) ⟨by rfl, ?_⟩ (by first | assumption | trivial) ?_
          rotate_left
          · intro W9 hSw
            (try dsimp only at hSw)
            (have y := hSw.2; have yl := hSw.1)
            go_simp
            try with_reducible rfl
          (try simp only [Act.put, List.setIfInBounds_toArray, List.set_cons_zero, List.set_cons_succ])
          refine takeL (i := 9) (v := ?_) rfl (by kernel_rfl) (by kernel_rfl) (by kernel_rfl) (fun _ _ _ h => h) ⟨by rfl, ?_⟩ (by first | assumption | trivial) ?_
          rotate_left
          · intro W9 hSw
            (try dsimp only at hSw)
            go_simp
            try with_reducible rfl
          (try simp only [Act.put, List.setIfInBounds_toArray, List.set_cons_zero, List.set_cons_succ])
          refine takeL (i := 10) (v := ?_) rfl (by kernel_rfl) (by kernel_rfl) (by kernel_rfl) (fun _ _ _ h => h) ⟨by rfl, ?_⟩ (by first | assumption | trivial) ?_
          rotate_left
          · intro W9 hSw
            (try dsimp only at hSw)
            go_simp
            try with_reducible rfl
          (try simp only [Act.put, List.setIfInBounds_toArray, List.set_cons_zero, List.set_cons_succ])
          refine takeL (i := 11) (v := ?_) rfl (by kernel_rfl) (by kernel_rfl) (by kernel_rfl) (fun _ _ _ h => h) ⟨by rfl, ?_⟩ (by first | assumption | trivial) ?_
          rotate_left
          · intro W9 hSw
            (try dsimp only at hSw)
            go_simp
            try with_reducible rfl
          (try simp only [Act.put, List.setIfInBounds_toArray, List.set_cons_zero, List.set_cons_succ])
          refine takeL (i := 12) (v := ?_) rfl (by kernel_rfl) (by kernel_rfl) (by kernel_rfl) (fun _ _ _ h => h) ⟨by rfl, ?_⟩ (by first | assumption | trivial) ?_
          rotate_left
          · intro W9 hSw
            (try dsimp only at hSw)
            go_simp
            try with_reducible rfl
          (try simp only [Act.put, List.setIfInBounds_toArray, List.set_cons_zero, List.set_cons_succ])
          refine takeL (i := 14) (v := ?_) rfl (by kernel_rfl) (by kernel_rfl) (by kernel_rfl) (fun _ _ _ h => h) ⟨by rfl, ?_⟩ (by first | assumption | trivial) ?_
          rotate_left
          · intro W9 hSw
            (try dsimp only at hSw)
            go_simp
            try with_reducible rfl
          (try simp only [Act.put, List.setIfInBounds_toArray, List.set_cons_zero, List.set_cons_succ])
          refine takeL (i := 15) (v := ?_) rfl (by kernel_rfl) (by kernel_rfl) (by kernel_rfl) (fun _ _ _ h => h) ⟨by rfl, ?_⟩ (by first | assumption | trivial) ?_
          rotate_left
          · intro W9 hSw
            (try dsimp only at hSw)
            go_simp
            try with_reducible rfl
          (try simp only [Act.put, List.setIfInBounds_toArray, List.set_cons_zero, List.set_cons_succ])
          refine takeL (i := 16) (v := ?_) rfl (by kernel_rfl) (by kernel_rfl) (by kernel_rfl) (fun _ _ _ h => h) ⟨by rfl, ?_⟩ (by first | assumption | trivial) ?_
          rotate_left
          · intro W9 hSw
            (try dsimp only at hSw)
            go_simp
            try with_reducible rfl
          (try simp only [Act.put, List.setIfInBounds_toArray, List.set_cons_zero, List.set_cons_succ])
          refine takeL (i := 19) (v := ?_) rfl (by kernel_rfl) (by kernel_rfl) (by kernel_rfl) (fun _ _ _ h => h) ⟨by rfl, ?_⟩ (by first | assumption | trivial) ?_
          rotate_left
          · intro W9 hSw
            (try dsimp only at hSw)
            go_simp
            try with_reducible rfl
          (try simp only [Act.put, List.setIfInBounds_toArray, List.set_cons_zero, List.set_cons_succ])
          refine takeL (i := 20) (v := ?_) rfl (by kernel_rfl) (by kernel_rfl) (by kernel_rfl) (fun _ _ _ h => h) ⟨by rfl, ?_⟩ (by first | assumption | trivial) ?_
          rotate_left
          · intro W9 hSw
            (try dsimp only at hSw)
            go_simp
            try with_reducible rfl
          (try simp only [Act.put, List.setIfInBounds_toArray, List.set_cons_zero, List.set_cons_succ])
          refine wpAnyH_ready (rs := [13]) (by kernel_rfl) (by simp) ?_
          refine consL rfl (by rfl) (fun K hK => ?_) ?_
          · go_simp
            refine hK.out _ _ hHeld (fun _ => ?_)
            clear hK K
            (try simp only [Act.put, List.setIfInBounds_toArray, List.set_cons_zero, List.set_cons_succ])
            refine takeL (i := 17) (v := ?_) rfl (by kernel_rfl) (by kernel_rfl) (by kernel_rfl) (fun _ _ _ h => h) ⟨by rfl, ?_⟩ (by first | assumption | trivial) ?_
            rotate_left
            · intro W9 hSw
              (try dsimp only at hSw)
              go_simp
              try with_reducible rfl
            (try simp only [Act.put, List.setIfInBounds_toArray, List.set_cons_zero, List.set_cons_succ])
            refine wpAnyH_ready (rs := [18]) (by kernel_rfl) (by simp) ?_
            refine consL rfl (by rfl) (fun K hK => ?_) ?_
            · go_simp
              have TM3 := Lib.hid (tbm_up TM2.out hu12 (HDS.out u))
              rw [← HL.out u hu12, HVO.out] at TM3
              unfold ptr at TM3
              have XE3 := Lib.hid (bxv_far (bxv_far XE2.out hbeg (5 + u) (.pointer vo)) hq3 (5 + u) (.pointer (some ⟨gn, 0, none⟩)))
              have XP3 := Lib.hid (bxv_far (bxv_far XP2.out hbqg (5 + u) (.pointer vo)) hq2 (5 + u) (.pointer (some ⟨gn, 0, none⟩)))
              have F3 := Lib.hid ((F2.out.put (b := gn) (.inr hgn) (5 + u) (.pointer vo)).put (b := pv u) (.inl HPS.out) (5 + u) (.pointer (some ⟨gn, 0, none⟩)))
              have hgp : gn ≠ pv u := fun e => hpg e.symm
              have cpn2 : (Y.setCell ⟨gn, 5 + u, none⟩ (.pointer vo)).cell? ⟨pv u, 5 + u, none⟩ = some (.pointer vo) := (World.cell?_setCell_far _ _ _ _ (show (⟨gn, 5 + u, none⟩ : Addr).block ≠ (⟨pv u, 5 + u, none⟩ : Addr).block from hgp)).trans cpn
              have hH2 := hHeld
              refine hK.out _ _ ⟨by simpa using ybq, (World.cell?_setCell_far _ _ _ _ (show (⟨gn, 5 + u, none⟩ : Addr).block ≠ (⟨bq, u, none⟩ : Addr).block from hbqg)).trans cbq⟩ (fun _ => ?_)
              clear hK K
              (try simp only [Act.put, List.setIfInBounds_toArray, List.set_cons_zero, List.set_cons_succ])
              refine takeL (i := 21) (v := ?_) rfl (by kernel_rfl) (by kernel_rfl) (by kernel_rfl) (fun _ _ _ h => h) ⟨by rfl, ?_⟩ (by first | assumption | trivial) ?_
              rotate_left
              · intro W9 hSw
                (try dsimp only at hSw)
                go_simp
                try with_reducible rfl
              (try simp only [Act.put, List.setIfInBounds_toArray, List.set_cons_zero, List.set_cons_succ])
              refine wpAnyH_ready (rs := [22]) (by kernel_rfl) (by simp) ?_
              refine consL rfl (by rfl) (fun K hK => ?_) ?_
              · go_simp
                refine hK.out _ _ ⟨by simpa using ybq, (World.cell?_setCell_far _ _ _ _ (show (⟨pv u, 5 + u, none⟩ : Addr).block ≠ (⟨bq, u, none⟩ : Addr).block from hq2)).trans ((World.cell?_setCell_far _ _ _ _ (show (⟨gn, 5 + u, none⟩ : Addr).block ≠ (⟨bq, u, none⟩ : Addr).block from hbqg)).trans cbq)⟩ (fun _ => ?_)
                clear hK K
                (try simp only [Act.put, List.setIfInBounds_toArray, List.set_cons_zero, List.set_cons_succ])
                clear TM2 XE2 XP2 F2
                refine wpAnyH_done (by kernel_rfl) ?_ _
                go_wp2_with fail
                go_roundw
                case rel => exact ⟨u + 1, by go_num, by omega, TM3, XE3, XP3, F3⟩
                case measure => simp [intOf]; omega
              · exact AllReadyH.nil
            · exact AllReadyH.nil
          · exact AllReadyH.nil
        · obtain rfl : u = t := by omega
          have j2 : ¬ (u : Int) < (u : Int) := by omega
          have t18 := TMU.out.hd.c 18 _ rfl
          have t19 := TMU.out.hd.c 19 _ rfl
          have tf := TMU.out.hd.fz
          have tl := TMU.out.hd.lt
          have hw18 : IntKind.i64.wrap ((N.length : Int) + 1) = (N.length : Int) + 1 := IntWalk.i64_in _ (by omega)
          clear hlt2
          go_upto_region 20 with (fail)
          have TM5 : Hid (TbM (w1.setCell ⟨T, 18, none⟩ (.int .i64 ((N.length : Int) + 1))) T (some ⟨bh, oh, none⟩) k c (aheadP e N ++ ⟨gn, e, u, u⟩ :: aheadQ e N) ((N.length : Int) + 1) sz) := Lib.hid (tbm_t TMU.out (HDS.out u) 18 _ (by omega) (tbc_len _ _ _ _ _ _ _))
          have XE5 := Lib.hid (bxv_far XE1.out (p := T) (by have := TB.out.hd.lt; omega) 18 (.int .i64 ((N.length : Int) + 1)))
          have F5 := Lib.hid (F1.out.put (b := T) (.inl (List.mem_cons_self ..)) 18 (.int .i64 ((N.length : Int) + 1)))
          clear TMU XE1 XP1 F1 t18 t19 tf tl hw18
          generalize w1.setCell ⟨T, 18, none⟩ (.int .i64 ((N.length : Int) + 1)) = w5 at *
          refine wp_heldcut (S := fun W => Below w5.heap.size w5 W) 12 (by kernel_rfl) (by kernel_rfl) (Below.drew (Below.refl _ _)) (fun hHeld => ?_)
          simp only [List.take_succ_cons, List.take_zero]
          refine takeL (i := 0) (v := ?_) rfl (by kernel_rfl) (by kernel_rfl) (by kernel_rfl) (fun _ _ _ h => h) ⟨by rfl, ?_⟩ (by first | assumption | trivial) ?_
          rotate_left
          · intro W9 hSw
            (try dsimp only at hSw)
            go_simp
            try with_reducible rfl
          (try simp only [Act.put, List.setIfInBounds_toArray, List.set_cons_zero, List.set_cons_succ])
          refine takeL (i := 1) (v := ?_) rfl (by kernel_rfl) (by kernel_rfl) (by kernel_rfl) (fun _ _ _ h => h) ⟨by rfl, ?_⟩ (by first | assumption | trivial) ?_
          rotate_left
          · intro W9 hSw
            (try dsimp only at hSw)
            go_simp
            try with_reducible rfl
          (try simp only [Act.put, List.setIfInBounds_toArray, List.set_cons_zero, List.set_cons_succ])
          refine takeL (i := 2) (v := ?_) rfl (by kernel_rfl) (by kernel_rfl) (by kernel_rfl) (fun _ _ _ h => h) ⟨by rfl, ?_⟩ (by first | assumption | trivial) ?_
          rotate_left
          · intro W9 hSw
            (try dsimp only at hSw)
            go_simp
            try with_reducible rfl
          (try simp only [Act.put, List.setIfInBounds_toArray, List.set_cons_zero, List.set_cons_succ])
          refine takeL (i := 3) (v := ?_) rfl (by kernel_rfl) (by kernel_rfl) (by kernel_rfl) (fun _ _ _ h => h) ⟨by rfl, ?_⟩ (by first | assumption | trivial) ?_
          rotate_left
          · intro W9 hSw
            (try dsimp only at hSw)
            (have y := (TM5.out.next hSw).hd.c 19 _ rfl; have yl := (TM5.out.next hSw).hd.lt)
            go_simp
            try with_reducible rfl
          (try simp only [Act.put, List.setIfInBounds_toArray, List.set_cons_zero, List.set_cons_succ])
          refine takeL (i := 4) (v := ?_) rfl (by kernel_rfl) (by kernel_rfl) (by kernel_rfl) (fun _ _ _ h => h) ⟨by rfl, ?_⟩ (by first | assumption | trivial) ?_
          rotate_left
          · intro W9 hSw
            (try dsimp only at hSw)
            go_simp
            try with_reducible rfl
          (try simp only [Act.put, List.setIfInBounds_toArray, List.set_cons_zero, List.set_cons_succ])
          refine takeL (i := 5) (v := ?_) rfl (by kernel_rfl) (by kernel_rfl) (by kernel_rfl) (fun _ _ _ h => h) ⟨by rfl, ?_⟩ (by first | assumption | trivial) ?_
          rotate_left
          · intro W9 hSw
            (try dsimp only at hSw)
            (have y := (XE5.out.next hSw).c 0 _ rfl; have yl := (XE5.out.next hSw).lt)
            go_simp
            try with_reducible rfl
          (try simp only [Act.put, List.setIfInBounds_toArray, List.set_cons_zero, List.set_cons_succ])
          refine takeL (i := 6) (v := ?_) rfl (by kernel_rfl) (by kernel_rfl) (by kernel_rfl) (fun _ _ _ h => h) ⟨by rfl, ?_⟩ (by first | assumption | trivial) ?_
          rotate_left
          · intro W9 hSw
            (try dsimp only at hSw)
            go_simp
            try with_reducible rfl
          (try simp only [Act.put, List.setIfInBounds_toArray, List.set_cons_zero, List.set_cons_succ])
          refine takeL (i := 7) (v := ?_) rfl (by kernel_rfl) (by kernel_rfl) (by kernel_rfl) (fun _ _ _ h => h) ⟨by rfl, ?_⟩ (by first | assumption | trivial) ?_
          rotate_left
          · intro W9 hSw
            (try dsimp only at hSw)
            go_simp
            try with_reducible rfl
          (try simp only [Act.put, List.setIfInBounds_toArray, List.set_cons_zero, List.set_cons_succ])
          refine takeL (i := 8) (v := ?_) rfl (by kernel_rfl) (by kernel_rfl) (by kernel_rfl) (fun _ _ _ h => h) ⟨by rfl, ?_⟩ (by first | assumption | trivial) ?_
          rotate_left
          · intro W9 hSw
            (try dsimp only at hSw)
            (have y := (XE5.out.next hSw).c 1 _ rfl; have yl := (XE5.out.next hSw).lt)
            go_simp
            try with_reducible rfl
          (try simp only [Act.put, List.setIfInBounds_toArray, List.set_cons_zero, List.set_cons_succ])
          refine takeL (i := 9) (v := ?_) rfl (by kernel_rfl) (by kernel_rfl) (by kernel_rfl) (fun _ _ _ h => h) ⟨by rfl, ?_⟩ (by first | assumption | trivial) ?_
          rotate_left
          · intro W9 hSw
            (try dsimp only at hSw)
            go_simp
            try with_reducible rfl
          (try simp only [Act.put, List.setIfInBounds_toArray, List.set_cons_zero, List.set_cons_succ])
          refine takeL (i := 10) (v := ?_) rfl (by kernel_rfl) (by kernel_rfl) (by kernel_rfl) (fun _ _ _ h => h) ⟨by rfl, ?_⟩ (by first | assumption | trivial) ?_
          rotate_left
          · intro W9 hSw
            (try dsimp only at hSw)
            go_simp
            try with_reducible rfl
          (try simp only [Act.put, List.setIfInBounds_toArray, List.set_cons_zero, List.set_cons_succ])
          refine takeL (i := 11) (v := ?_) rfl (by kernel_rfl) (by kernel_rfl) (by kernel_rfl) (fun _ _ _ h => h) ⟨by rfl, ?_⟩ (by first | assumption | trivial) ?_
          rotate_left
          · intro W9 hSw
            (try dsimp only at hSw)
            go_simp
            try with_reducible rfl
          (try simp only [Act.put, List.setIfInBounds_toArray, List.set_cons_zero, List.set_cons_succ])
          clear hHeld
          have hdr : Below w5.heap.size w5 w5.drew := Below.drew (Below.refl _ _)
          have TM6 := Lib.hid (TM5.out.next hdr)
          have F6 := Lib.hid (F5.out.then hdr)
          clear hdr TM5 XE5 F5
          generalize w5.drew = Y at *
          refine wpAnyH_done (by kernel_rfl) ?_ _
          simp only [tailPost, List.drop_succ_cons, List.drop_zero]
          have t19 := TM6.out.hd.c 19 _ rfl
          have tf := TM6.out.hd.fz
          have tl := TM6.out.hd.lt
          obtain ⟨z, hz⟩ : ∃ z, z = sz + (e.key.size : Int) + (e.val.size : Int) := ⟨_, rfl⟩
          have hw19 : IntKind.i64.wrap (sz + ((e.key.size : Int) + (e.val.size : Int))) = z := by rw [IntWalk.i64_in _ (by omega)]; omega
          have hw20 : sz + ((e.key.size : Int) + (e.val.size : Int)) = z := by omega
          go_wp2_with fail
          have TM7 : Hid (TbM (Y.setCell ⟨T, 19, none⟩ (.int .i64 z)) T (some ⟨bh, oh, none⟩) k c (aheadP e N ++ ⟨gn, e, u, u⟩ :: aheadQ e N) ((N.length : Int) + 1) z) := Lib.hid (tbm_t TM6.out (HDS.out u) 19 _ (by omega) (tbc_sz _ _ _ _ _ _ _))
          have F7 := Lib.hid (F6.out.put (b := T) (.inl (List.mem_cons_self ..)) 19 (.int .i64 z))
          have FIN := Lib.hid (tbl_fin TB.out (ahead_app e N) hgn ht12 TM7.out F7.out)
          clear TM6 F6 TM7 t19 tf tl
          rw [hz] at FIN F7
          go_ret
          refine .inr ⟨HT.out, rfl, gn, hgn, ?_, F7.out⟩
          unfold insN
          rw [HTW.out]
          exact FIN.out
    · have hk00 : k = 0 := by omega
      have HTW : Hid (towN hs N.length = 1) := Lib.hid (by unfold towN; rw [if_pos (by rw [HKL.out]; omega)])
      have k1 : ¬ (0 : Int) < (k : Int) := by omega
      clear hk00
      go_upto_region 14 with (fail)
      have XG9 := XG7
      have X9 := X7
      have XP9 := XP7
      have B9 := B7
      clear XG7 X7 XP7 B7 TB7 t17 t18 tl
      obtain ⟨w9, rfl⟩ : ∃ x, x = w7 := ⟨_, rfl⟩
      obtain ⟨t, ht⟩ : ∃ t, t = 1 := ⟨_, rfl⟩
      have ht12 : 1 ≤ t ∧ t ≤ 12 := by omega
      rw [← ht] at HTW XG9
      clear ht
      have g4 := XG9.out.c 4 _ rfl
      have gl := XG9.out.lt
      have HTG : Hid (T ≠ gn) := Lib.hid (by have := TB.out.hd.lt; omega)
      have HAL : Hid (∀ n ∈ aheadP e N ++ aheadQ e N, n.g ≠ gn) := Lib.hid (fun n hn => by
        rw [← ahead_app] at hn
        obtain ⟨i, hi⟩ := List.mem_iff_getElem?.1 hn
        have := (TB.out.nd i n hi).lt
        omega)
      have HDS : Hid (∀ u, (T :: (aheadP e N ++ (⟨gn, e, t, u⟩ : Nd) :: aheadQ e N).map Nd.g).Nodup) := Lib.hid (fun u => dis_ins (by rw [← ahead_app]; exact TB.out.dis) HTG.out HAL.out u)
      have HU12 : Hid (∀ m ∈ aheadP e N, m.u ≤ 12) := Lib.hid (fun m hm => by
        have h := TB.out.full m (by rw [ahead_app e N]; exact List.mem_append_left _ hm)
        omega)
      have TM0 : Hid (TbM w9 T A k c (aheadP e N ++ ⟨gn, e, t, 0⟩ :: aheadQ e N) (N.length : Int) sz) := Lib.hid (tbm_zero (by rw [← ahead_app]; exact TB.out.m.next B9.out) XG9.out)
      have F9 : Hid (FrT (T :: N.map Nd.g) w w9) := Lib.hid (FrT.of B9.out)
      clear XG9 B9
      go_wp2_with fail
      clear g4 gl
      go_loopw [82] (fun s82 wr => ∃ u : Nat, s82 = .int .i64 (u : Int) ∧ u ≤ t ∧ Hid (TbM wr T A k c (aheadP e N ++ ⟨gn, e, t, u⟩ :: aheadQ e N) (N.length : Int) sz) ∧ Hid (BxV wr be [.string e.key, .string e.val, .int .i64 e.seq, .bool e.del]) ∧ Hid (BxV wr bq [.pointer (some ⟨pv 0, 0, none⟩), .pointer (some ⟨pv 1, 0, none⟩), .pointer (some ⟨pv 2, 0, none⟩), .pointer (some ⟨pv 3, 0, none⟩), .pointer (some ⟨pv 4, 0, none⟩), .pointer (some ⟨pv 5, 0, none⟩), .pointer (some ⟨pv 6, 0, none⟩), .pointer (some ⟨pv 7, 0, none⟩), .pointer (some ⟨pv 8, 0, none⟩), .pointer (some ⟨pv 9, 0, none⟩), .pointer (some ⟨pv 10, 0, none⟩), .pointer (some ⟨pv 11, 0, none⟩)]) ∧ Hid (FrT (T :: N.map Nd.g) w wr)) (fun s82 _ => t - (intOf s82).toNat)
      case atStart => exact ⟨0, rfl, Nat.zero_le _, TM0, X9, XP9, F9⟩
      case round =>
        clear TM0 X9 XP9 F9
        obtain ⟨u, rfl, hut, TMU, XE1, XP1, F1⟩ := hrel
        obtain ⟨w1, rfl⟩ : ∃ x, x = wr := ⟨_, rfl⟩
        by_cases hlt2 : u < t
        · have hu12 : u < 12 := by omega
          have cpv := XP1.out.c u _ (pv_get pv hu12)
          have cpn := TMU.out.prev HU12.out hu12
          rw [show nxv u (⟨gn, e, t, u⟩ :: aheadQ e N) = nxv u (aheadQ e N) by rw [nxv, if_neg (by show ¬ u < u; omega)], ← HL.out u hu12] at cpn
          have HGN := Lib.hid (TMU.out.nd (aheadP e N).length ⟨gn, e, t, u⟩ (by rw [List.getElem?_append_right (Nat.le_refl _), Nat.sub_self]; rfl))
          have cgn := HGN.out.c _ _ (ndc_get _ _ hu12)
          have fgn := HGN.out.fz
          have hpg : pv u ≠ gn := by
            rw [HL.out u hu12]
            rcases lst_in u (aheadP e N) T with e1 | ⟨m, hm, _, e1⟩
            · rw [e1]; exact HTG.out
            · rw [e1]; exact HAL.out m (List.mem_append_left _ hm)
          have hpf : ∀ o, w1.frozen? ⟨pv u, o, none⟩ = false := by
            rw [HL.out u hu12]
            rcases lst_in u (aheadP e N) T with e1 | ⟨m, hm, _, e1⟩
            · rw [e1]; exact TMU.out.hd.fz
            · obtain ⟨i, hi⟩ := List.mem_iff_getElem?.1 hm
              have hj := (List.getElem?_eq_some_iff.1 hi).1
              rw [e1]
              exact (TMU.out.nd i m (by rw [List.getElem?_append_left hj]; exact hi)).fz
          have hpS : pv u ∈ (T :: N.map Nd.g) := by
            rw [HL.out u hu12]
            rcases lst_in u (aheadP e N) T with e1 | ⟨m, hm, _, e1⟩
            · rw [e1]; exact List.mem_cons_self ..
            · rw [e1]
              exact List.mem_cons_of_mem _ (List.mem_map.2 ⟨m, by rw [ahead_app e N]; exact List.mem_append_left _ hm, rfl⟩)
          obtain ⟨vo, hvo⟩ := nxv_ptr u (aheadQ e N)
          have HVO := Lib.hid hvo
          rw [hvo] at cpn
          clear hvo
          have HCV := Lib.hid cpv
          have HCN := Lib.hid cpn
          have HCG := Lib.hid cgn
          have HPF := Lib.hid hpf
          have HPS := Lib.hid hpS
          have zgn : gn < w1.heap.size := HGN.out.lt
          have zpv : pv u < w1.heap.size := World.block_lt_of_cell? w1 _ cpn
          have zbq : bq < w1.heap.size := XP1.out.lt
          have j0 : (0 : Int) ≤ (u : Int) := by omega
          have j1 : (u : Int) < 12 := by omega
          have j2 : (u : Int) < (t : Int) := by omega
          have hbqg : gn ≠ bq := by omega
          have hbeg : gn ≠ be := by omega
          have hq2 : pv u ≠ bq := by
            intro e1
            rcases List.mem_cons.1 HPS.out with h2 | h2
            · have := TB.out.hd.lt; omega
            · obtain ⟨m, hm, e2⟩ := List.mem_map.1 h2
              obtain ⟨i, hi⟩ := List.mem_iff_getElem?.1 hm
              have := (TB.out.nd i m hi).lt
              omega
          have hq3 : pv u ≠ be := by
            intro e1
            rcases List.mem_cons.1 HPS.out with h2 | h2
            · have := TB.out.hd.lt; omega
            · obtain ⟨m, hm, e2⟩ := List.mem_map.1 h2
              obtain ⟨i, hi⟩ := List.mem_iff_getElem?.1 hm
              have := (TB.out.nd i m hi).lt
              omega
          clear cpv cpn cgn fgn hpf hpS
          go_wp2_with fail
          have hdr : Below w1.heap.size w1 w1.drew := Below.drew (Below.refl _ _)
          have TM2 := Lib.hid (TMU.out.next hdr)
          have XE2 := Lib.hid (XE1.out.next hdr)
          have XP2 := Lib.hid (XP1.out.next hdr)
          have F2 := Lib.hid (F1.out.then hdr)
          have cgn := (hdr.cell (p := ⟨gn, 5 + u, none⟩) zgn).trans HCG.out
          have fgn := (hdr.frozen (p := ⟨gn, 5 + u, none⟩) zgn).trans (HGN.out.fz (5 + u))
          have cpn := (hdr.cell (p := ⟨pv u, 5 + u, none⟩) zpv).trans HCN.out
          have fpn := (hdr.frozen (p := ⟨pv u, 5 + u, none⟩) zpv).trans (HPF.out (5 + u))
          have yg : gn < w1.drew.heap.size := Nat.lt_of_lt_of_le zgn hdr.size
          have yp : pv u < w1.drew.heap.size := Nat.lt_of_lt_of_le zpv hdr.size
          have cbq := (hdr.cell (p := ⟨bq, u, none⟩) zbq).trans HCV.out
          have ybq : bq < w1.drew.heap.size := Nat.lt_of_lt_of_le zbq hdr.size
          clear hdr TMU XE1 XP1 F1 HGN
          refine wp_heldall (S := fun W => bq < W.heap.size ∧ W.cell? ⟨bq, u, none⟩ = some (.pointer (some ⟨pv u, 0, none⟩))) 23 (by kernel_rfl) rfl ⟨ybq, cbq⟩ (fun hHeld => ?_)
          generalize w1.drew = Y at *
          refine takeL (i := 0) (v := ?_) rfl (by kernel_rfl) (by kernel_rfl) (by kernel_rfl) (fun _ _ _ h => h) ⟨by rfl, ?_⟩ (by first | assumption | trivial) ?_
          rotate_left
          · intro W9 hSw
            (try dsimp only at hSw)
            go_simp
            try with_reducible rfl
          (try simp only [Act.put, List.setIfInBounds_toArray, List.set_cons_zero, List.set_cons_succ])
          refine takeL (i := 1) (v := ?_) rfl (by kernel_rfl) (by kernel_rfl) (by kernel_rfl) (fun _ _ _ h => h) ⟨by rfl, ?_⟩ (by first | assumption | trivial) ?_
          rotate_left
          · intro W9 hSw
            (try dsimp only at hSw)
            go_simp
            try with_reducible rfl
          (try simp only [Act.put, List.setIfInBounds_toArray, List.set_cons_zero, List.set_cons_succ])
          refine takeL (i := 2) (v := ?_) rfl (by kernel_rfl) (by kernel_rfl) (by kernel_rfl) (fun _ _ _ h => h) ⟨by rfl, ?_⟩ (by first | assumption | trivial) ?_
          rotate_left
          · intro W9 hSw
            (try dsimp only at hSw)
            go_simp
            try with_reducible rfl
          (try simp only [Act.put, List.setIfInBounds_toArray, List.set_cons_zero, List.set_cons_succ])
          refine takeL (i := 3) (v := ?_) rfl (by kernel_rfl) (by kernel_rfl) (by kernel_rfl) (fun _ _ _ h => h) ⟨by rfl, ?_⟩ (by first | assumption | trivial) ?_
          rotate_left
          · intro W9 hSw
            (try dsimp only at hSw)
            go_simp
            try with_reducible rfl
          (try simp only [Act.put, List.setIfInBounds_toArray, List.set_cons_zero, List.set_cons_succ])
          refine takeL (i := 4) (v := ?_) rfl (by kernel_rfl) (by kernel_rfl) (by kernel_rfl) (fun _ _ _ h => h) ⟨by rfl, ?_⟩ (by first | assumption | trivial) ?_
          rotate_left
          · intro W9 hSw
            (try dsimp only at hSw)
            (have y := hSw.2; have yl := hSw.1)
            go_simp
            try with_reducible rfl
          (try simp only [Act.put, List.setIfInBounds_toArray, List.set_cons_zero, List.set_cons_succ])
          refine takeL (i := 5) (v := ?_) rfl (by kernel_rfl) (by kernel_rfl) (by kernel_rfl) (fun _ _ _ h => h) ⟨by rfl, ?_⟩ (by first | assumption | trivial) ?_
          rotate_left
          · intro W9 hSw
            (try dsimp only at hSw)
            go_simp
            try with_reducible rfl
          (try simp only [Act.put, List.setIfInBounds_toArray, List.set_cons_zero, List.set_cons_succ])
          refine takeL (i := 6) (v := ?_) rfl (by kernel_rfl) (by kernel_rfl) (by kernel_rfl) (fun _ _ _ h => h) ⟨by rfl, ?_⟩ (by first | assumption | trivial) ?_
          rotate_left
          · intro W9 hSw
            (try dsimp only at hSw)
            go_simp
            try with_reducible rfl
          (try simp only [Act.put, List.setIfInBounds_toArray, List.set_cons_zero, List.set_cons_succ])
          refine takeL (i := 7) (v := ?_) rfl (by kernel_rfl) (by kernel_rfl) (by kernel_rfl) (fun _ _ _ h => h) ⟨by rfl, ?_⟩ (by first | assumption | trivial) ?_
          rotate_left
          · intro W9 hSw
            (try dsimp only at hSw)
            go_simp
            try with_reducible rfl
          (try simp only [Act.put, List.setIfInBounds_toArray, List.set_cons_zero, List.set_cons_succ])
          refine takeL (i := 8) (v := ?_) rfl (by kernel_rfl) (by kernel_rfl) (by kernel_rfl) (fun _ _ _ h => h) ⟨by rfl, ?_⟩ (by first | assumption | trivial) ?_
          rotate_left
          · intro W9 hSw
            (try dsimp only at hSw)
            (have y := hSw.2; have yl := hSw.1)
            go_simp
            try with_reducible rfl
          (try simp only [Act.put, List.setIfInBounds_toArray, List.set_cons_zero, List.set_cons_succ])
          refine takeL (i := 9) (v := ?_) rfl (by kernel_rfl) (by kernel_rfl) (by kernel_rfl) (fun _ _ _ h => h) ⟨by rfl, ?_⟩ (by first | assumption | trivial) ?_
          rotate_left
          · intro W9 hSw
            (try dsimp only at hSw)
            go_simp
            try with_reducible rfl
          (try simp only [Act.put, List.setIfInBounds_toArray, List.set_cons_zero, List.set_cons_succ])
          refine takeL (i := 10) (v := ?_) rfl (by kernel_rfl) (by kernel_rfl) (by kernel_rfl) (fun _ _ _ h => h) ⟨by rfl, ?_⟩ (by first | assumption | trivial) ?_
          rotate_left
          · intro W9 hSw
            (try dsimp only at hSw)
            go_simp
            try with_reducible rfl
          (try simp only [Act.put, List.setIfInBounds_toArray, List.set_cons_zero, List.set_cons_succ])
          refine takeL (i := 11) (v := ?_) rfl (by kernel_rfl) (by kernel_rfl) (by kernel_rfl) (fun _ _ _ h => h) ⟨by rfl, ?_⟩ (by first | assumption | trivial) ?_
          rotate_left
          · intro W9 hSw
            (try dsimp only at hSw)
            go_simp
            try with_reducible rfl
          (try simp only [Act.put, List.setIfInBounds_toArray, List.set_cons_zero, List.set_cons_succ])
          refine takeL (i := 12) (v := ?_) rfl (by kernel_rfl) (by kernel_rfl) (by kernel_rfl) (fun _ _ _ h => h) ⟨by rfl, ?_⟩ (by first | assumption | trivial) ?_
          rotate_left
          · intro W9 hSw
            (try dsimp only at hSw)
            go_simp
            try with_reducible rfl
          (try simp only [Act.put, List.setIfInBounds_toArray, List.set_cons_zero, List.set_cons_succ])
          refine takeL (i := 14) (v := ?_) rfl (by kernel_rfl) (by kernel_rfl) (by kernel_rfl) (fun _ _ _ h => h) ⟨by rfl, ?_⟩ (by first | assumption | trivial) ?_
          rotate_left
          · intro W9 hSw
            (try dsimp only at hSw)
            go_simp
            try with_reducible rfl
          (try simp only [Act.put, List.setIfInBounds_toArray, List.set_cons_zero, List.set_cons_succ])
          refine takeL (i := 15) (v := ?_) rfl (by kernel_rfl) (by kernel_rfl) (by kernel_rfl) (fun _ _ _ h => h) ⟨by rfl, ?_⟩ (by first | assumption | trivial) ?_
          rotate_left
          · intro W9 hSw
            (try dsimp only at hSw)
            go_simp
            try with_reducible rfl
          (try simp only [Act.put, List.setIfInBounds_toArray, List.set_cons_zero, List.set_cons_succ])
          refine takeL (i := 16) (v := ?_) rfl (by kernel_rfl) (by kernel_rfl) (by kernel_rfl) (fun _ _ _ h => h) ⟨by rfl, ?_⟩ (by first | assumption | trivial) ?_
          rotate_left
          · intro W9 hSw
            (try dsimp only at hSw)
            go_simp
            try with_reducible rfl
          (try simp only [Act.put, List.setIfInBounds_toArray, List.set_cons_zero, List.set_cons_succ])
          refine takeL (i := 19) (v := ?_) rfl (by kernel_rfl) (by kernel_rfl) (by kernel_rfl) (fun _ _ _ h => h) ⟨by rfl, ?_⟩ (by first | assumption | trivial) ?_
          rotate_left
          · intro W9 hSw
            (try dsimp only at hSw)
            go_simp
            try with_reducible rfl
          (try simp only [Act.put, List.setIfInBounds_toArray, List.set_cons_zero, List.set_cons_succ])
          refine takeL (i := 20) (v := ?_) rfl (by kernel_rfl) (by kernel_rfl) (by kernel_rfl) (fun _ _ _ h => h) ⟨by rfl, ?_⟩ (by first | assumption | trivial) ?_
          rotate_left
          · intro W9 hSw
            (try dsimp only at hSw)
            go_simp
            try with_reducible rfl
          (try simp only [Act.put, List.setIfInBounds_toArray, List.set_cons_zero, List.set_cons_succ])
          refine wpAnyH_ready (rs := [13]) (by kernel_rfl) (by simp) ?_
          refine consL rfl (by rfl) (fun K hK => ?_) ?_
          · go_simp
            refine hK.out _ _ hHeld (fun _ => ?_)
            clear hK K
            (try simp only [Act.put, List.setIfInBounds_toArray, List.set_cons_zero, List.set_cons_succ])
            refine takeL (i := 17) (v := ?_) rfl (by kernel_rfl) (by kernel_rfl) (by kernel_rfl) (fun _ _ _ h => h) ⟨by rfl, ?_⟩ (by first | assumption | trivial) ?_
            rotate_left
            · intro W9 hSw
              (try dsimp only at hSw)
              go_simp
              try with_reducible rfl
            (try simp only [Act.put, List.setIfInBounds_toArray, List.set_cons_zero, List.set_cons_succ])
            refine wpAnyH_ready (rs := [18]) (by kernel_rfl) (by simp) ?_
            refine consL rfl (by rfl) (fun K hK => ?_) ?_
            · go_simp
              have TM3 := Lib.hid (tbm_up TM2.out hu12 (HDS.out u))
              rw [← HL.out u hu12, HVO.out] at TM3
              unfold ptr at TM3
              have XE3 := Lib.hid (bxv_far (bxv_far XE2.out hbeg (5 + u) (.pointer vo)) hq3 (5 + u) (.pointer (some ⟨gn, 0, none⟩)))
              have XP3 := Lib.hid (bxv_far (bxv_far XP2.out hbqg (5 + u) (.pointer vo)) hq2 (5 + u) (.pointer (some ⟨gn, 0, none⟩)))
              have F3 := Lib.hid ((F2.out.put (b := gn) (.inr hgn) (5 + u) (.pointer vo)).put (b := pv u) (.inl HPS.out) (5 + u) (.pointer (some ⟨gn, 0, none⟩)))
              have hgp : gn ≠ pv u := fun e => hpg e.symm
              have cpn2 : (Y.setCell ⟨gn, 5 + u, none⟩ (.pointer vo)).cell? ⟨pv u, 5 + u, none⟩ = some (.pointer vo) := (World.cell?_setCell_far _ _ _ _ (show (⟨gn, 5 + u, none⟩ : Addr).block ≠ (⟨pv u, 5 + u, none⟩ : Addr).block from hgp)).trans cpn
              have hH2 := hHeld
              refine hK.out _ _ ⟨by simpa using ybq, (World.cell?_setCell_far _ _ _ _ (show (⟨gn, 5 + u, none⟩ : Addr).block ≠ (⟨bq, u, none⟩ : Addr).block from hbqg)).trans cbq⟩ (fun _ => ?_)
              clear hK K
              (try simp only [Act.put, List.setIfInBounds_toArray, List.set_cons_zero, List.set_cons_succ])
              refine takeL (i := 21) (v := ?_) rfl (by kernel_rfl) (by kernel_rfl) (by kernel_rfl) (fun _ _ _ h => h) ⟨by rfl, ?_⟩ (by first | assumption | trivial) ?_
              rotate_left
              · intro W9 hSw
                (try dsimp only at hSw)
                go_simp
                try with_reducible rfl
              (try simp only [Act.put, List.setIfInBounds_toArray, List.set_cons_zero, List.set_cons_succ])
              refine wpAnyH_ready (rs := [22]) (by kernel_rfl) (by simp) ?_
              refine consL rfl (by rfl) (fun K hK => ?_) ?_
              · go_simp
                refine hK.out _ _ ⟨by simpa using ybq, (World.cell?_setCell_far _ _ _ _ (show (⟨pv u, 5 + u, none⟩ : Addr).block ≠ (⟨bq, u, none⟩ : Addr).block from hq2)).trans ((World.cell?_setCell_far _ _ _ _ (show (⟨gn, 5 + u, none⟩ : Addr).block ≠ (⟨bq, u, none⟩ : Addr).block from hbqg)).trans cbq)⟩ (fun _ => ?_)
                clear hK K
                (try simp only [Act.put, List.setIfInBounds_toArray, List.set_cons_zero, List.set_cons_succ])
                clear TM2 XE2 XP2 F2
                refine wpAnyH_done (by kernel_rfl) ?_ _
                go_wp2_with fail
                go_roundw
                case rel => exact ⟨u + 1, by go_num, by omega, TM3, XE3, XP3, F3⟩
                case measure => simp [intOf]; omega
              · exact AllReadyH.nil
            · exact AllReadyH.nil
          · exact AllReadyH.nil
        · obtain rfl : u = t := by omega
          have j2 : ¬ (u : Int) < (u : Int) := by omega
          have t18 := TMU.out.hd.c 18 _ rfl
          have t19 := TMU.out.hd.c 19 _ rfl
          have tf := TMU.out.hd.fz
          have tl := TMU.out.hd.lt
          have hw18 : IntKind.i64.wrap ((N.length : Int) + 1) = (N.length : Int) + 1 := IntWalk.i64_in _ (by omega)
          clear hlt2
          go_upto_region 20 with (fail)
          have TM5 : Hid (TbM (w1.setCell ⟨T, 18, none⟩ (.int .i64 ((N.length : Int) + 1))) T A k c (aheadP e N ++ ⟨gn, e, u, u⟩ :: aheadQ e N) ((N.length : Int) + 1) sz) := Lib.hid (tbm_t TMU.out (HDS.out u) 18 _ (by omega) (tbc_len _ _ _ _ _ _ _))
          have XE5 := Lib.hid (bxv_far XE1.out (p := T) (by have := TB.out.hd.lt; omega) 18 (.int .i64 ((N.length : Int) + 1)))
          have F5 := Lib.hid (F1.out.put (b := T) (.inl (List.mem_cons_self ..)) 18 (.int .i64 ((N.length : Int) + 1)))
          clear TMU XE1 XP1 F1 t18 t19 tf tl hw18
          generalize w1.setCell ⟨T, 18, none⟩ (.int .i64 ((N.length : Int) + 1)) = w5 at *
          refine wp_heldcut (S := fun W => Below w5.heap.size w5 W) 12 (by kernel_rfl) (by kernel_rfl) (Below.drew (Below.refl _ _)) (fun hHeld => ?_)
          simp only [List.take_succ_cons, List.take_zero]
          refine takeL (i := 0) (v := ?_) rfl (by kernel_rfl) (by kernel_rfl) (by kernel_rfl) (fun _ _ _ h => h) ⟨by rfl, ?_⟩ (by first | assumption | trivial) ?_
          rotate_left
          · intro W9 hSw
            (try dsimp only at hSw)
            go_simp
            try with_reducible rfl
          (try simp only [Act.put, List.setIfInBounds_toArray, List.set_cons_zero, List.set_cons_succ])
          refine takeL (i := 1) (v := ?_) rfl (by kernel_rfl) (by kernel_rfl) (by kernel_rfl) (fun _ _ _ h => h) ⟨by rfl, ?_⟩ (by first | assumption | trivial) ?_
          rotate_left
          · intro W9 hSw
            (try dsimp only at hSw)
            go_simp
            try with_reducible rfl
          (try simp only [Act.put, List.setIfInBounds_toArray, List.set_cons_zero, List.set_cons_succ])
          refine takeL (i := 2) (v := ?_) rfl (by kernel_rfl) (by kernel_rfl) (by kernel_rfl) (fun _ _ _ h => h) ⟨by rfl, ?_⟩ (by first | assumption | trivial) ?_
          rotate_left
          · intro W9 hSw
            (try dsimp only at hSw)
            go_simp
            try with_reducible rfl
          (try simp only [Act.put, List.setIfInBounds_toArray, List.set_cons_zero, List.set_cons_succ])
          refine takeL (i := 3) (v := ?_) rfl (by kernel_rfl) (by kernel_rfl) (by kernel_rfl) (fun _ _ _ h => h) ⟨by rfl, ?_⟩ (by first | assumption | trivial) ?_
          rotate_left
          · intro W9 hSw
            (try dsimp only at hSw)
            (have y := (TM5.out.next hSw).hd.c 19 _ rfl; have yl := (TM5.out.next hSw).hd.lt)
            go_simp
            try with_reducible rfl
          (try simp only [Act.put, List.setIfInBounds_toArray, List.set_cons_zero, List.set_cons_succ])
          refine takeL (i := 4) (v := ?_) rfl (by kernel_rfl) (by kernel_rfl) (by kernel_rfl) (fun _ _ _ h => h) ⟨by rfl, ?_⟩ (by first | assumption | trivial) ?_
          rotate_left
          · intro W9 hSw
            (try dsimp only at hSw)
            go_simp
            try with_reducible rfl
          (try simp only [Act.put, List.setIfInBounds_toArray, List.set_cons_zero, List.set_cons_succ])
          refine takeL (i := 5) (v := ?_) rfl (by kernel_rfl) (by kernel_rfl) (by kernel_rfl) (fun _ _ _ h => h) ⟨by rfl, ?_⟩ (by first | assumption | trivial) ?_
          rotate_left
          · intro W9 hSw
            (try dsimp only at hSw)
            (have y := (XE5.out.next hSw).c 0 _ rfl; have yl := (XE5.out.next hSw).lt)
            go_simp
            try with_reducible rfl
          (try simp only [Act.put, List.setIfInBounds_toArray, List.set_cons_zero, List.set_cons_succ])
          refine takeL (i := 6) (v := ?_) rfl (by kernel_rfl) (by kernel_rfl) (by kernel_rfl) (fun _ _ _ h => h) ⟨by rfl, ?_⟩ (by first | assumption | trivial) ?_
          rotate_left
          · intro W9 hSw
            (try dsimp only at hSw)
            go_simp
            try with_reducible rfl
          (try simp only [Act.put, List.setIfInBounds_toArray, List.set_cons_zero, List.set_cons_succ])
          refine takeL (i := 7) (v := ?_) rfl (by kernel_rfl) (by kernel_rfl) (by kernel_rfl) (fun _ _ _ h => h) ⟨by rfl, ?_⟩ (by first | assumption | trivial) ?_
          rotate_left
          · intro W9 hSw
            (try dsimp only at hSw)
            go_simp
            try with_reducible rfl
          (try simp only [Act.put, List.setIfInBounds_toArray, List.set_cons_zero, List.set_cons_succ])
          refine takeL (i := 8) (v := ?_) rfl (by kernel_rfl) (by kernel_rfl) (by kernel_rfl) (fun _ _ _ h => h) ⟨by rfl, ?_⟩ (by first | assumption | trivial) ?_
          rotate_left
          · intro W9 hSw
            (try dsimp only at hSw)
            (have y := (XE5.out.next hSw).c 1 _ rfl; have yl := (XE5.out.next hSw).lt)
            go_simp
            try with_reducible rfl
          (try simp only [Act.put, List.setIfInBounds_toArray, List.set_cons_zero, List.set_cons_succ])
          refine takeL (i := 9) (v := ?_) rfl (by kernel_rfl) (by kernel_rfl) (by kernel_rfl) (fun _ _ _ h => h) ⟨by rfl, ?_⟩ (by first | assumption | trivial) ?_
          rotate_left
          · intro W9 hSw
            (try dsimp only at hSw)
            go_simp
            try with_reducible rfl
          (try simp only [Act.put, List.setIfInBounds_toArray, List.set_cons_zero, List.set_cons_succ])
          refine takeL (i := 10) (v := ?_) rfl (by kernel_rfl) (by kernel_rfl) (by kernel_rfl) (fun _ _ _ h => h) ⟨by rfl, ?_⟩ (by first | assumption | trivial) ?_
          rotate_left
          · intro W9 hSw
            (try dsimp only at hSw)
            go_simp
            try with_reducible rfl
          (try simp only [Act.put, List.setIfInBounds_toArray, List.set_cons_zero, List.set_cons_succ])
          refine takeL (i := 11) (v := ?_) rfl (by kernel_rfl) (by kernel_rfl) (by kernel_rfl) (fun _ _ _ h => h) ⟨by rfl, ?_⟩ (by first | assumption | trivial) ?_
          rotate_left
          · intro W9 hSw
            (try dsimp only at hSw)
            go_simp
            try with_reducible rfl
          (try simp only [Act.put, List.setIfInBounds_toArray, List.set_cons_zero, List.set_cons_succ])
          clear hHeld
          have hdr : Below w5.heap.size w5 w5.drew := Below.drew (Below.refl _ _)
          have TM6 := Lib.hid (TM5.out.next hdr)
          have F6 := Lib.hid (F5.out.then hdr)
          clear hdr TM5 XE5 F5
          generalize w5.drew = Y at *
          refine wpAnyH_done (by kernel_rfl) ?_ _
          simp only [tailPost, List.drop_succ_cons, List.drop_zero]
          have t19 := TM6.out.hd.c 19 _ rfl
          have tf := TM6.out.hd.fz
          have tl := TM6.out.hd.lt
          obtain ⟨z, hz⟩ : ∃ z, z = sz + (e.key.size : Int) + (e.val.size : Int) := ⟨_, rfl⟩
          have hw19 : IntKind.i64.wrap (sz + ((e.key.size : Int) + (e.val.size : Int))) = z := by rw [IntWalk.i64_in _ (by omega)]; omega
          have hw20 : sz + ((e.key.size : Int) + (e.val.size : Int)) = z := by omega
          go_wp2_with fail
          have TM7 : Hid (TbM (Y.setCell ⟨T, 19, none⟩ (.int .i64 z)) T A k c (aheadP e N ++ ⟨gn, e, u, u⟩ :: aheadQ e N) ((N.length : Int) + 1) z) := Lib.hid (tbm_t TM6.out (HDS.out u) 19 _ (by omega) (tbc_sz _ _ _ _ _ _ _))
          have F7 := Lib.hid (F6.out.put (b := T) (.inl (List.mem_cons_self ..)) 19 (.int .i64 z))
          have FIN := Lib.hid (tbl_fin TB.out (ahead_app e N) hgn ht12 TM7.out F7.out)
          clear TM6 F6 TM7 t19 tf tl
          rw [hz] at FIN F7
          go_ret
          refine .inr ⟨HT.out, rfl, gn, hgn, ?_, F7.out⟩
          unfold insN
          rw [HTW.out]
          exact FIN.out
  · rw [g2] at c5
    have HT : Hid (thN e N = (decide (n.e.key = e.key) && decide (n.e.seq = e.seq))) := Lib.hid (by unfold thN; rw [g1]; rfl)
    have hen := TB.out.ent g3
    have zn : n.g < w.heap.size := (TB.out.nd _ n g3).lt
    obtain ⟨d0, d1, d2, d3⟩ := hen.below zn B5.out
    simp only [Nat.zero_add] at d1 d2 d3
    have zn3 : n.g < w5.heap.size := Nat.lt_of_lt_of_le zn B5.out.size
    clear g1 g2 g3 hen HQ
    by_cases hky : n.e.key = e.key
    · have e1 : (n.e.key.toList == e.key.toList) = true := by rw [str_eqB]; exact decide_eq_true hky
      rw [decide_eq_true hky, Bool.true_and] at HT
      clear hky
      by_cases hsq : n.e.seq = e.seq
      · have e2 : (n.e.seq == e.seq) = true := by rw [beq_iff_eq]; exact hsq
        rw [decide_eq_true hsq] at HT
        clear hsq
        go_wp2_with fail
        refine wp_qall (by kernel_rfl) (by kernel_rfl) ?_
        intro hcg
        repeat (first | go_big_quiet_step (fail) | quiet_step (fail))
        refine wpQuiet_nil ?_
        intro wq hbwq hcwq hfwq
        clear hcg
        have B6 := Lib.hid (B5.out.trans (hbwq.mono B5.out.size))
        clear hbwq hcwq hfwq
        go_wp2_with fail
        go_ret
        exact .inl ⟨HT.out, rfl, B6.out⟩
      · have e2 : (n.e.seq == e.seq) = false := by rw [beq_eq_false_iff_ne]; exact hsq
        rw [decide_eq_false hsq] at HT
        clear hsq
        go_wp2_with fail
        refine wp_qall (by kernel_rfl) (by kernel_rfl) ?_
        intro hcg
        repeat (first | go_big_quiet_step (fail) | quiet_step (fail))
        refine wpQuiet_nil ?_
        intro wq hbwq hcwq hfwq
        clear hcg
        have X6 := Lib.hid (X5.out.next hbwq)
        have XP6 := Lib.hid (XP5.out.next hbwq)
        have B6 := Lib.hid (B5.out.trans (hbwq.mono B5.out.size))
        clear hbwq hcwq hfwq X5 XP5 B5 x0 x1 x2 x3 xl p0 pl c5 z5
        obtain ⟨w6, rfl⟩ : ∃ x, x = wq := ⟨_, rfl⟩
        clear e1 e2 d0 d1 d2 d3 zn3
        have x0 := X6.out.c 0 _ rfl
        have x1 := X6.out.c 1 _ rfl
        have x2 := X6.out.c 2 _ rfl
        have x3 := X6.out.c 3 _ rfl
        have xl := X6.out.lt
        go_upto_region 11 with (fail)
        have hal : Below w6.heap.size w6 (w6.alloc (.cells #[.string e.key, .string e.val, .int .i64 e.seq, .bool e.del, .int .i64 1, .pointer none, .pointer none, .pointer none, .pointer none, .pointer none, .pointer none, .pointer none, .pointer none, .pointer none, .pointer none, .pointer none, .pointer none] 67)) := (Below.refl _ _).alloc (Nat.le_refl _) _
        have XG7 : Hid (BxV (w6.alloc (.cells #[.string e.key, .string e.val, .int .i64 e.seq, .bool e.del, .int .i64 1, .pointer none, .pointer none, .pointer none, .pointer none, .pointer none, .pointer none, .pointer none, .pointer none, .pointer none, .pointer none, .pointer none, .pointer none] 67)) w6.heap.size (ndc ⟨w6.heap.size, e, 1, 0⟩ (aheadQ e N))) := Lib.hid (by
          have h := BxV.new w6 #[.string e.key, .string e.val, .int .i64 e.seq, .bool e.del, .int .i64 1, .pointer none, .pointer none, .pointer none, .pointer none, .pointer none, .pointer none, .pointer none, .pointer none, .pointer none, .pointer none, .pointer none, .pointer none] 67
          unfold ndc
          rw [lnc_none]
          exact h)
        have X7 := Lib.hid (X6.out.next hal)
        have XP7 := Lib.hid (XP6.out.next hal)
        have B7 := Lib.hid (B6.out.trans (hal.mono B6.out.size))
        have hgn : w.heap.size ≤ w6.heap.size := B6.out.size
        have hqg : bq < w6.heap.size := XP6.out.lt
        have hbg : be < w6.heap.size := X6.out.lt
        clear hal X6 XP6 B6 x0 x1 x2 x3 xl
        generalize w6.alloc (.cells #[.string e.key, .string e.val, .int .i64 e.seq, .bool e.del, .int .i64 1, .pointer none, .pointer none, .pointer none, .pointer none, .pointer none, .pointer none, .pointer none, .pointer none, .pointer none, .pointer none, .pointer none, .pointer none] 67) = w7 at *
        generalize w6.heap.size = gn at *
        have TB7 := Lib.hid (TB.out.next (B7.out))
        have t17 := TB7.out.hd.c 17 _ rfl
        have t18 := TB7.out.hd.c 18 _ rfl
        have tl := TB7.out.hd.lt
        by_cases hk0 : 0 < k
        · have k1 : (0 : Int) < (k : Int) := by omega
          have hkl : hs.length ≠ 0 := by rw [HKL.out]; omega
          have hrm : N.length % k < k := Nat.mod_lt _ hk0
          obtain ⟨x, hx⟩ : ∃ x, hs[N.length % k]? = some x := ⟨_, List.getElem?_eq_getElem (by rw [HKL.out]; exact hrm)⟩
          have hx12 := TB.out.hs12 x (List.mem_of_getElem? hx)
          have HTW : Hid (towN hs N.length = x.toNat) := Lib.hid (tow_at hkl (by rw [HKL.out]; exact hx))
          obtain ⟨bh, oh, rfl, hbh, hch⟩ := (own_rdq' TB7.out.row).at_ (nv_get hx)
          have hmd : Int.tmod (N.length : Int) (k : Int) = ((N.length % k : Nat) : Int) := rfl
          have r1 : ((N.length % k : Nat) : Int) < (k : Int) := by omega
          have r0 : (0 : Int) ≤ ((N.length % k : Nat) : Int) := by omega
          obtain ⟨rm, hrme⟩ : ∃ rm, rm = N.length % k := ⟨_, rfl⟩
          rw [← hrme] at hmd r1 r0 hch hx
          have kz : ((k : Int) == 0) = false := by rw [beq_eq_false_iff_ne]; omega
          have kz2 : (k : Int) ≠ 0 := by omega
          have kz3 : ¬ k = 0 := by omega
          have HG7 := Lib.hid (XG7.out.c 4 _ rfl)
          clear hx hrme hrm hkl
          go_upto_region 13 with (fail)
          refine wp_heldcut (S := fun W => Below w7.heap.size w7 W) 13 (by kernel_rfl) (by kernel_rfl) (Below.drew (Below.refl _ _)) (fun hHeld => ?_)
          simp only [List.take_succ_cons, List.take_zero]
          clear t17 t18 tl
          refine takeL (i := 0) (v := ?_) rfl (by kernel_rfl) (by kernel_rfl) (by kernel_rfl) (fun _ _ _ h => h) ⟨by rfl, ?_⟩ (by first | assumption | trivial) ?_
          rotate_left
          · intro W9 hSw
            (try dsimp only at hSw)
            go_simp
            try with_reducible rfl
          (try simp only [Act.put, List.setIfInBounds_toArray, List.set_cons_zero, List.set_cons_succ])
          refine takeL (i := 1) (v := ?_) rfl (by kernel_rfl) (by kernel_rfl) (by kernel_rfl) (fun _ _ _ h => h) ⟨by rfl, ?_⟩ (by first | assumption | trivial) ?_
          rotate_left
          · intro W9 hSw
            (try dsimp only at hSw)
            go_simp
            try with_reducible rfl
          (try simp only [Act.put, List.setIfInBounds_toArray, List.set_cons_zero, List.set_cons_succ])
          refine takeL (i := 2) (v := ?_) rfl (by kernel_rfl) (by kernel_rfl) (by kernel_rfl) (fun _ _ _ h => h) ⟨by rfl, ?_⟩ (by first | assumption | trivial) ?_
          rotate_left
          · intro W9 hSw
            (try dsimp only at hSw)
            go_simp
            try with_reducible rfl
          (try simp only [Act.put, List.setIfInBounds_toArray, List.set_cons_zero, List.set_cons_succ])
          refine takeL (i := 3) (v := ?_) rfl (by kernel_rfl) (by kernel_rfl) (by kernel_rfl) (fun _ _ _ h => h) ⟨by rfl, ?_⟩ (by first | assumption | trivial) ?_
          rotate_left
          · intro W9 hSw
            (try dsimp only at hSw)
            go_simp
            try with_reducible rfl
          (try simp only [Act.put, List.setIfInBounds_toArray, List.set_cons_zero, List.set_cons_succ])
          refine takeL (i := 4) (v := ?_) rfl (by kernel_rfl) (by kernel_rfl) (by kernel_rfl) (fun _ _ _ h => h) ⟨by rfl, ?_⟩ (by first | assumption | trivial) ?_
          rotate_left
          · intro W9 hSw
            (try dsimp only at hSw)
            (have y := (TB7.out.next hSw).hd.c 17 _ rfl; have yl := (TB7.out.next hSw).hd.lt)
            go_simp
            try with_reducible rfl
          (try simp only [Act.put, List.setIfInBounds_toArray, List.set_cons_zero, List.set_cons_succ])
          refine takeL (i := 5) (v := ?_) rfl (by kernel_rfl) (by kernel_rfl) (by kernel_rfl) (fun _ _ _ h => h) ⟨by rfl, ?_⟩ (by first | assumption | trivial) ?_
          rotate_left
          · intro W9 hSw
            (try dsimp only at hSw)
            go_simp
            try with_reducible rfl
          (try simp only [Act.put, List.setIfInBounds_toArray, List.set_cons_zero, List.set_cons_succ])
          refine takeL (i := 6) (v := ?_) rfl (by kernel_rfl) (by kernel_rfl) (by kernel_rfl) (fun _ _ _ h => h) ⟨by rfl, ?_⟩ (by first | assumption | trivial) ?_
          rotate_left
          · intro W9 hSw
            (try dsimp only at hSw)
            go_simp
            try with_reducible rfl
          (try simp only [Act.put, List.setIfInBounds_toArray, List.set_cons_zero, List.set_cons_succ])
          refine takeL (i := 7) (v := ?_) rfl (by kernel_rfl) (by kernel_rfl) (by kernel_rfl) (fun _ _ _ h => h) ⟨by rfl, ?_⟩ (by first | assumption | trivial) ?_
          rotate_left
          · intro W9 hSw
            (try dsimp only at hSw)
            go_simp
            try with_reducible rfl
          (try simp only [Act.put, List.setIfInBounds_toArray, List.set_cons_zero, List.set_cons_succ])
          refine takeL (i := 8) (v := ?_) rfl (by kernel_rfl) (by kernel_rfl) (by kernel_rfl) (fun _ _ _ h => h) ⟨by rfl, ?_⟩ (by first | assumption | trivial) ?_
          rotate_left
          · intro W9 hSw
            (try dsimp only at hSw)
            (have y := (TB7.out.next hSw).hd.c 18 _ rfl; have yl := (TB7.out.next hSw).hd.lt)
            go_simp
            try with_reducible rfl
          (try simp only [Act.put, List.setIfInBounds_toArray, List.set_cons_zero, List.set_cons_succ])
          refine takeL (i := 9) (v := ?_) rfl (by kernel_rfl) (by kernel_rfl) (by kernel_rfl) (fun _ _ _ h => h) ⟨by rfl, ?_⟩ (by first | assumption | trivial) ?_
          rotate_left
          · intro W9 hSw
            (try dsimp only at hSw)
            go_simp
            try with_reducible rfl
          (try simp only [Act.put, List.setIfInBounds_toArray, List.set_cons_zero, List.set_cons_succ])
          refine takeL (i := 10) (v := ?_) rfl (by kernel_rfl) (by kernel_rfl) (by kernel_rfl) (fun _ _ _ h => h) ⟨by rfl, ?_⟩ (by first | assumption | trivial) ?_
          rotate_left
          · intro W9 hSw
            (try dsimp only at hSw)
            go_simp
            try with_reducible rfl
          (try simp only [Act.put, List.setIfInBounds_toArray, List.set_cons_zero, List.set_cons_succ])
          refine takeL (i := 11) (v := ?_) rfl (by kernel_rfl) (by kernel_rfl) (by kernel_rfl) (fun _ _ _ h => h) ⟨by rfl, ?_⟩ (by first | assumption | trivial) ?_
          rotate_left
          · intro W9 hSw
            (try dsimp only at hSw)
            go_simp
            try with_reducible rfl
          (try simp only [Act.put, List.setIfInBounds_toArray, List.set_cons_zero, List.set_cons_succ])
          refine takeL (i := 12) (v := ?_) rfl (by kernel_rfl) (by kernel_rfl) (by kernel_rfl) (fun _ _ _ h => h) ⟨by rfl, ?_⟩ (by first | assumption | trivial) ?_
          rotate_left
          · intro W9 hSw
            (try dsimp only at hSw)
            (have y := (hSw.cell (p := ⟨bh, oh + rm, none⟩) hbh).trans hch; have yl := World.block_lt_of_cell? W9 _ y)
            go_simp
            try with_reducible rfl
          (try simp only [Act.put, List.setIfInBounds_toArray, List.set_cons_zero, List.set_cons_succ])
          clear hHeld
          have hdr : Below w7.heap.size w7 w7.drew := Below.drew (Below.refl _ _)
          have XG8 := Lib.hid (XG7.out.next hdr)
          have X8 := Lib.hid (X7.out.next hdr)
          have XP8 := Lib.hid (XP7.out.next hdr)
          have B8 := Lib.hid (B7.out.trans (hdr.mono B7.out.size))
          clear hdr XG7 X7 XP7 B7 TB7 HG7
          generalize w7.drew = Y at *
          refine wpAnyH_done (by kernel_rfl) ?_ _
          simp only [tailPost, List.drop_succ_cons, List.drop_zero]
          have g4 := XG8.out.c 4 _ rfl
          have gf := XG8.out.fz
          have gl := XG8.out.lt
          go_upto_region 14 with (fail)
          have XG9 := Lib.hid (bxv_put XG8.out 4 (by rw [ndc_len]; omega) (.int .i64 x))
          rw [ndc_tow _ _ _ _ hx12.1] at XG9
          have X9 := Lib.hid (bxv_far X8.out (p := gn) (by omega) 4 (.int .i64 x))
          have XP9 := Lib.hid (bxv_far XP8.out (p := gn) (by omega) 4 (.int .i64 x))
          have B9 := Lib.hid (B8.out.setCell (p := ⟨gn, 4, none⟩) hgn (.int .i64 x))
          have ht12 : 1 ≤ x.toNat ∧ x.toNat ≤ 12 := by omega
          clear XG8 X8 XP8 B8 g4 gf gl
          generalize Y.setCell ⟨gn, 4, none⟩ (.int .i64 x) = w9 at *
          generalize x.toNat = t at *
          have g4 := XG9.out.c 4 _ rfl
          have gl := XG9.out.lt
          have HTG : Hid (T ≠ gn) := Lib.hid (by have := TB.out.hd.lt; omega)
          have HAL : Hid (∀ n ∈ aheadP e N ++ aheadQ e N, n.g ≠ gn) := Lib.hid (fun n hn => by
            rw [← ahead_app] at hn
            obtain ⟨i, hi⟩ := List.mem_iff_getElem?.1 hn
            have := (TB.out.nd i n hi).lt
            omega)
          have HDS : Hid (∀ u, (T :: (aheadP e N ++ (⟨gn, e, t, u⟩ : Nd) :: aheadQ e N).map Nd.g).Nodup) := Lib.hid (fun u => dis_ins (by rw [← ahead_app]; exact TB.out.dis) HTG.out HAL.out u)
          have HU12 : Hid (∀ m ∈ aheadP e N, m.u ≤ 12) := Lib.hid (fun m hm => by
            have h := TB.out.full m (by rw [ahead_app e N]; exact List.mem_append_left _ hm)
            omega)
          have TM0 : Hid (TbM w9 T (some ⟨bh, oh, none⟩) k c (aheadP e N ++ ⟨gn, e, t, 0⟩ :: aheadQ e N) (N.length : Int) sz) := Lib.hid (tbm_zero (by rw [← ahead_app]; exact TB.out.m.next B9.out) XG9.out)
          have F9 : Hid (FrT (T :: N.map Nd.g) w w9) := Lib.hid (FrT.of B9.out)
          clear XG9 B9
          go_wp2_with fail
          clear g4 gl
          go_loopw [82] (fun s82 wr => ∃ u : Nat, s82 = .int .i64 (u : Int) ∧ u ≤ t ∧ Hid (TbM wr T (some ⟨bh, oh, none⟩) k c (aheadP e N ++ ⟨gn, e, t, u⟩ :: aheadQ e N) (N.length : Int) sz) ∧ Hid (BxV wr be [.string e.key, .string e.val, .int .i64 e.seq, .bool e.del]) ∧ Hid (BxV wr bq [.pointer (some ⟨pv 0, 0, none⟩), .pointer (some ⟨pv 1, 0, none⟩), .pointer (some ⟨pv 2, 0, none⟩), .pointer (some ⟨pv 3, 0, none⟩), .pointer (some ⟨pv 4, 0, none⟩), .pointer (some ⟨pv 5, 0, none⟩), .pointer (some ⟨pv 6, 0, none⟩), .pointer (some ⟨pv 7, 0, none⟩), .pointer (some ⟨pv 8, 0, none⟩), .pointer (some ⟨pv 9, 0, none⟩), .pointer (some ⟨pv 10, 0, none⟩), .pointer (some ⟨pv 11, 0, none⟩)]) ∧ Hid (FrT (T :: N.map Nd.g) w wr)) (fun s82 _ => t - (intOf s82).toNat)
          case atStart => exact ⟨0, rfl, Nat.zero_le _, TM0, X9, XP9, F9⟩
          case round =>
            clear TM0 X9 XP9 F9
            obtain ⟨u, rfl, hut, TMU, XE1, XP1, F1⟩ := hrel
            obtain ⟨w1, rfl⟩ : ∃ x, x = wr := ⟨_, rfl⟩
            by_cases hlt2 : u < t
            · have hu12 : u < 12 := by omega
              have cpv := XP1.out.c u _ (pv_get pv hu12)
              have cpn := TMU.out.prev HU12.out hu12
              rw [show nxv u (⟨gn, e, t, u⟩ :: aheadQ e N) = nxv u (aheadQ e N) by rw [nxv, if_neg (by show ¬ u < u; omega)], ← HL.out u hu12] at cpn
              have HGN := Lib.hid (TMU.out.nd (aheadP e N).length ⟨gn, e, t, u⟩ (by rw [List.getElem?_append_right (Nat.le_refl _), Nat.sub_self]; rfl))
              have cgn := HGN.out.c _ _ (ndc_get _ _ hu12)
              have fgn := HGN.out.fz
              have hpg : pv u ≠ gn := by
                rw [HL.out u hu12]
                rcases lst_in u (aheadP e N) T with e1 | ⟨m, hm, _, e1⟩
                · rw [e1]; exact HTG.out
                · rw [e1]; exact HAL.out m (List.mem_append_left _ hm)
              have hpf : ∀ o, w1.frozen? ⟨pv u, o, none⟩ = false := by
                rw [HL.out u hu12]
                rcases lst_in u (aheadP e N) T with e1 | ⟨m, hm, _, e1⟩
                · rw [e1]; exact TMU.out.hd.fz
                · obtain ⟨i, hi⟩ := List.mem_iff_getElem?.1 hm
                  have hj := (List.getElem?_eq_some_iff.1 hi).1
                  rw [e1]
                  exact (TMU.out.nd i m (by rw [List.getElem?_append_left hj]; exact hi)).fz
              have hpS : pv u ∈ (T :: N.map Nd.g) := by
                rw [HL.out u hu12]
                rcases lst_in u (aheadP e N) T with e1 | ⟨m, hm, _, e1⟩
                · rw [e1]; exact List.mem_cons_self ..
                · rw [e1]
                  exact List.mem_cons_of_mem _ (List.mem_map.2 ⟨m, by rw [ahead_app e N]; exact List.mem_append_left _ hm, rfl⟩)
              obtain ⟨vo, hvo⟩ := nxv_ptr u (aheadQ e N)
              have HVO := Lib.hid hvo
              rw [hvo] at cpn
              clear hvo
              have HCV := Lib.hid cpv
              have HCN := Lib.hid cpn
              have HCG := Lib.hid cgn
              have HPF := Lib.hid hpf
              have HPS := Lib.hid hpS
              have zgn : gn < w1.heap.size := HGN.out.lt
              have zpv : pv u < w1.heap.size := World.block_lt_of_cell? w1 _ cpn
              have zbq : bq < w1.heap.size := XP1.out.lt
              have j0 : (0 : Int) ≤ (u : Int) := by omega
              have j1 : (u : Int) < 12 := by omega
              have j2 : (u : Int) < (t : Int) := by omega
              have hbqg : gn ≠ bq := by omega
              have hbeg : gn ≠ be := by omega
              have hq2 : pv u ≠ bq := by
                intro e1
                rcases List.mem_cons.1 HPS.out with h2 | h2
                · have := TB.out.hd.lt; omega
                · obtain ⟨m, hm, e2⟩ := List.mem_map.1 h2
                  obtain ⟨i, hi⟩ := List.mem_iff_getElem?.1 hm
                  have := (TB.out.nd i m hi).lt
                  omega
              have hq3 : pv u ≠ be := by
                intro e1
                rcases List.mem_cons.1 HPS.out with h2 | h2
                · have := TB.out.hd.lt; omega
                · obtain ⟨m, hm, e2⟩ := List.mem_map.1 h2
                  obtain ⟨i, hi⟩ := List.mem_iff_getElem?.1 hm
                  have := (TB.out.nd i m hi).lt
                  omega
              clear cpv cpn cgn fgn hpf hpS
              go_wp2_with fail
              have hdr : Below w1.heap.size w1 w1.drew := Below.drew (Below.refl _ _)
              have TM2 := Lib.hid (TMU.out.next hdr)
              have XE2 := Lib.hid (XE1.out.next hdr)
              have XP2 := Lib.hid (XP1.out.next hdr)
              have F2 := Lib.hid (F1.out.then hdr)
              have cgn := (hdr.cell (p := ⟨gn, 5 + u, none⟩) zgn).trans HCG.out
              have fgn := (hdr.frozen (p := ⟨gn, 5 + u, none⟩) zgn).trans (HGN.out.fz (5 + u))
              have cpn := (hdr.cell (p := ⟨pv u, 5 + u, none⟩) zpv).trans HCN.out
              have fpn := (hdr.frozen (p := ⟨pv u, 5 + u, none⟩) zpv).trans (HPF.out (5 + u))
              have yg : gn < w1.drew.heap.size := Nat.lt_of_lt_of_le zgn hdr.size
              have yp : pv u < w1.drew.heap.size := Nat.lt_of_lt_of_le zpv hdr.size
              have cbq := (hdr.cell (p := ⟨bq, u, none⟩) zbq).trans HCV.out
              have ybq : bq < w1.drew.heap.size := Nat.lt_of_lt_of_le zbq hdr.size
              clear hdr TMU XE1 XP1 F1 HGN
              refine wp_heldall (S := fun W => bq < W.heap.size ∧ W.cell? ⟨bq, u, none⟩ = some (.pointer (some ⟨pv u, 0, none⟩))) 23 (by kernel_rfl) rfl ⟨ybq, cbq⟩ (fun hHeld => ?_)
              generalize w1.drew = Y at *
              refine takeL (i := 0) (v := ?_) rfl (by kernel_rfl) (by kernel_rfl) (by kernel_rfl) (fun _ _ _ h => h) ⟨by rfl, ?_⟩ (by first | assumption | trivial) ?_
              rotate_left
              · intro W9 hSw
                (try dsimp only at hSw)
                go_simp
                try with_reducible rfl
              (try simp only [Act.put, List.setIfInBounds_toArray, List.set_cons_zero, List.set_cons_succ])
              refine takeL (i := 1) (v := ?_) rfl (by kernel_rfl) (by kernel_rfl) (by kernel_rfl) (fun _ _ _ h => h) ⟨by rfl, ?_⟩ (by first | assumption | trivial) ?_
              rotate_left
              · intro W9 hSw
                (try dsimp only at hSw)
                go_simp
                try with_reducible rfl
              (try simp only [Act.put, List.setIfInBounds_toArray, List.set_cons_zero, List.set_cons_succ])
              refine takeL (i := 2) (v := ?_) rfl (by kernel_rfl) (by kernel_rfl) (by kernel_rfl) (fun _ _ _ h => h) ⟨by rfl, ?_⟩ (by first | assumption | trivial) ?_
              rotate_left
              · intro W9 hSw
                (try dsimp only at hSw)
                go_simp
                try with_reducible rfl
              (try simp only [Act.put, List.setIfInBounds_toArray, List.set_cons_zero, List.set_cons_succ])
              refine takeL (i := 3) (v := ?_) rfl (by kernel_rfl) (by kernel_rfl) (by kernel_rfl) (fun _ _ _ h => h) ⟨by rfl, ?_⟩ (by first | assumption | trivial) ?_
              rotate_left
              · intro W9 hSw
                (try dsimp only at hSw)
                go_simp
                try with_reducible rfl
              (try simp only [Act.put, List.setIfInBounds_toArray, List.set_cons_zero, List.set_cons_succ])
              refine takeL (i := 4) (v := ?_) rfl (by kernel_rfl) (by kernel_rfl) (by kernel_rfl) (fun _ _ _ h => h) ⟨by rfl, ?_⟩ (by first | assumption | trivial) ?_
              rotate_left
              · intro W9 hSw
                (try dsimp only at hSw)
                (have y := hSw.2; have yl := hSw.1)
                go_simp
                try with_reducible rfl
              (try simp only [Act.put, List.setIfInBounds_toArray, List.set_cons_zero, List.set_cons_succ])
              refine takeL (i := 5) (v := ?_) rfl (by kernel_rfl) (by kernel_rfl) (by kernel_rfl) (fun _ _ _ h => h) ⟨by rfl, ?_⟩ (by first | assumption | trivial) ?_
              rotate_left
              · intro W9 hSw
                (try dsimp only at hSw)
                go_simp
                try with_reducible rfl
              (try simp only [Act.put, List.setIfInBounds_toArray, List.set_cons_zero, List.set_cons_succ])
              refine takeL (i := 6) (v := ?_) rfl (by kernel_rfl) (by kernel_rfl) (by kernel_rfl) (fun _ _ _ h => h) ⟨by rfl, ?_⟩ (by first | assumption | trivial) ?_
              rotate_left
              · intro W9 hSw
                (try dsimp only at hSw)
                go_simp
                try with_reducible rfl
              (try simp only [Act.put, List.setIfInBounds_toArray, List.set_cons_zero, List.set_cons_succ])
              refine takeL (i := 7) (v := ?_) rfl (by kernel_rfl) (by kernel_rfl) (by kernel_rfl) (fun _ _ _ h => h) ⟨by rfl, ?_⟩ (by first | assumption | trivial) ?_
              rotate_left
              · intro W9 hSw
                (try dsimp only at hSw)
                go_simp
                try with_reducible rfl
              (try simp only [Act.put, List.setIfInBounds_toArray, List.set_cons_zero, List.set_cons_succ])
              refine takeL (i := 8) (v := ?_) rfl (by kernel_rfl) (by kernel_rfl) (by kernel_rfl) (fun _ _ _ h => h) ⟨by rfl, ?_⟩ (by first | assumption | trivial) ?_
              rotate_left
              · intro W9 hSw
                (try dsimp only at hSw)
                (have y := hSw.2; have yl := hSw.1)
                go_simp
                try with_reducible rfl
              (try simp only [Act.put, List.setIfInBounds_toArray, List.set_cons_zero, List.set_cons_succ])
              refine takeL (i := 9) (v := ?_) rfl (by kernel_rfl) (by kernel_rfl) (by kernel_rfl) (fun _ _ _ h => h) ⟨by rfl, ?_⟩ (by first | assumption | trivial) ?_
              rotate_left
              · intro W9 hSw
                (try dsimp only at hSw)
                go_simp
                try with_reducible rfl
              (try simp only [Act.put, List.setIfInBounds_toArray, List.set_cons_zero, List.set_cons_succ])
              refine takeL (i := 10) (v := ?_) rfl (by kernel_rfl) (by kernel_rfl) (by kernel_rfl) (fun _ _ _ h => h) ⟨by rfl, ?_⟩ (by first | assumption | trivial) ?_
              rotate_left
              · intro W9 hSw
                (try dsimp only at hSw)
                go_simp
                try with_reducible rfl
              (try simp only [Act.put, List.setIfInBounds_toArray, List.set_cons_zero, List.set_cons_succ])
              refine takeL (i := 11) (v := ?_) rfl (by kernel_rfl) (by kernel_rfl) (by kernel_rfl) (fun _ _ _ h => h) ⟨by rfl, ?_⟩ (by first | assumption | trivial) ?_
              rotate_left
              · intro W9 hSw
                (try dsimp only at hSw)
                go_simp
                try with_reducible rfl
              (try simp only [Act.put, List.setIfInBounds_toArray, List.set_cons_zero, List.set_cons_succ])
              refine takeL (i := 12) (v := ?_) rfl (by kernel_rfl) (by kernel_rfl) (by kernel_rfl) (fun _ _ _ h => h) ⟨by rfl, ?_⟩ (by first | assumption | trivial) ?_
              rotate_left
              · intro W9 hSw
                (try dsimp only at hSw)
                go_simp
                try with_reducible rfl
              (try simp only [Act.put, List.setIfInBounds_toArray, List.set_cons_zero, List.set_cons_succ])
              refine takeL (i := 14) (v := ?_) rfl (by kernel_rfl) (by kernel_rfl) (by kernel_rfl) (fun _ _ _ h => h) ⟨by rfl, ?_⟩ (by first | assumption | trivial) ?_
              rotate_left
              · intro W9 hSw
                (try dsimp only at hSw)
                go_simp
                try with_reducible rfl
              (try simp only [Act.put, List.setIfInBounds_toArray, List.set_cons_zero, List.set_cons_succ])
              refine takeL (i := 15) (v := ?_) rfl (by kernel_rfl) (by kernel_rfl) (by kernel_rfl) (fun _ _ _ h => h) ⟨by rfl, ?_⟩ (by first | assumption | trivial) ?_
              rotate_left
              · intro W9 hSw
                (try dsimp only at hSw)
                go_simp
                try with_reducible rfl
              (try simp only [Act.put, List.setIfInBounds_toArray, List.set_cons_zero, List.set_cons_succ])
              refine takeL (i := 16) (v := ?_) rfl (by kernel_rfl) (by kernel_rfl) (by kernel_rfl) (fun _ _ _ h => h) ⟨by rfl, ?_⟩ (by first | assumption | trivial) ?_
              rotate_left
              · intro W9 hSw
                (try dsimp only at hSw)
                go_simp
                try with_reducible rfl
              (try simp only [Act.put, List.setIfInBounds_toArray, List.set_cons_zero, List.set_cons_succ])
              refine takeL (i := 19) (v := ?_) rfl (by kernel_rfl) (by kernel_rfl) (by kernel_rfl) (fun _ _ _ h => h) ⟨by rfl, ?_⟩ (by first | assumption | trivial) ?_
              rotate_left
              · intro W9 hSw
                (try dsimp only at hSw)
                go_simp
                try with_reducible rfl
              (try simp only [Act.put, List.setIfInBounds_toArray, List.set_cons_zero, List.set_cons_succ])
              refine takeL (i := 20) (v := ?_) rfl (by kernel_rfl) (by kernel_rfl) (by kernel_rfl) (fun _ _ _ h => h) ⟨by rfl, ?_⟩ (by first | assumption | trivial) ?_
              rotate_left
              · intro W9 hSw
                (try dsimp only at hSw)
                go_simp
                try with_reducible rfl
              (try simp only [Act.put, List.setIfInBounds_toArray, List.set_cons_zero, List.set_cons_succ])
              refine wpAnyH_ready (rs := [13]) (by kernel_rfl) (by simp) ?_
              refine consL rfl (by rfl) (fun K hK => ?_) ?_
              · go_simp
                refine hK.out _ _ hHeld (fun _ => ?_)
                clear hK K
                (try simp only [Act.put, List.setIfInBounds_toArray, List.set_cons_zero, List.set_cons_succ])
                refine takeL (i := 17) (v := ?_) rfl (by kernel_rfl) (by kernel_rfl) (by kernel_rfl) (fun _ _ _ h => h) ⟨by rfl, ?_⟩ (by first | assumption | trivial) ?_
                rotate_left
                · intro W9 hSw
                  (try dsimp only at hSw)
                  go_simp
                  try with_reducible rfl
                (try simp only [Act.put, List.setIfInBounds_toArray, List.set_cons_zero, List.set_cons_succ])
                refine wpAnyH_ready (rs := [18]) (by kernel_rfl) (by simp) ?_
                refine consL rfl (by rfl) (fun K hK => ?_) ?_
                · go_simp
                  have TM3 := Lib.hid (tbm_up TM2.out hu12 (HDS.out u))
                  rw [← HL.out u hu12, HVO.out] at TM3
                  unfold ptr at TM3
                  have XE3 := Lib.hid (bxv_far (bxv_far XE2.out hbeg (5 + u) (.pointer vo)) hq3 (5 + u) (.pointer (some ⟨gn, 0, none⟩)))
                  have XP3 := Lib.hid (bxv_far (bxv_far XP2.out hbqg (5 + u) (.pointer vo)) hq2 (5 + u) (.pointer (some ⟨gn, 0, none⟩)))
                  have F3 := Lib.hid ((F2.out.put (b := gn) (.inr hgn) (5 + u) (.pointer vo)).put (b := pv u) (.inl HPS.out) (5 + u) (.pointer (some ⟨gn, 0, none⟩)))
                  have hgp : gn ≠ pv u := fun e => hpg e.symm
                  have cpn2 : (Y.setCell ⟨gn, 5 + u, none⟩ (.pointer vo)).cell? ⟨pv u, 5 + u, none⟩ = some (.pointer vo) := (World.cell?_setCell_far _ _ _ _ (show (⟨gn, 5 + u, none⟩ : Addr).block ≠ (⟨pv u, 5 + u, none⟩ : Addr).block from hgp)).trans cpn
                  have hH2 := hHeld
                  refine hK.out _ _ ⟨by simpa using ybq, (World.cell?_setCell_far _ _ _ _ (show (⟨gn, 5 + u, none⟩ : Addr).block ≠ (⟨bq, u, none⟩ : Addr).block from hbqg)).trans cbq⟩ (fun _ => ?_)
                  clear hK K
                  (try simp only [Act.put, List.setIfInBounds_toArray, List.set_cons_zero, List.set_cons_succ])
                  refine takeL (i := 21) (v := ?_) rfl (by kernel_rfl) (by kernel_rfl) (by kernel_rfl) (fun _ _ _ h => h) ⟨by rfl, ?_⟩ (by first | assumption | trivial) ?_
                  rotate_left
                  · intro W9 hSw
                    (try dsimp only at hSw)
                    go_simp
                    try with_reducible rfl
                  (try simp only [Act.put, List.setIfInBounds_toArray, List.set_cons_zero, List.set_cons_succ])
                  refine wpAnyH_ready (rs := [22]) (by kernel_rfl) (by simp) ?_
                  refine consL rfl (by rfl) (fun K hK => ?_) ?_
                  · go_simp
                    refine hK.out _ _ ⟨by simpa using ybq, (World.cell?_setCell_far _ _ _ _ (show (⟨pv u, 5 + u, none⟩ : Addr).block ≠ (⟨bq, u, none⟩ : Addr).block from hq2)).trans ((World.cell?_setCell_far _ _ _ _ (show (⟨gn, 5 + u, none⟩ : Addr).block ≠ (⟨bq, u, none⟩ : Addr).block from hbqg)).trans cbq)⟩ (fun _ => ?_)
                    clear hK K
                    (try simp only [Act.put, List.setIfInBounds_toArray, List.set_cons_zero, List.set_cons_succ])
                    clear TM2 XE2 XP2 F2
                    refine wpAnyH_done (by kernel_rfl) ?_ _
                    go_wp2_with fail
                    go_roundw
                    case rel => exact ⟨u + 1, by go_num, by omega, TM3, XE3, XP3, F3⟩
                    case measure => simp [intOf]; omega
                  · exact AllReadyH.nil
                · exact AllReadyH.nil
              · exact AllReadyH.nil
            · obtain rfl : u = t := by omega
              have j2 : ¬ (u : Int) < (u : Int) := by omega
              have t18 := TMU.out.hd.c 18 _ rfl
              have t19 := TMU.out.hd.c 19 _ rfl
              have tf := TMU.out.hd.fz
              have tl := TMU.out.hd.lt
              have hw18 : IntKind.i64.wrap ((N.length : Int) + 1) = (N.length : Int) + 1 := IntWalk.i64_in _ (by omega)
              clear hlt2
              go_upto_region 20 with (fail)
              have TM5 : Hid (TbM (w1.setCell ⟨T, 18, none⟩ (.int .i64 ((N.length : Int) + 1))) T (some ⟨bh, oh, none⟩) k c (aheadP e N ++ ⟨gn, e, u, u⟩ :: aheadQ e N) ((N.length : Int) + 1) sz) := Lib.hid (tbm_t TMU.out (HDS.out u) 18 _ (by omega) (tbc_len _ _ _ _ _ _ _))
              have XE5 := Lib.hid (bxv_far XE1.out (p := T) (by have := TB.out.hd.lt; omega) 18 (.int .i64 ((N.length : Int) + 1)))
              have F5 := Lib.hid (F1.out.put (b := T) (.inl (List.mem_cons_self ..)) 18 (.int .i64 ((N.length : Int) + 1)))
              clear TMU XE1 XP1 F1 t18 t19 tf tl hw18
              generalize w1.setCell ⟨T, 18, none⟩ (.int .i64 ((N.length : Int) + 1)) = w5 at *
              refine wp_heldcut (S := fun W => Below w5.heap.size w5 W) 12 (by kernel_rfl) (by kernel_rfl) (Below.drew (Below.refl _ _)) (fun hHeld => ?_)
              simp only [List.take_succ_cons, List.take_zero]
              refine takeL (i := 0) (v := ?_) rfl (by kernel_rfl) (by kernel_rfl) (by kernel_rfl) (fun _ _ _ h => h) ⟨by rfl, ?_⟩ (by first | assumption | trivial) ?_
              rotate_left
              · intro W9 hSw
                (try dsimp only at hSw)
                go_simp
                try with_reducible rfl
              (try simp only [Act.put, List.setIfInBounds_toArray, List.set_cons_zero, List.set_cons_succ])
              refine takeL (i := 1) (v := ?_) rfl (by kernel_rfl) (by kernel_rfl) (by kernel_rfl) (fun _ _ _ h => h) ⟨by rfl, ?_⟩ (by first | assumption | trivial) ?_
              rotate_left
              · intro W9 hSw
                (try dsimp only at hSw)
                go_simp
                try with_reducible rfl
              (try simp only [Act.put, List.setIfInBounds_toArray, List.set_cons_zero, List.set_cons_succ])
              refine takeL (i := 2) (v := ?_) rfl (by kernel_rfl) (by kernel_rfl) (by kernel_rfl) (fun _ _ _ h => h) ⟨by rfl, ?_⟩ (by first | assumption | trivial) ?_
              rotate_left
              · intro W9 hSw
                (try dsimp only at hSw)
                go_simp
                try with_reducible rfl
              (try simp only [Act.put, List.setIfInBounds_toArray, List.set_cons_zero, List.set_cons_succ])
              refine takeL (i := 3) (v := ?_) rfl (by kernel_rfl) (by kernel_rfl) (by kernel_rfl) (fun _ _ _ h => h) ⟨by rfl, ?_⟩ (by first | assumption | trivial) ?_
              rotate_left
              · intro W9 hSw
                (try dsimp only at hSw)
                (have y := (TM5.out.next hSw).hd.c 19 _ rfl; have yl := (TM5.out.next hSw).hd.lt)
                go_simp
                try with_reducible rfl
              (try simp only [Act.put, List.setIfInBounds_toArray, List.set_cons_zero, List.set_cons_succ])
              refine takeL (i := 4) (v := ?_) rfl (by kernel_rfl) (by kernel_rfl) (by kernel_rfl) (fun _ _ _ h => h) ⟨by rfl, ?_⟩ (by first | assumption | trivial) ?_
              rotate_left
              · intro W9 hSw
                (try dsimp only at hSw)
                go_simp
                try with_reducible rfl
              (try simp only [Act.put, List.setIfInBounds_toArray, List.set_cons_zero, List.set_cons_succ])
              refine takeL (i := 5) (v := ?_) rfl (by kernel_rfl) (by kernel_rfl) (by kernel_rfl) (fun _ _ _ h => h) ⟨by rfl, ?_⟩ (by first | assumption | trivial) ?_
              rotate_left
              · intro W9 hSw
                (try dsimp only at hSw)
                (have y := (XE5.out.next hSw).c 0 _ rfl; have yl := (XE5.out.next hSw).lt)
                go_simp
                try with_reducible rfl
              (try simp only [Act.put, List.setIfInBounds_toArray, List.set_cons_zero, List.set_cons_succ])
              refine takeL (i := 6) (v := ?_) rfl (by kernel_rfl) (by kernel_rfl) (by kernel_rfl) (fun _ _ _ h => h) ⟨by rfl, ?_⟩ (by first | assumption | trivial) ?_
              rotate_left
              · intro W9 hSw
                (try dsimp only at hSw)
                go_simp
                try with_reducible rfl
              (try simp only [Act.put, List.setIfInBounds_toArray, List.set_cons_zero, List.set_cons_succ])
              refine takeL (i := 7) (v := ?_) rfl (by kernel_rfl) (by kernel_rfl) (by kernel_rfl) (fun _ _ _ h => h) ⟨by rfl, ?_⟩ (by first | assumption | trivial) ?_
              rotate_left
              · intro W9 hSw
                (try dsimp only at hSw)
                go_simp
                try with_reducible rfl
              (try simp only [Act.put, List.setIfInBounds_toArray, List.set_cons_zero, List.set_cons_succ])
              refine takeL (i := 8) (v := ?_) rfl (by kernel_rfl) (by kernel_rfl) (by kernel_rfl) (fun _ _ _ h => h) ⟨by rfl, ?_⟩ (by first | assumption | trivial) ?_
              rotate_left
              · intro W9 hSw
                (try dsimp only at hSw)
                (have y := (XE5.out.next hSw).c 1 _ rfl; have yl := (XE5.out.next hSw).lt)
                go_simp
                try with_reducible rfl
              (try simp only [Act.put, List.setIfInBounds_toArray, List.set_cons_zero, List.set_cons_succ])
              refine takeL (i := 9) (v := ?_) rfl (by kernel_rfl) (by kernel_rfl) (by kernel_rfl) (fun _ _ _ h => h) ⟨by rfl, ?_⟩ (by first | assumption | trivial) ?_
              rotate_left
              · intro W9 hSw
                (try dsimp only at hSw)
                go_simp
                try with_reducible rfl
              (try simp only [Act.put, List.setIfInBounds_toArray, List.set_cons_zero, List.set_cons_succ])
              refine takeL (i := 10) (v := ?_) rfl (by kernel_rfl) (by kernel_rfl) (by kernel_rfl) (fun _ _ _ h => h) ⟨by rfl, ?_⟩ (by first | assumption | trivial) ?_
              rotate_left
              · intro W9 hSw
                (try dsimp only at hSw)
                go_simp
                try with_reducible rfl
              (try simp only [Act.put, List.setIfInBounds_toArray, List.set_cons_zero, List.set_cons_succ])
              refine takeL (i := 11) (v := ?_) rfl (by kernel_rfl) (by kernel_rfl) (by kernel_rfl) (fun _ _ _ h => h) ⟨by rfl, ?_⟩ (by first | assumption | trivial) ?_
              rotate_left
              · intro W9 hSw
                (try dsimp only at hSw)
                go_simp
                try with_reducible rfl
              (try simp only [Act.put, List.setIfInBounds_toArray, List.set_cons_zero, List.set_cons_succ])
              clear hHeld
              have hdr : Below w5.heap.size w5 w5.drew := Below.drew (Below.refl _ _)
              have TM6 := Lib.hid (TM5.out.next hdr)
              have F6 := Lib.hid (F5.out.then hdr)
              clear hdr TM5 XE5 F5
              generalize w5.drew = Y at *
              refine wpAnyH_done (by kernel_rfl) ?_ _
              simp only [tailPost, List.drop_succ_cons, List.drop_zero]
              have t19 := TM6.out.hd.c 19 _ rfl
              have tf := TM6.out.hd.fz
              have tl := TM6.out.hd.lt
              obtain ⟨z, hz⟩ : ∃ z, z = sz + (e.key.size : Int) + (e.val.size : Int) := ⟨_, rfl⟩
              have hw19 : IntKind.i64.wrap (sz + ((e.key.size : Int) + (e.val.size : Int))) = z := by rw [IntWalk.i64_in _ (by omega)]; omega
              have hw20 : sz + ((e.key.size : Int) + (e.val.size : Int)) = z := by omega
              go_wp2_with fail
              have TM7 : Hid (TbM (Y.setCell ⟨T, 19, none⟩ (.int .i64 z)) T (some ⟨bh, oh, none⟩) k c (aheadP e N ++ ⟨gn, e, u, u⟩ :: aheadQ e N) ((N.length : Int) + 1) z) := Lib.hid (tbm_t TM6.out (HDS.out u) 19 _ (by omega) (tbc_sz _ _ _ _ _ _ _))
              have F7 := Lib.hid (F6.out.put (b := T) (.inl (List.mem_cons_self ..)) 19 (.int .i64 z))
              have FIN := Lib.hid (tbl_fin TB.out (ahead_app e N) hgn ht12 TM7.out F7.out)
              clear TM6 F6 TM7 t19 tf tl
              rw [hz] at FIN F7
              go_ret
              refine .inr ⟨HT.out, rfl, gn, hgn, ?_, F7.out⟩
              unfold insN
              rw [HTW.out]
              exact FIN.out
        · have hk00 : k = 0 := by omega
          have HTW : Hid (towN hs N.length = 1) := Lib.hid (by unfold towN; rw [if_pos (by rw [HKL.out]; omega)])
          have k1 : ¬ (0 : Int) < (k : Int) := by omega
          clear hk00
          go_upto_region 14 with (fail)
          have XG9 := XG7
          have X9 := X7
          have XP9 := XP7
          have B9 := B7
          clear XG7 X7 XP7 B7 TB7 t17 t18 tl
          obtain ⟨w9, rfl⟩ : ∃ x, x = w7 := ⟨_, rfl⟩
          obtain ⟨t, ht⟩ : ∃ t, t = 1 := ⟨_, rfl⟩
          have ht12 : 1 ≤ t ∧ t ≤ 12 := by omega
          rw [← ht] at HTW XG9
          clear ht
          have g4 := XG9.out.c 4 _ rfl
          have gl := XG9.out.lt
          have HTG : Hid (T ≠ gn) := Lib.hid (by have := TB.out.hd.lt; omega)
          have HAL : Hid (∀ n ∈ aheadP e N ++ aheadQ e N, n.g ≠ gn) := Lib.hid (fun n hn => by
            rw [← ahead_app] at hn
            obtain ⟨i, hi⟩ := List.mem_iff_getElem?.1 hn
            have := (TB.out.nd i n hi).lt
            omega)
          have HDS : Hid (∀ u, (T :: (aheadP e N ++ (⟨gn, e, t, u⟩ : Nd) :: aheadQ e N).map Nd.g).Nodup) := Lib.hid (fun u => dis_ins (by rw [← ahead_app]; exact TB.out.dis) HTG.out HAL.out u)
          have HU12 : Hid (∀ m ∈ aheadP e N, m.u ≤ 12) := Lib.hid (fun m hm => by
            have h := TB.out.full m (by rw [ahead_app e N]; exact List.mem_append_left _ hm)
            omega)
          have TM0 : Hid (TbM w9 T A k c (aheadP e N ++ ⟨gn, e, t, 0⟩ :: aheadQ e N) (N.length : Int) sz) := Lib.hid (tbm_zero (by rw [← ahead_app]; exact TB.out.m.next B9.out) XG9.out)
          have F9 : Hid (FrT (T :: N.map Nd.g) w w9) := Lib.hid (FrT.of B9.out)
          clear XG9 B9
          go_wp2_with fail
          clear g4 gl
          go_loopw [82] (fun s82 wr => ∃ u : Nat, s82 = .int .i64 (u : Int) ∧ u ≤ t ∧ Hid (TbM wr T A k c (aheadP e N ++ ⟨gn, e, t, u⟩ :: aheadQ e N) (N.length : Int) sz) ∧ Hid (BxV wr be [.string e.key, .string e.val, .int .i64 e.seq, .bool e.del]) ∧ Hid (BxV wr bq [.pointer (some ⟨pv 0, 0, none⟩), .pointer (some ⟨pv 1, 0, none⟩), .pointer (some ⟨pv 2, 0, none⟩), .pointer (some ⟨pv 3, 0, none⟩), .pointer (some ⟨pv 4, 0, none⟩), .pointer (some ⟨pv 5, 0, none⟩), .pointer (some ⟨pv 6, 0, none⟩), .pointer (some ⟨pv 7, 0, none⟩), .pointer (some ⟨pv 8, 0, none⟩), .pointer (some ⟨pv 9, 0, none⟩), .pointer (some ⟨pv 10, 0, none⟩), .pointer (some ⟨pv 11, 0, none⟩)]) ∧ Hid (FrT (T :: N.map Nd.g) w wr)) (fun s82 _ => t - (intOf s82).toNat)
          case atStart => exact ⟨0, rfl, Nat.zero_le _, TM0, X9, XP9, F9⟩
          case round =>
            clear TM0 X9 XP9 F9
            obtain ⟨u, rfl, hut, TMU, XE1, XP1, F1⟩ := hrel
            obtain ⟨w1, rfl⟩ : ∃ x, x = wr := ⟨_, rfl⟩
            by_cases hlt2 : u < t
            · have hu12 : u < 12 := by omega
              have cpv := XP1.out.c u _ (pv_get pv hu12)
              have cpn := TMU.out.prev HU12.out hu12
              rw [show nxv u (⟨gn, e, t, u⟩ :: aheadQ e N) = nxv u (aheadQ e N) by rw [nxv, if_neg (by show ¬ u < u; omega)], ← HL.out u hu12] at cpn
              have HGN := Lib.hid (TMU.out.nd (aheadP e N).length ⟨gn, e, t, u⟩ (by rw [List.getElem?_append_right (Nat.le_refl _), Nat.sub_self]; rfl))
              have cgn := HGN.out.c _ _ (ndc_get _ _ hu12)
              have fgn := HGN.out.fz
              have hpg : pv u ≠ gn := by
                rw [HL.out u hu12]
                rcases lst_in u (aheadP e N) T with e1 | ⟨m, hm, _, e1⟩
                · rw [e1]; exact HTG.out
                · rw [e1]; exact HAL.out m (List.mem_append_left _ hm)
              have hpf : ∀ o, w1.frozen? ⟨pv u, o, none⟩ = false := by
                rw [HL.out u hu12]
                rcases lst_in u (aheadP e N) T with e1 | ⟨m, hm, _, e1⟩
                · rw [e1]; exact TMU.out.hd.fz
                · obtain ⟨i, hi⟩ := List.mem_iff_getElem?.1 hm
                  have hj := (List.getElem?_eq_some_iff.1 hi).1
                  rw [e1]
                  exact (TMU.out.nd i m (by rw [List.getElem?_append_left hj]; exact hi)).fz
              have hpS : pv u ∈ (T :: N.map Nd.g) := by
                rw [HL.out u hu12]
                rcases lst_in u (aheadP e N) T with e1 | ⟨m, hm, _, e1⟩
                · rw [e1]; exact List.mem_cons_self ..
                · rw [e1]
                  exact List.mem_cons_of_mem _ (List.mem_map.2 ⟨m, by rw [ahead_app e N]; exact List.mem_append_left _ hm, rfl⟩)
              obtain ⟨vo, hvo⟩ := nxv_ptr u (aheadQ e N)
              have HVO := Lib.hid hvo
              rw [hvo] at cpn
              clear hvo
              have HCV := Lib.hid cpv
              have HCN := Lib.hid cpn
              have HCG := Lib.hid cgn
              have HPF := Lib.hid hpf
              have HPS := Lib.hid hpS
              have zgn : gn < w1.heap.size := HGN.out.lt
              have zpv : pv u < w1.heap.size := World.block_lt_of_cell? w1 _ cpn
              have zbq : bq < w1.heap.size := XP1.out.lt
              have j0 : (0 : Int) ≤ (u : Int) := by omega
              have j1 : (u : Int) < 12 := by omega
              have j2 : (u : Int) < (t : Int) := by omega
              have hbqg : gn ≠ bq := by omega
              have hbeg : gn ≠ be := by omega
              have hq2 : pv u ≠ bq := by
                intro e1
                rcases List.mem_cons.1 HPS.out with h2 | h2
                · have := TB.out.hd.lt; omega
                · obtain ⟨m, hm, e2⟩ := List.mem_map.1 h2
                  obtain ⟨i, hi⟩ := List.mem_iff_getElem?.1 hm
                  have := (TB.out.nd i m hi).lt
                  omega
              have hq3 : pv u ≠ be := by
                intro e1
                rcases List.mem_cons.1 HPS.out with h2 | h2
                · have := TB.out.hd.lt; omega
                · obtain ⟨m, hm, e2⟩ := List.mem_map.1 h2
                  obtain ⟨i, hi⟩ := List.mem_iff_getElem?.1 hm
                  have := (TB.out.nd i m hi).lt
                  omega
              clear cpv cpn cgn fgn hpf hpS
              go_wp2_with fail
              have hdr : Below w1.heap.size w1 w1.drew := Below.drew (Below.refl _ _)
              have TM2 := Lib.hid (TMU.out.next hdr)
              have XE2 := Lib.hid (XE1.out.next hdr)
              have XP2 := Lib.hid (XP1.out.next hdr)
              have F2 := Lib.hid (F1.out.then hdr)
              have cgn := (hdr.cell (p := ⟨gn, 5 + u, none⟩) zgn).trans HCG.out
              have fgn := (hdr.frozen (p := ⟨gn, 5 + u, none⟩) zgn).trans (HGN.out.fz (5 + u))
              have cpn := (hdr.cell (p := ⟨pv u, 5 + u, none⟩) zpv).trans HCN.out
              have fpn := (hdr.frozen (p := ⟨pv u, 5 + u, none⟩) zpv).trans (HPF.out (5 + u))
              have yg : gn < w1.drew.heap.size := Nat.lt_of_lt_of_le zgn hdr.size
              have yp : pv u < w1.drew.heap.size := Nat.lt_of_lt_of_le zpv hdr.size
              have cbq := (hdr.cell (p := ⟨bq, u, none⟩) zbq).trans HCV.out
              have ybq : bq < w1.drew.heap.size := Nat.lt_of_lt_of_le zbq hdr.size
              clear hdr TMU XE1 XP1 F1 HGN
              refine wp_heldall (S := fun W => bq < W.heap.size ∧ W.cell? ⟨bq, u, none⟩ = some (.pointer (some ⟨pv u, 0, none⟩))) 23 (by kernel_rfl) rfl ⟨ybq, cbq⟩ (fun hHeld => ?_)
              generalize w1.drew = Y at *
              refine takeL (i := 0) (v := ?_) rfl (by kernel_rfl) (by kernel_rfl) (by kernel_rfl) (fun _ _ _ h => h) ⟨by rfl, ?_⟩ (by first | assumption | trivial) ?_
              rotate_left
              · intro W9 hSw
                (try dsimp only at hSw)
                go_simp
                try with_reducible rfl
              (try simp only [Act.put, List.setIfInBounds_toArray, List.set_cons_zero, List.set_cons_succ])
              refine takeL (i := 1) (v := ?_) rfl (by kernel_rfl) (by kernel_rfl) (by kernel_rfl) (fun _ _ _ h => h) ⟨by rfl, ?_⟩ (by first | assumption | trivial) ?_
              rotate_left
              · intro W9 hSw
                (try dsimp only at hSw)
                go_simp
                try with_reducible rfl
              (try simp only [Act.put, List.setIfInBounds_toArray, List.set_cons_zero, List.set_cons_succ])
              refine takeL (i := 2) (v := ?_) rfl (by kernel_rfl) (by kernel_rfl) (by kernel_rfl) (fun _ _ _ h => h) ⟨by rfl, ?_⟩ (by first | assumption | trivial) ?_
              rotate_left
              · intro W9 hSw
                (try dsimp only at hSw)
                go_simp
                try with_reducible rfl
              (try simp only [Act.put, List.setIfInBounds_toArray, List.set_cons_zero, List.set_cons_succ])
              refine takeL (i := 3) (v := ?_) rfl (by kernel_rfl) (by kernel_rfl) (by kernel_rfl) (fun _ _ _ h => h) ⟨by rfl, ?_⟩ (by first | assumption | trivial) ?_
              rotate_left
              · intro W9 hSw
                (try dsimp only at hSw)
                go_simp
                try with_reducible rfl
              (try simp only [Act.put, List.setIfInBounds_toArray, List.set_cons_zero, List.set_cons_succ])
              refine takeL (i := 4) (v := ?_) rfl (by kernel_rfl) (by kernel_rfl) (by kernel_rfl) (fun _ _ _ h => h) ⟨by rfl, ?_⟩ (by first | assumption | trivial) ?_
              rotate_left
              · intro W9 hSw
                (try dsimp only at hSw)
                (have y := hSw.2; have yl := hSw.1)
                go_simp
                try with_reducible rfl
              (try simp only [Act.put, List.setIfInBounds_toArray, List.set_cons_zero, List.set_cons_succ])
              refine takeL (i := 5) (v := ?_) rfl (by kernel_rfl) (by kernel_rfl) (by kernel_rfl) (fun _ _ _ h => h) ⟨by rfl, ?_⟩ (by first | assumption | trivial) ?_
              rotate_left
              · intro W9 hSw
                (try dsimp only at hSw)
                go_simp
                try with_reducible rfl
              (try simp only [Act.put, List.setIfInBounds_toArray, List.set_cons_zero, List.set_cons_succ])
              refine takeL (i := 6) (v := ?_) rfl (by kernel_rfl) (by kernel_rfl) (by kernel_rfl) (fun _ _ _ h => h) ⟨by rfl, ?_⟩ (by first | assumption | trivial) ?_
              rotate_left
              · intro W9 hSw
                (try dsimp only at hSw)
                go_simp
                try with_reducible rfl
              (try simp only [Act.put, List.setIfInBounds_toArray, List.set_cons_zero, List.set_cons_succ])
              refine takeL (i := 7) (v := ?_) rfl (by kernel_rfl) (by kernel_rfl) (by kernel_rfl) (fun _ _ _ h => h) ⟨by rfl, ?_⟩ (by first | assumption | trivial) ?_
              rotate_left
              · intro W9 hSw
                (try dsimp only at hSw)
                go_simp
                try with_reducible rfl
              (try simp only [Act.put, List.setIfInBounds_toArray, List.set_cons_zero, List.set_cons_succ])
              refine takeL (i := 8) (v := ?_) rfl (by kernel_rfl) (by kernel_rfl) (by kernel_rfl) (fun _ _ _ h => h) ⟨by rfl, ?_⟩ (by first | assumption | trivial) ?_
              rotate_left
              · intro W9 hSw
                (try dsimp only at hSw)
                (have y := hSw.2; have yl := hSw.1)
                go_simp
                try with_reducible rfl
              (try simp only [Act.put, List.setIfInBounds_toArray, List.set_cons_zero, List.set_cons_succ])
              refine takeL (i := 9) (v := ?_) rfl (by kernel_rfl) (by kernel_rfl) (by kernel_rfl) (fun _ _ _ h => h) ⟨by rfl, ?_⟩ (by first | assumption | trivial) ?_
              rotate_left
              · intro W9 hSw
                (try dsimp only at hSw)
                go_simp
                try with_reducible rfl
              (try simp only [Act.put, List.setIfInBounds_toArray, List.set_cons_zero, List.set_cons_succ])
              refine takeL (i := 10) (v := ?_) rfl (by kernel_rfl) (by kernel_rfl) (by kernel_rfl) (fun _ _ _ h => h) ⟨by rfl, ?_⟩ (by first | assumption | trivial) ?_
              rotate_left
              · intro W9 hSw
                (try dsimp only at hSw)
                go_simp
                try with_reducible rfl
              (try simp only [Act.put, List.setIfInBounds_toArray, List.set_cons_zero, List.set_cons_succ])
              refine takeL (i := 11) (v := ?_) rfl (by kernel_rfl) (by kernel_rfl) (by kernel_rfl) (fun _ _ _ h => h) ⟨by rfl, ?_⟩ (by first | assumption | trivial) ?_
              rotate_left
              · intro W9 hSw
                (try dsimp only at hSw)
                go_simp
                try with_reducible rfl
              (try simp only [Act.put, List.setIfInBounds_toArray, List.set_cons_zero, List.set_cons_succ])
              refine takeL (i := 12) (v := ?_) rfl (by kernel_rfl) (by kernel_rfl) (by kernel_rfl) (fun _ _ _ h => h) ⟨by rfl, ?_⟩ (by first | assumption | trivial) ?_
              rotate_left
              · intro W9 hSw
                (try dsimp only at hSw)
                go_simp
                try with_reducible rfl
              (try simp only [Act.put, List.setIfInBounds_toArray, List.set_cons_zero, List.set_cons_succ])
              refine takeL (i := 14) (v := ?_) rfl (by kernel_rfl) (by kernel_rfl) (by kernel_rfl) (fun _ _ _ h => h) ⟨by rfl, ?_⟩ (by first | assumption | trivial) ?_
              rotate_left
              · intro W9 hSw
                (try dsimp only at hSw)
                go_simp
                try with_reducible rfl
              (try simp only [Act.put, List.setIfInBounds_toArray, List.set_cons_zero, List.set_cons_succ])
              refine takeL (i := 15) (v := ?_) rfl (by kernel_rfl) (by kernel_rfl) (by kernel_rfl) (fun _ _ _ h => h) ⟨by rfl, ?_⟩ (by first | assumption | trivial) ?_
              rotate_left
              · intro W9 hSw
                (try dsimp only at hSw)
                go_simp
                try with_reducible rfl
              (try simp only [Act.put, List.setIfInBounds_toArray, List.set_cons_zero, List.set_cons_succ])
              refine takeL (i := 16) (v := ?_) rfl (by kernel_rfl) (by kernel_rfl) (by kernel_rfl) (fun _ _ _ h => h) ⟨by rfl, ?_⟩ (by first | assumption | trivial) ?_
              rotate_left
              · intro W9 hSw
                (try dsimp only at hSw)
                go_simp
                try with_reducible rfl
              (try simp only [Act.put, List.setIfInBounds_toArray, List.set_cons_zero, List.set_cons_succ])
              refine takeL (i := 19) (v := ?_) rfl (by kernel_rfl) (by kernel_rfl) (by kernel_rfl) (fun _ _ _ h => h) ⟨by rfl, ?_⟩ (by first | assumption | trivial) ?_
              rotate_left
              · intro W9 hSw
                (try dsimp only at hSw)
                go_simp
                try with_reducible rfl
              (try simp only [Act.put, List.setIfInBounds_toArray, List.set_cons_zero, List.set_cons_succ])
              refine takeL (i := 20) (v := ?_) rfl (by kernel_rfl) (by kernel_rfl) (by kernel_rfl) (fun _ _ _ h => h) ⟨by rfl, ?_⟩ (by first | assumption | trivial) ?_
              rotate_left
              · intro W9 hSw
                (try dsimp only at hSw)
                go_simp
                try with_reducible rfl
              (try simp only [Act.put, List.setIfInBounds_toArray, List.set_cons_zero, List.set_cons_succ])
              refine wpAnyH_ready (rs := [13]) (by kernel_rfl) (by simp) ?_
              refine consL rfl (by rfl) (fun K hK => ?_) ?_
              · go_simp
                refine hK.out _ _ hHeld (fun _ => ?_)
                clear hK K
                (try simp only [Act.put, List.setIfInBounds_toArray, List.set_cons_zero, List.set_cons_succ])
                refine takeL (i := 17) (v := ?_) rfl (by kernel_rfl) (by kernel_rfl) (by kernel_rfl) (fun _ _ _ h => h) ⟨by rfl, ?_⟩ (by first | assumption | trivial) ?_
                rotate_left
                · intro W9 hSw
                  (try dsimp only at hSw)
                  go_simp
                  try with_reducible rfl
                (try simp only [Act.put, List.setIfInBounds_toArray, List.set_cons_zero, List.set_cons_succ])
                refine wpAnyH_ready (rs := [18]) (by kernel_rfl) (by simp) ?_
                refine consL rfl (by rfl) (fun K hK => ?_) ?_
                · go_simp
                  have TM3 := Lib.hid (tbm_up TM2.out hu12 (HDS.out u))
                  rw [← HL.out u hu12, HVO.out] at TM3
                  unfold ptr at TM3
                  have XE3 := Lib.hid (bxv_far (bxv_far XE2.out hbeg (5 + u) (.pointer vo)) hq3 (5 + u) (.pointer (some ⟨gn, 0, none⟩)))
                  have XP3 := Lib.hid (bxv_far (bxv_far XP2.out hbqg (5 + u) (.pointer vo)) hq2 (5 + u) (.pointer (some ⟨gn, 0, none⟩)))
                  have F3 := Lib.hid ((F2.out.put (b := gn) (.inr hgn) (5 + u) (.pointer vo)).put (b := pv u) (.inl HPS.out) (5 + u) (.pointer (some ⟨gn, 0, none⟩)))
                  have hgp : gn ≠ pv u := fun e => hpg e.symm
                  have cpn2 : (Y.setCell ⟨gn, 5 + u, none⟩ (.pointer vo)).cell? ⟨pv u, 5 + u, none⟩ = some (.pointer vo) := (World.cell?_setCell_far _ _ _ _ (show (⟨gn, 5 + u, none⟩ : Addr).block ≠ (⟨pv u, 5 + u, none⟩ : Addr).block from hgp)).trans cpn
                  have hH2 := hHeld
                  refine hK.out _ _ ⟨by simpa using ybq, (World.cell?_setCell_far _ _ _ _ (show (⟨gn, 5 + u, none⟩ : Addr).block ≠ (⟨bq, u, none⟩ : Addr).block from hbqg)).trans cbq⟩ (fun _ => ?_)
                  clear hK K
                  (try simp only [Act.put, List.setIfInBounds_toArray, List.set_cons_zero, List.set_cons_succ])
                  refine takeL (i := 21) (v := ?_) rfl (by kernel_rfl) (by kernel_rfl) (by kernel_rfl) (fun _ _ _ h => h) ⟨by rfl, ?_⟩ (by first | assumption | trivial) ?_
                  rotate_left
                  · intro W9 hSw
                    (try dsimp only at hSw)
                    go_simp
                    try with_reducible rfl
                  (try simp only [Act.put, List.setIfInBounds_toArray, List.set_cons_zero, List.set_cons_succ])
                  refine wpAnyH_ready (rs := [22]) (by kernel_rfl) (by simp) ?_
                  refine consL rfl (by rfl) (fun K hK => ?_) ?_
                  · go_simp
                    refine hK.out _ _ ⟨by simpa using ybq, (World.cell?_setCell_far _ _ _ _ (show (⟨pv u, 5 + u, none⟩ : Addr).block ≠ (⟨bq, u, none⟩ : Addr).block from hq2)).trans ((World.cell?_setCell_far _ _ _ _ (show (⟨gn, 5 + u, none⟩ : Addr).block ≠ (⟨bq, u, none⟩ : Addr).block from hbqg)).trans cbq)⟩ (fun _ => ?_)
                    clear hK K
                    (try simp only [Act.put, List.setIfInBounds_toArray, List.set_cons_zero, List.set_cons_succ])
                    clear TM2 XE2 XP2 F2
                    refine wpAnyH_done (by kernel_rfl) ?_ _
                    go_wp2_with fail
                    go_roundw
                    case rel => exact ⟨u + 1, by go_num, by omega, TM3, XE3, XP3, F3⟩
                    case measure => simp [intOf]; omega
                  · exact AllReadyH.nil
                · exact AllReadyH.nil
              · exact AllReadyH.nil
            · obtain rfl : u = t := by omega
              have j2 : ¬ (u : Int) < (u : Int) := by omega
              have t18 := TMU.out.hd.c 18 _ rfl
              have t19 := TMU.out.hd.c 19 _ rfl
              have tf := TMU.out.hd.fz
              have tl := TMU.out.hd.lt
              have hw18 : IntKind.i64.wrap ((N.length : Int) + 1) = (N.length : Int) + 1 := IntWalk.i64_in _ (by omega)
              clear hlt2
              go_upto_region 20 with (fail)
              have TM5 : Hid (TbM (w1.setCell ⟨T, 18, none⟩ (.int .i64 ((N.length : Int) + 1))) T A k c (aheadP e N ++ ⟨gn, e, u, u⟩ :: aheadQ e N) ((N.length : Int) + 1) sz) := Lib.hid (tbm_t TMU.out (HDS.out u) 18 _ (by omega) (tbc_len _ _ _ _ _ _ _))
              have XE5 := Lib.hid (bxv_far XE1.out (p := T) (by have := TB.out.hd.lt; omega) 18 (.int .i64 ((N.length : Int) + 1)))
              have F5 := Lib.hid (F1.out.put (b := T) (.inl (List.mem_cons_self ..)) 18 (.int .i64 ((N.length : Int) + 1)))
              clear TMU XE1 XP1 F1 t18 t19 tf tl hw18
              generalize w1.setCell ⟨T, 18, none⟩ (.int .i64 ((N.length : Int) + 1)) = w5 at *
              refine wp_heldcut (S := fun W => Below w5.heap.size w5 W) 12 (by kernel_rfl) (by kernel_rfl) (Below.drew (Below.refl _ _)) (fun hHeld => ?_)
              simp only [List.take_succ_cons, List.take_zero]
              refine takeL (i := 0) (v := ?_) rfl (by kernel_rfl) (by kernel_rfl) (by kernel_rfl) (fun _ _ _ h => h) ⟨by rfl, ?_⟩ (by first | assumption | trivial) ?_
              rotate_left
              · intro W9 hSw
                (try dsimp only at hSw)
                go_simp
                try with_reducible rfl
              (try simp only [Act.put, List.setIfInBounds_toArray, List.set_cons_zero, List.set_cons_succ])
              refine takeL (i := 1) (v := ?_) rfl (by kernel_rfl) (by kernel_rfl) (by kernel_rfl) (fun _ _ _ h => h) ⟨by rfl, ?_⟩ (by first | assumption | trivial) ?_
              rotate_left
              · intro W9 hSw
                (try dsimp only at hSw)
                go_simp
                try with_reducible rfl
              (try simp only [Act.put, List.setIfInBounds_toArray, List.set_cons_zero, List.set_cons_succ])
              refine takeL (i := 2) (v := ?_) rfl (by kernel_rfl) (by kernel_rfl) (by kernel_rfl) (fun _ _ _ h => h) ⟨by rfl, ?_⟩ (by first | assumption | trivial) ?_
              rotate_left
              · intro W9 hSw
                (try dsimp only at hSw)
                go_simp
                try with_reducible rfl
              (try simp only [Act.put, List.setIfInBounds_toArray, List.set_cons_zero, List.set_cons_succ])
              refine takeL (i := 3) (v := ?_) rfl (by kernel_rfl) (by kernel_rfl) (by kernel_rfl) (fun _ _ _ h => h) ⟨by rfl, ?_⟩ (by first | assumption | trivial) ?_
              rotate_left
              · intro W9 hSw
                (try dsimp only at hSw)
                (have y := (TM5.out.next hSw).hd.c 19 _ rfl; have yl := (TM5.out.next hSw).hd.lt)
                go_simp
                try with_reducible rfl
              (try simp only [Act.put, List.setIfInBounds_toArray, List.set_cons_zero, List.set_cons_succ])
              refine takeL (i := 4) (v := ?_) rfl (by kernel_rfl) (by kernel_rfl) (by kernel_rfl) (fun _ _ _ h => h) ⟨by rfl, ?_⟩ (by first | assumption | trivial) ?_
              rotate_left
              · intro W9 hSw
                (try dsimp only at hSw)
                go_simp
                try with_reducible rfl
              (try simp only [Act.put, List.setIfInBounds_toArray, List.set_cons_zero, List.set_cons_succ])
              refine takeL (i := 5) (v := ?_) rfl (by kernel_rfl) (by kernel_rfl) (by kernel_rfl) (fun _ _ _ h => h) ⟨by rfl, ?_⟩ (by first | assumption | trivial) ?_
              rotate_left
              · intro W9 hSw
                (try dsimp only at hSw)
                (have y := (XE5.out.next hSw).c 0 _ rfl; have yl := (XE5.out.next hSw).lt)
                go_simp
                try with_reducible rfl
              (try simp only [Act.put, List.setIfInBounds_toArray, List.set_cons_zero, List.set_cons_succ])
              refine takeL (i := 6) (v := ?_) rfl (by kernel_rfl) (by kernel_rfl) (by kernel_rfl) (fun _ _ _ h => h) ⟨by rfl, ?_⟩ (by first | assumption | trivial) ?_
              rotate_left
              · intro W9 hSw
                (try dsimp only at hSw)
                go_simp
                try with_reducible rfl
              (try simp only [Act.put, List.setIfInBounds_toArray, List.set_cons_zero, List.set_cons_succ])
              refine takeL (i := 7) (v := ?_) rfl (by kernel_rfl) (by kernel_rfl) (by kernel_rfl) (fun _ _ _ h => h) ⟨by rfl, ?_⟩ (by first | assumption | trivial) ?_
              rotate_left
              · intro W9 hSw
                (try dsimp only at hSw)
                go_simp
                try with_reducible rfl
              (try simp only [Act.put, List.setIfInBounds_toArray, List.set_cons_zero, List.set_cons_succ])
              refine takeL (i := 8) (v := ?_) rfl (by kernel_rfl) (by kernel_rfl) (by kernel_rfl) (fun _ _ _ h => h) ⟨by rfl, ?_⟩ (by first | assumption | trivial) ?_
              rotate_left
              · intro W9 hSw
                (try dsimp only at hSw)
                (have y := (XE5.out.next hSw).c 1 _ rfl; have yl := (XE5.out.next hSw).lt)
                go_simp
                try with_reducible rfl
              (try simp only [Act.put, List.setIfInBounds_toArray, List.set_cons_zero, List.set_cons_succ])
              refine takeL (i := 9) (v := ?_) rfl (by kernel_rfl) (by kernel_rfl) (by kernel_rfl) (fun _ _ _ h => h) ⟨by rfl, ?_⟩ (by first | assumption | trivial) ?_
              rotate_left
              · intro W9 hSw
                (try dsimp only at hSw)
                go_simp
                try with_reducible rfl
              (try simp only [Act.put, List.setIfInBounds_toArray, List.set_cons_zero, List.set_cons_succ])
              refine takeL (i := 10) (v := ?_) rfl (by kernel_rfl) (by kernel_rfl) (by kernel_rfl) (fun _ _ _ h => h) ⟨by rfl, ?_⟩ (by first | assumption | trivial) ?_
              rotate_left
              · intro W9 hSw
                (try dsimp only at hSw)
                go_simp
                try with_reducible rfl
              (try simp only [Act.put, List.setIfInBounds_toArray, List.set_cons_zero, List.set_cons_succ])
              refine takeL (i := 11) (v := ?_) rfl (by kernel_rfl) (by kernel_rfl) (by kernel_rfl) (fun _ _ _ h => h) ⟨by rfl, ?_⟩ (by first | assumption | trivial) ?_
              rotate_left
              · intro W9 hSw
                (try dsimp only at hSw)
                go_simp
                try with_reducible rfl
              (try simp only [Act.put, List.setIfInBounds_toArray, List.set_cons_zero, List.set_cons_succ])
              clear hHeld
              have hdr : Below w5.heap.size w5 w5.drew := Below.drew (Below.refl _ _)
              have TM6 := Lib.hid (TM5.out.next hdr)
              have F6 := Lib.hid (F5.out.then hdr)
              clear hdr TM5 XE5 F5
              generalize w5.drew = Y at *
              refine wpAnyH_done (by kernel_rfl) ?_ _
              simp only [tailPost, List.drop_succ_cons, List.drop_zero]
              have t19 := TM6.out.hd.c 19 _ rfl
              have tf := TM6.out.hd.fz
              have tl := TM6.out.hd.lt
              obtain ⟨z, hz⟩ : ∃ z, z = sz + (e.key.size : Int) + (e.val.size : Int) := ⟨_, rfl⟩
              have hw19 : IntKind.i64.wrap (sz + ((e.key.size : Int) + (e.val.size : Int))) = z := by rw [IntWalk.i64_in _ (by omega)]; omega
              have hw20 : sz + ((e.key.size : Int) + (e.val.size : Int)) = z := by omega
              go_wp2_with fail
              have TM7 : Hid (TbM (Y.setCell ⟨T, 19, none⟩ (.int .i64 z)) T A k c (aheadP e N ++ ⟨gn, e, u, u⟩ :: aheadQ e N) ((N.length : Int) + 1) z) := Lib.hid (tbm_t TM6.out (HDS.out u) 19 _ (by omega) (tbc_sz _ _ _ _ _ _ _))
              have F7 := Lib.hid (F6.out.put (b := T) (.inl (List.mem_cons_self ..)) 19 (.int .i64 z))
              have FIN := Lib.hid (tbl_fin TB.out (ahead_app e N) hgn ht12 TM7.out F7.out)
              clear TM6 F6 TM7 t19 tf tl
              rw [hz] at FIN F7
              go_ret
              refine .inr ⟨HT.out, rfl, gn, hgn, ?_, F7.out⟩
              unfold insN
              rw [HTW.out]
              exact FIN.out
    · have e1 : (n.e.key.toList == e.key.toList) = false := by rw [str_eqB]; exact decide_eq_false hky
      rw [decide_eq_false hky, Bool.false_and] at HT
      clear hky
      go_wp2_with fail
      refine wp_qall (by kernel_rfl) (by kernel_rfl) ?_
      intro hcg
      repeat (first | go_big_quiet_step (fail) | quiet_step (fail))
      refine wpQuiet_nil ?_
      intro wq hbwq hcwq hfwq
      clear hcg
      have X6 := Lib.hid (X5.out.next hbwq)
      have XP6 := Lib.hid (XP5.out.next hbwq)
      have B6 := Lib.hid (B5.out.trans (hbwq.mono B5.out.size))
      clear hbwq hcwq hfwq X5 XP5 B5 x0 x1 x2 x3 xl p0 pl c5 z5
      obtain ⟨w6, rfl⟩ : ∃ x, x = wq := ⟨_, rfl⟩
      clear e1 d0 d1 d2 d3 zn3
      have x0 := X6.out.c 0 _ rfl
      have x1 := X6.out.c 1 _ rfl
      have x2 := X6.out.c 2 _ rfl
      have x3 := X6.out.c 3 _ rfl
      have xl := X6.out.lt
      go_upto_region 11 with (fail)
      have hal : Below w6.heap.size w6 (w6.alloc (.cells #[.string e.key, .string e.val, .int .i64 e.seq, .bool e.del, .int .i64 1, .pointer none, .pointer none, .pointer none, .pointer none, .pointer none, .pointer none, .pointer none, .pointer none, .pointer none, .pointer none, .pointer none, .pointer none] 67)) := (Below.refl _ _).alloc (Nat.le_refl _) _
      have XG7 : Hid (BxV (w6.alloc (.cells #[.string e.key, .string e.val, .int .i64 e.seq, .bool e.del, .int .i64 1, .pointer none, .pointer none, .pointer none, .pointer none, .pointer none, .pointer none, .pointer none, .pointer none, .pointer none, .pointer none, .pointer none, .pointer none] 67)) w6.heap.size (ndc ⟨w6.heap.size, e, 1, 0⟩ (aheadQ e N))) := Lib.hid (by
        have h := BxV.new w6 #[.string e.key, .string e.val, .int .i64 e.seq, .bool e.del, .int .i64 1, .pointer none, .pointer none, .pointer none, .pointer none, .pointer none, .pointer none, .pointer none, .pointer none, .pointer none, .pointer none, .pointer none, .pointer none] 67
        unfold ndc
        rw [lnc_none]
        exact h)
      have X7 := Lib.hid (X6.out.next hal)
      have XP7 := Lib.hid (XP6.out.next hal)
      have B7 := Lib.hid (B6.out.trans (hal.mono B6.out.size))
      have hgn : w.heap.size ≤ w6.heap.size := B6.out.size
      have hqg : bq < w6.heap.size := XP6.out.lt
      have hbg : be < w6.heap.size := X6.out.lt
      clear hal X6 XP6 B6 x0 x1 x2 x3 xl
      generalize w6.alloc (.cells #[.string e.key, .string e.val, .int .i64 e.seq, .bool e.del, .int .i64 1, .pointer none, .pointer none, .pointer none, .pointer none, .pointer none, .pointer none, .pointer none, .pointer none, .pointer none, .pointer none, .pointer none, .pointer none] 67) = w7 at *
      generalize w6.heap.size = gn at *
      have TB7 := Lib.hid (TB.out.next (B7.out))
      have t17 := TB7.out.hd.c 17 _ rfl
      have t18 := TB7.out.hd.c 18 _ rfl
      have tl := TB7.out.hd.lt
      by_cases hk0 : 0 < k
      · have k1 : (0 : Int) < (k : Int) := by omega
        have hkl : hs.length ≠ 0 := by rw [HKL.out]; omega
        have hrm : N.length % k < k := Nat.mod_lt _ hk0
        obtain ⟨x, hx⟩ : ∃ x, hs[N.length % k]? = some x := ⟨_, List.getElem?_eq_getElem (by rw [HKL.out]; exact hrm)⟩
        have hx12 := TB.out.hs12 x (List.mem_of_getElem? hx)
        have HTW : Hid (towN hs N.length = x.toNat) := Lib.hid (tow_at hkl (by rw [HKL.out]; exact hx))
        obtain ⟨bh, oh, rfl, hbh, hch⟩ := (own_rdq' TB7.out.row).at_ (nv_get hx)
        have hmd : Int.tmod (N.length : Int) (k : Int) = ((N.length % k : Nat) : Int) := rfl
        have r1 : ((N.length % k : Nat) : Int) < (k : Int) := by omega
        have r0 : (0 : Int) ≤ ((N.length % k : Nat) : Int) := by omega
        obtain ⟨rm, hrme⟩ : ∃ rm, rm = N.length % k := ⟨_, rfl⟩
        rw [← hrme] at hmd r1 r0 hch hx
        have kz : ((k : Int) == 0) = false := by rw [beq_eq_false_iff_ne]; omega
        have kz2 : (k : Int) ≠ 0 := by omega
        have kz3 : ¬ k = 0 := by omega
        have HG7 := Lib.hid (XG7.out.c 4 _ rfl)
        clear hx hrme hrm hkl
        go_upto_region 13 with (fail)
        refine wp_heldcut (S := fun W => Below w7.heap.size w7 W) 13 (by kernel_rfl) (by kernel_rfl) (Below.drew (Below.refl _ _)) (fun hHeld => ?_)
        simp only [List.take_succ_cons, List.take_zero]
        clear t17 t18 tl
        refine takeL (i := 0) (v := ?_) rfl (by kernel_rfl) (by kernel_rfl) (by kernel_rfl) (fun _ _ _ h => h) ⟨by rfl, ?_⟩ (by first | assumption | trivial) ?_
        rotate_left
        · intro W9 hSw
          (try dsimp only at hSw)
          go_simp
          try with_reducible rfl
        (try simp only [Act.put, List.setIfInBounds_toArray, List.set_cons_zero, List.set_cons_succ])
        refine takeL (i := 1) (v := ?_) rfl (by kernel_rfl) (by kernel_rfl) (by kernel_rfl) (fun _ _ _ h => h) ⟨by rfl, ?_⟩ (by first | assumption | trivial) ?_
        rotate_left
        · intro W9 hSw
          (try dsimp only at hSw)
          go_simp
          try with_reducible rfl
        (try simp only [Act.put, List.setIfInBounds_toArray, List.set_cons_zero, List.set_cons_succ])
        refine takeL (i := 2) (v := ?_) rfl (by kernel_rfl) (by kernel_rfl) (by kernel_rfl) (fun _ _ _ h => h) ⟨by rfl, ?_⟩ (by first | assumption | trivial) ?_
        rotate_left
        · intro W9 hSw
          (try dsimp only at hSw)
          go_simp
          try with_reducible rfl
        (try simp only [Act.put, List.setIfInBounds_toArray, List.set_cons_zero, List.set_cons_succ])
        refine takeL (i := 3) (v := ?_) rfl (by kernel_rfl) (by kernel_rfl) (by kernel_rfl) (fun _ _ _ h => h) ⟨by rfl, ?_⟩ (by first | assumption | trivial) ?_
        rotate_left
        · intro W9 hSw
          (try dsimp only at hSw)
          go_simp
          try with_reducible rfl
        (try simp only [Act.put, List.setIfInBounds_toArray, List.set_cons_zero, List.set_cons_succ])
        refine takeL (i := 4) (v := ?_) rfl (by kernel_rfl) (by kernel_rfl) (by kernel_rfl) (fun _ _ _ h => h) ⟨by rfl, ?_⟩ (by first | assumption | trivial) ?_
        rotate_left
        · intro W9 hSw
          (try dsimp only at hSw)
          (have y := (TB7.out.next hSw).hd.c 17 _ rfl; have yl := (TB7.out.next hSw).hd.lt)
          go_simp
          try with_reducible rfl
        (try simp only [Act.put, List.setIfInBounds_toArray, List.set_cons_zero, List.set_cons_succ])
        refine takeL (i := 5) (v := ?_) rfl (by kernel_rfl) (by kernel_rfl) (by kernel_rfl) (fun _ _ _ h => h) ⟨by rfl, ?_⟩ (by first | assumption | trivial) ?_
        rotate_left
        · intro W9 hSw
          (try dsimp only at hSw)
          go_simp
          try with_reducible rfl
        (try simp only [Act.put, List.setIfInBounds_toArray, List.set_cons_zero, List.set_cons_succ])
        refine takeL (i := 6) (v := ?_) rfl (by kernel_rfl) (by kernel_rfl) (by kernel_rfl) (fun _ _ _ h => h) ⟨by rfl, ?_⟩ (by first | assumption | trivial) ?_
        rotate_left
        · intro W9 hSw
          (try dsimp only at hSw)
          go_simp
          try with_reducible rfl
        (try simp only [Act.put, List.setIfInBounds_toArray, List.set_cons_zero, List.set_cons_succ])
        refine takeL (i := 7) (v := ?_) rfl (by kernel_rfl) (by kernel_rfl) (by kernel_rfl) (fun _ _ _ h => h) ⟨by rfl, ?_⟩ (by first | assumption | trivial) ?_
        rotate_left
        · intro W9 hSw
          (try dsimp only at hSw)
          go_simp
          try with_reducible rfl
        (try simp only [Act.put, List.setIfInBounds_toArray, List.set_cons_zero, List.set_cons_succ])
        refine takeL (i := 8) (v := ?_) rfl (by kernel_rfl) (by kernel_rfl) (by kernel_rfl) (fun _ _ _ h => h) ⟨by rfl, ?_⟩ (by first | assumption | trivial) ?_
        rotate_left
        · intro W9 hSw
          (try dsimp only at hSw)
          (have y := (TB7.out.next hSw).hd.c 18 _ rfl; have yl := (TB7.out.next hSw).hd.lt)
          go_simp
          try with_reducible rfl
        (try simp only [Act.put, List.setIfInBounds_toArray, List.set_cons_zero, List.set_cons_succ])
        refine takeL (i := 9) (v := ?_) rfl (by kernel_rfl) (by kernel_rfl) (by kernel_rfl) (fun _ _ _ h => h) ⟨by rfl, ?_⟩ (by first | assumption | trivial) ?_
        rotate_left
        · intro W9 hSw
          (try dsimp only at hSw)
          go_simp
          try with_reducible rfl
        (try simp only [Act.put, List.setIfInBounds_toArray, List.set_cons_zero, List.set_cons_succ])
        refine takeL (i := 10) (v := ?_) rfl (by kernel_rfl) (by kernel_rfl) (by kernel_rfl) (fun _ _ _ h => h) ⟨by rfl, ?_⟩ (by first | assumption | trivial) ?_
        rotate_left
        · intro W9 hSw
          (try dsimp only at hSw)
          go_simp
          try with_reducible rfl
        (try simp only [Act.put, List.setIfInBounds_toArray, List.set_cons_zero, List.set_cons_succ])
        refine takeL (i := 11) (v := ?_) rfl (by kernel_rfl) (by kernel_rfl) (by kernel_rfl) (fun _ _ _ h => h) ⟨by rfl, ?_⟩ (by first | assumption | trivial) ?_
        rotate_left
        · intro W9 hSw
          (try dsimp only at hSw)
          go_simp
          try with_reducible rfl
        (try simp only [Act.put, List.setIfInBounds_toArray, List.set_cons_zero, List.set_cons_succ])
        refine takeL (i := 12) (v := ?_) rfl (by kernel_rfl) (by kernel_rfl) (by kernel_rfl) (fun _ _ _ h => h) ⟨by rfl, ?_⟩ (by first | assumption | trivial) ?_
        rotate_left
        · intro W9 hSw
          (try dsimp only at hSw)
          (have y := (hSw.cell (p := ⟨bh, oh + rm, none⟩) hbh).trans hch; have yl := World.block_lt_of_cell? W9 _ y)
          go_simp
          try with_reducible rfl
        (try simp only [Act.put, List.setIfInBounds_toArray, List.set_cons_zero, List.set_cons_succ])
        clear hHeld
        have hdr : Below w7.heap.size w7 w7.drew := Below.drew (Below.refl _ _)
        have XG8 := Lib.hid (XG7.out.next hdr)
        have X8 := Lib.hid (X7.out.next hdr)
        have XP8 := Lib.hid (XP7.out.next hdr)
        have B8 := Lib.hid (B7.out.trans (hdr.mono B7.out.size))
        clear hdr XG7 X7 XP7 B7 TB7 HG7
        generalize w7.drew = Y at *
        refine wpAnyH_done (by kernel_rfl) ?_ _
        simp only [tailPost, List.drop_succ_cons, List.drop_zero]
        have g4 := XG8.out.c 4 _ rfl
        have gf := XG8.out.fz
        have gl := XG8.out.lt
        go_upto_region 14 with (fail)
        have XG9 := Lib.hid (bxv_put XG8.out 4 (by rw [ndc_len]; omega) (.int .i64 x))
        rw [ndc_tow _ _ _ _ hx12.1] at XG9
        have X9 := Lib.hid (bxv_far X8.out (p := gn) (by omega) 4 (.int .i64 x))
        have XP9 := Lib.hid (bxv_far XP8.out (p := gn) (by omega) 4 (.int .i64 x))
        have B9 := Lib.hid (B8.out.setCell (p := ⟨gn, 4, none⟩) hgn (.int .i64 x))
        have ht12 : 1 ≤ x.toNat ∧ x.toNat ≤ 12 := by omega
        clear XG8 X8 XP8 B8 g4 gf gl
        generalize Y.setCell ⟨gn, 4, none⟩ (.int .i64 x) = w9 at *
        generalize x.toNat = t at *
        have g4 := XG9.out.c 4 _ rfl
        have gl := XG9.out.lt
        have HTG : Hid (T ≠ gn) := Lib.hid (by have := TB.out.hd.lt; omega)
        have HAL : Hid (∀ n ∈ aheadP e N ++ aheadQ e N, n.g ≠ gn) := Lib.hid (fun n hn => by
          rw [← ahead_app] at hn
          obtain ⟨i, hi⟩ := List.mem_iff_getElem?.1 hn
          have := (TB.out.nd i n hi).lt
          omega)
        have HDS : Hid (∀ u, (T :: (aheadP e N ++ (⟨gn, e, t, u⟩ : Nd) :: aheadQ e N).map Nd.g).Nodup) := Lib.hid (fun u => dis_ins (by rw [← ahead_app]; exact TB.out.dis) HTG.out HAL.out u)
        have HU12 : Hid (∀ m ∈ aheadP e N, m.u ≤ 12) := Lib.hid (fun m hm => by
          have h := TB.out.full m (by rw [ahead_app e N]; exact List.mem_append_left _ hm)
          omega)
        have TM0 : Hid (TbM w9 T (some ⟨bh, oh, none⟩) k c (aheadP e N ++ ⟨gn, e, t, 0⟩ :: aheadQ e N) (N.length : Int) sz) := Lib.hid (tbm_zero (by rw [← ahead_app]; exact TB.out.m.next B9.out) XG9.out)
        have F9 : Hid (FrT (T :: N.map Nd.g) w w9) := Lib.hid (FrT.of B9.out)
        clear XG9 B9
        go_wp2_with fail
        clear g4 gl
        go_loopw [82] (fun s82 wr => ∃ u : Nat, s82 = .int .i64 (u : Int) ∧ u ≤ t ∧ Hid (TbM wr T (some ⟨bh, oh, none⟩) k c (aheadP e N ++ ⟨gn, e, t, u⟩ :: aheadQ e N) (N.length : Int) sz) ∧ Hid (BxV wr be [.string e.key, .string e.val, .int .i64 e.seq, .bool e.del]) ∧ Hid (BxV wr bq [.pointer (some ⟨pv 0, 0, none⟩), .pointer (some ⟨pv 1, 0, none⟩), .pointer (some ⟨pv 2, 0, none⟩), .pointer (some ⟨pv 3, 0, none⟩), .pointer (some ⟨pv 4, 0, none⟩), .pointer (some ⟨pv 5, 0, none⟩), .pointer (some ⟨pv 6, 0, none⟩), .pointer (some ⟨pv 7, 0, none⟩), .pointer (some ⟨pv 8, 0, none⟩), .pointer (some ⟨pv 9, 0, none⟩), .pointer (some ⟨pv 10, 0, none⟩), .pointer (some ⟨pv 11, 0, none⟩)]) ∧ Hid (FrT (T :: N.map Nd.g) w wr)) (fun s82 _ => t - (intOf s82).toNat)
        case atStart => exact ⟨0, rfl, Nat.zero_le _, TM0, X9, XP9, F9⟩
        case round =>
          clear TM0 X9 XP9 F9
          obtain ⟨u, rfl, hut, TMU, XE1, XP1, F1⟩ := hrel
          obtain ⟨w1, rfl⟩ : ∃ x, x = wr := ⟨_, rfl⟩
          by_cases hlt2 : u < t
          · have hu12 : u < 12 := by omega
            have cpv := XP1.out.c u _ (pv_get pv hu12)
            have cpn := TMU.out.prev HU12.out hu12
            rw [show nxv u (⟨gn, e, t, u⟩ :: aheadQ e N) = nxv u (aheadQ e N) by rw [nxv, if_neg (by show ¬ u < u; omega)], ← HL.out u hu12] at cpn
            have HGN := Lib.hid (TMU.out.nd (aheadP e N).length ⟨gn, e, t, u⟩ (by rw [List.getElem?_append_right (Nat.le_refl _), Nat.sub_self]; rfl))
            have cgn := HGN.out.c _ _ (ndc_get _ _ hu12)
            have fgn := HGN.out.fz
            have hpg : pv u ≠ gn := by
              rw [HL.out u hu12]
              rcases lst_in u (aheadP e N) T with e1 | ⟨m, hm, _, e1⟩
              · rw [e1]; exact HTG.out
              · rw [e1]; exact HAL.out m (List.mem_append_left _ hm)
            have hpf : ∀ o, w1.frozen? ⟨pv u, o, none⟩ = false := by
              rw [HL.out u hu12]
              rcases lst_in u (aheadP e N) T with e1 | ⟨m, hm, _, e1⟩
              · rw [e1]; exact TMU.out.hd.fz
              · obtain ⟨i, hi⟩ := List.mem_iff_getElem?.1 hm
                have hj := (List.getElem?_eq_some_iff.1 hi).1
                rw [e1]
                exact (TMU.out.nd i m (by rw [List.getElem?_append_left hj]; exact hi)).fz
            have hpS : pv u ∈ (T :: N.map Nd.g) := by
              rw [HL.out u hu12]
              rcases lst_in u (aheadP e N) T with e1 | ⟨m, hm, _, e1⟩
              · rw [e1]; exact List.mem_cons_self ..
              · rw [e1]
                exact List.mem_cons_of_mem _ (List.mem_map.2 ⟨m, by rw [ahead_app e N]; exact List.mem_append_left _ hm, rfl⟩)
            obtain ⟨vo, hvo⟩ := nxv_ptr u (aheadQ e N)
            have HVO := Lib.hid hvo
            rw [hvo] at cpn
            clear hvo
            have HCV := Lib.hid cpv
            have HCN := Lib.hid cpn
            have HCG := Lib.hid cgn
            have HPF := Lib.hid hpf
            have HPS := Lib.hid hpS
            have zgn : gn < w1.heap.size := HGN.out.lt
            have zpv : pv u < w1.heap.size := World.block_lt_of_cell? w1 _ cpn
            have zbq : bq < w1.heap.size := XP1.out.lt
            have j0 : (0 : Int) ≤ (u : Int) := by omega
            have j1 : (u : Int) < 12 := by omega
            have j2 : (u : Int) < (t : Int) := by omega
            have hbqg : gn ≠ bq := by omega
            have hbeg : gn ≠ be := by omega
            have hq2 : pv u ≠ bq := by
              intro e1
              rcases List.mem_cons.1 HPS.out with h2 | h2
              · have := TB.out.hd.lt; omega
              · obtain ⟨m, hm, e2⟩ := List.mem_map.1 h2
                obtain ⟨i, hi⟩ := List.mem_iff_getElem?.1 hm
                have := (TB.out.nd i m hi).lt
                omega
            have hq3 : pv u ≠ be := by
              intro e1
              rcases List.mem_cons.1 HPS.out with h2 | h2
              · have := TB.out.hd.lt; omega
              · obtain ⟨m, hm, e2⟩ := List.mem_map.1 h2
                obtain ⟨i, hi⟩ := List.mem_iff_getElem?.1 hm
                have := (TB.out.nd i m hi).lt
                omega
            clear cpv cpn cgn fgn hpf hpS
            go_wp2_with fail
            have hdr : Below w1.heap.size w1 w1.drew := Below.drew (Below.refl _ _)
            have TM2 := Lib.hid (TMU.out.next hdr)
            have XE2 := Lib.hid (XE1.out.next hdr)
            have XP2 := Lib.hid (XP1.out.next hdr)
            have F2 := Lib.hid (F1.out.then hdr)
            have cgn := (hdr.cell (p := ⟨gn, 5 + u, none⟩) zgn).trans HCG.out
            have fgn := (hdr.frozen (p := ⟨gn, 5 + u, none⟩) zgn).trans (HGN.out.fz (5 + u))
            have cpn := (hdr.cell (p := ⟨pv u, 5 + u, none⟩) zpv).trans HCN.out
            have fpn := (hdr.frozen (p := ⟨pv u, 5 + u, none⟩) zpv).trans (HPF.out (5 + u))
            have yg : gn < w1.drew.heap.size := Nat.lt_of_lt_of_le zgn hdr.size
            have yp : pv u < w1.drew.heap.size := Nat.lt_of_lt_of_le zpv hdr.size
            have cbq := (hdr.cell (p := ⟨bq, u, none⟩) zbq).trans HCV.out
            have ybq : bq < w1.drew.heap.size := Nat.lt_of_lt_of_le zbq hdr.size
            clear hdr TMU XE1 XP1 F1 HGN
            refine wp_heldall (S := fun W => bq < W.heap.size ∧ W.cell? ⟨bq, u, none⟩ = some (.pointer (some ⟨pv u, 0, none⟩))) 23 (by kernel_rfl) rfl ⟨ybq, cbq⟩ (fun hHeld => ?_)
            generalize w1.drew = Y at *
            refine takeL (i := 0) (v := ?_) rfl (by kernel_rfl) (by kernel_rfl) (by kernel_rfl) (fun _ _ _ h => h) ⟨by rfl, ?_⟩ (by first | assumption | trivial) ?_
            rotate_left
            · intro W9 hSw
              (try dsimp only at hSw)
              go_simp
              try with_reducible rfl
            (try simp only [Act.put, List.setIfInBounds_toArray, List.set_cons_zero, List.set_cons_succ])
            refine takeL (i := 1) (v := ?_) rfl (by kernel_rfl) (by kernel_rfl) (by kernel_rfl) (fun _ _ _ h => h) ⟨by rfl, ?_⟩ (by first | assumption | trivial) ?_
            rotate_left
            · intro W9 hSw
              (try dsimp only at hSw)
              go_simp
              try with_reducible rfl
            (try simp only [Act.put, List.setIfInBounds_toArray, List.set_cons_zero, List.set_cons_succ])
            refine takeL (i := 2) (v := ?_) rfl (by kernel_rfl) (by kernel_rfl) (by kernel_rfl) (fun _ _ _ h => h) ⟨by rfl, ?_⟩ (by first | assumption | trivial) ?_
            rotate_left
            · intro W9 hSw
              (try dsimp only at hSw)
              go_simp
              try with_reducible rfl
            (try simp only [Act.put, List.setIfInBounds_toArray, List.set_cons_zero, List.set_cons_succ])
            refine takeL (i := 3) (v := ?_) rfl (by kernel_rfl) (by kernel_rfl) (by kernel_rfl) (fun _ _ _ h => h) ⟨by rfl, ?_⟩ (by first | assumption | trivial) ?_
            rotate_left
            · intro W9 hSw
              (try dsimp only at hSw)
              go_simp
              try with_reducible rfl
            (try simp only [Act.put, List.setIfInBounds_toArray, List.set_cons_zero, List.set_cons_succ])
            refine takeL (i := 4) (v := ?_) rfl (by kernel_rfl) (by kernel_rfl) (by kernel_rfl) (fun _ _ _ h => h) ⟨by rfl, ?_⟩ (by first | assumption | trivial) ?_
            rotate_left
            · intro W9 hSw
              (try dsimp only at hSw)
              (have y := hSw.2; have yl := hSw.1)
              go_simp
              try with_reducible rfl
            (try simp only [Act.put, List.setIfInBounds_toArray, List.set_cons_zero, List.set_cons_succ])
            refine takeL (i := 5) (v := ?_) rfl (by kernel_rfl) (by kernel_rfl) (by kernel_rfl) (fun _ _ _ h => h) ⟨by rfl, ?_⟩ (by first | assumption | trivial) ?_
            rotate_left
            · intro W9 hSw
              (try dsimp only at hSw)
              go_simp
              try with_reducible rfl
            (try simp only [Act.put, List.setIfInBounds_toArray, List.set_cons_zero, List.set_cons_succ])
            refine takeL (i := 6) (v := ?_) rfl (by kernel_rfl) (by kernel_rfl) (by kernel_rfl) (fun _ _ _ h => h) ⟨by rfl, ?_⟩ (by first | assumption | trivial) ?_
            rotate_left
            · intro W9 hSw
              (try dsimp only at hSw)
              go_simp
              try with_reducible rfl
            (try simp only [Act.put, List.setIfInBounds_toArray, List.set_cons_zero, List.set_cons_succ])
            refine takeL (i := 7) (v := ?_) rfl (by kernel_rfl) (by kernel_rfl) (by kernel_rfl) (fun _ _ _ h => h) ⟨by rfl, ?_⟩ (by first | assumption | trivial) ?_
            rotate_left
            · intro W9 hSw
              (try dsimp only at hSw)
              go_simp
              try with_reducible rfl
            (try simp only [Act.put, List.setIfInBounds_toArray, List.set_cons_zero, List.set_cons_succ])
            refine takeL (i := 8) (v := ?_) rfl (by kernel_rfl) (by kernel_rfl) (by kernel_rfl) (fun _ _ _ h => h) ⟨by rfl, ?_⟩ (by first | assumption | trivial) ?_
            rotate_left
            · intro W9 hSw
              (try dsimp only at hSw)
              (have y := hSw.2; have yl := hSw.1)
              go_simp
              try with_reducible rfl
            (try simp only [Act.put, List.setIfInBounds_toArray, List.set_cons_zero, List.set_cons_succ])
            refine takeL (i := 9) (v := ?_) rfl (by kernel_rfl) (by kernel_rfl) (by kernel_rfl) (fun _ _ _ h => h) ⟨by rfl, ?_⟩ (by first | assumption | trivial) ?_
            rotate_left
            · intro W9 hSw
              (try dsimp only at hSw)
              go_simp
              try with_reducible rfl
            (try simp only [Act.put, List.setIfInBounds_toArray, List.set_cons_zero, List.set_cons_succ])
            refine takeL (i := 10) (v := ?_) rfl (by kernel_rfl) (by kernel_rfl) (by kernel_rfl) (fun _ _ _ h => h) ⟨by rfl, ?_⟩ (by first | assumption | trivial) ?_
            rotate_left
            · intro W9 hSw
              (try dsimp only at hSw)
              go_simp
              try with_reducible rfl
            (try simp only [Act.put, List.setIfInBounds_toArray, List.set_cons_zero, List.set_cons_succ])
            refine takeL (i := 11) (v := ?_) rfl (by kernel_rfl) (by kernel_rfl) (by kernel_rfl) (fun _ _ _ h => h) ⟨by rfl, ?_⟩ (by first | assumption | trivial) ?_
            rotate_left
            · intro W9 hSw
              (try dsimp only at hSw)
              go_simp
              try with_reducible rfl
            (try simp only [Act.put, List.setIfInBounds_toArray, List.set_cons_zero, List.set_cons_succ])
            refine takeL (i := 12) (v := ?_) rfl (by kernel_rfl) (by kernel_rfl) (by kernel_rfl) (fun _ _ _ h => h) ⟨by rfl, ?_⟩ (by first | assumption | trivial) ?_
            rotate_left
            · intro W9 hSw
              (try dsimp only at hSw)
              go_simp
              try with_reducible rfl
            (try simp only [Act.put, List.setIfInBounds_toArray, List.set_cons_zero, List.set_cons_succ])
            refine takeL (i := 14) (v := ?_) rfl (by kernel_rfl) (by kernel_rfl) (by kernel_rfl) (fun _ _ _ h => h) ⟨by rfl, ?_⟩ (by first | assumption | trivial) ?_
            rotate_left
            · intro W9 hSw
              (try dsimp only at hSw)
              go_simp
              try with_reducible rfl
            (try simp only [Act.put, List.setIfInBounds_toArray, List.set_cons_zero, List.set_cons_succ])
            refine takeL (i := 15) (v := ?_) rfl (by kernel_rfl) (by kernel_rfl) (by kernel_rfl) (fun _ _ _ h => h) ⟨by rfl, ?_⟩ (by first | assumption | trivial) ?_
            rotate_left
            · intro W9 hSw
              (try dsimp only at hSw)
              go_simp
              try with_reducible rfl
            (try simp only [Act.put, List.setIfInBounds_toArray, List.set_cons_zero, List.set_cons_succ])
            refine takeL (i := 16) (v := ?_) rfl (by kernel_rfl) (by kernel_rfl) (by kernel_rfl) (fun _ _ _ h => h) ⟨by rfl, ?_⟩ (by first | assumption | trivial) ?_
            rotate_left
            · intro W9 hSw
              (try dsimp only at hSw)
              go_simp
              try with_reducible rfl
            (try simp only [Act.put, List.setIfInBounds_toArray, List.set_cons_zero, List.set_cons_succ])
            refine takeL (i := 19) (v := ?_) rfl (by kernel_rfl) (by kernel_rfl) (by kernel_rfl) (fun _ _ _ h => h) ⟨by rfl, ?_⟩ (by first | assumption | trivial) ?_
            rotate_left
            · intro W9 hSw
              (try dsimp only at hSw)
              go_simp
              try with_reducible rfl
            (try simp only [Act.put, List.setIfInBounds_toArray, List.set_cons_zero, List.set_cons_succ])
            refine takeL (i := 20) (v := ?_) rfl (by kernel_rfl) (by kernel_rfl) (by kernel_rfl) (fun _ _ _ h => h) ⟨by rfl, ?_⟩ (by first | assumption | trivial) ?_
            rotate_left
            · intro W9 hSw
              (try dsimp only at hSw)
              go_simp
              try with_reducible rfl
            (try simp only [Act.put, List.setIfInBounds_toArray, List.set_cons_zero, List.set_cons_succ])
            refine wpAnyH_ready (rs := [13]) (by kernel_rfl) (by simp) ?_
            refine consL rfl (by rfl) (fun K hK => ?_) ?_
            · go_simp
              refine hK.out _ _ hHeld (fun _ => ?_)
              clear hK K
              (try simp only [Act.put, List.setIfInBounds_toArray, List.set_cons_zero, List.set_cons_succ])
              refine takeL (i := 17) (v := ?_) rfl (by kernel_rfl) (by kernel_rfl) (by kernel_rfl) (fun _ _ _ h => h) ⟨by rfl, ?_⟩ (by first | assumption | trivial) ?_
              rotate_left
              · intro W9 hSw
                (try dsimp only at hSw)
                go_simp
                try with_reducible rfl
              (try simp only [Act.put, List.setIfInBounds_toArray, List.set_cons_zero, List.set_cons_succ])
              refine wpAnyH_ready (rs := [18]) (by kernel_rfl) (by simp) ?_
              refine consL rfl (by rfl) (fun K hK => ?_) ?_
              · go_simp
                have TM3 := Lib.hid (tbm_up TM2.out hu12 (HDS.out u))
                rw [← HL.out u hu12, HVO.out] at TM3
                unfold ptr at TM3
                have XE3 := Lib.hid (bxv_far (bxv_far XE2.out hbeg (5 + u) (.pointer vo)) hq3 (5 + u) (.pointer (some ⟨gn, 0, none⟩)))
                have XP3 := Lib.hid (bxv_far (bxv_far XP2.out hbqg (5 + u) (.pointer vo)) hq2 (5 + u) (.pointer (some ⟨gn, 0, none⟩)))
                have F3 := Lib.hid ((F2.out.put (b := gn) (.inr hgn) (5 + u) (.pointer vo)).put (b := pv u) (.inl HPS.out) (5 + u) (.pointer (some ⟨gn, 0, none⟩)))
                have hgp : gn ≠ pv u := fun e => hpg e.symm
                have cpn2 : (Y.setCell ⟨gn, 5 + u, none⟩ (.pointer vo)).cell? ⟨pv u, 5 + u, none⟩ = some (.pointer vo) := (World.cell?_setCell_far _ _ _ _ (show (⟨gn, 5 + u, none⟩ : Addr).block ≠ (⟨pv u, 5 + u, none⟩ : Addr).block from hgp)).trans cpn
                have hH2 := hHeld
                refine hK.out _ _ ⟨by simpa using ybq, (World.cell?_setCell_far _ _ _ _ (show (⟨gn, 5 + u, none⟩ : Addr).block ≠ (⟨bq, u, none⟩ : Addr).block from hbqg)).trans cbq⟩ (fun _ => ?_)
                clear hK K
                (try simp only [Act.put, List.setIfInBounds_toArray, List.set_cons_zero, List.set_cons_succ])
                refine takeL (i := 21) (v := ?_) rfl (by kernel_rfl) (by kernel_rfl) (by kernel_rfl) (fun _ _ _ h => h) ⟨by rfl, ?_⟩ (by first | assumption | trivial) ?_
                rotate_left
                · intro W9 hSw
                  (try dsimp only at hSw)
                  go_simp
                  try with_reducible rfl
                (try simp only [Act.put, List.setIfInBounds_toArray, List.set_cons_zero, List.set_cons_succ])
                refine wpAnyH_ready (rs := [22]) (by kernel_rfl) (by simp) ?_
                refine consL rfl (by rfl) (fun K hK => ?_) ?_
                · go_simp
                  refine hK.out _ _ ⟨by simpa using ybq, (World.cell?_setCell_far _ _ _ _ (show (⟨pv u, 5 + u, none⟩ : Addr).block ≠ (⟨bq, u, none⟩ : Addr).block from hq2)).trans ((World.cell?_setCell_far _ _ _ _ (show (⟨gn, 5 + u, none⟩ : Addr).block ≠ (⟨bq, u, none⟩ : Addr).block from hbqg)).trans cbq)⟩ (fun _ => ?_)
                  clear hK K
                  (try simp only [Act.put, List.setIfInBounds_toArray, List.set_cons_zero, List.set_cons_succ])
                  clear TM2 XE2 XP2 F2
                  refine wpAnyH_done (by kernel_rfl) ?_ _
                  go_wp2_with fail
                  go_roundw
                  case rel => exact ⟨u + 1, by go_num, by omega, TM3, XE3, XP3, F3⟩
                  case measure => simp [intOf]; omega
                · exact AllReadyH.nil
              · exact AllReadyH.nil
            · exact AllReadyH.nil
          · obtain rfl : u = t := by omega
            have j2 : ¬ (u : Int) < (u : Int) := by omega
            have t18 := TMU.out.hd.c 18 _ rfl
            have t19 := TMU.out.hd.c 19 _ rfl
            have tf := TMU.out.hd.fz
            have tl := TMU.out.hd.lt
            have hw18 : IntKind.i64.wrap ((N.length : Int) + 1) = (N.length : Int) + 1 := IntWalk.i64_in _ (by omega)
            clear hlt2
            go_upto_region 20 with (fail)
            have TM5 : Hid (TbM (w1.setCell ⟨T, 18, none⟩ (.int .i64 ((N.length : Int) + 1))) T (some ⟨bh, oh, none⟩) k c (aheadP e N ++ ⟨gn, e, u, u⟩ :: aheadQ e N) ((N.length : Int) + 1) sz) := Lib.hid (tbm_t TMU.out (HDS.out u) 18 _ (by omega) (tbc_len _ _ _ _ _ _ _))
            have XE5 := Lib.hid (bxv_far XE1.out (p := T) (by have := TB.out.hd.lt; omega) 18 (.int .i64 ((N.length : Int) + 1)))
            have F5 := Lib.hid (F1.out.put (b := T) (.inl (List.mem_cons_self ..)) 18 (.int .i64 ((N.length : Int) + 1)))
            clear TMU XE1 XP1 F1 t18 t19 tf tl hw18
            generalize w1.setCell ⟨T, 18, none⟩ (.int .i64 ((N.length : Int) + 1)) = w5 at *
            refine wp_heldcut (S := fun W => Below w5.heap.size w5 W) 12 (by kernel_rfl) (by kernel_rfl) (Below.drew (Below.refl _ _)) (fun hHeld => ?_)
            simp only [List.take_succ_cons, List.take_zero]
            refine takeL (i := 0) (v := ?_) rfl (by kernel_rfl) (by kernel_rfl) (by kernel_rfl) (fun _ _ _ h => h) ⟨by rfl, ?_⟩ (by first | assumption | trivial) ?_
            rotate_left
            · intro W9 hSw
              (try dsimp only at hSw)
              go_simp
              try with_reducible rfl
            (try simp only [Act.put, List.setIfInBounds_toArray, List.set_cons_zero, List.set_cons_succ])
            refine takeL (i := 1) (v := ?_) rfl (by kernel_rfl) (by kernel_rfl) (by kernel_rfl) (fun _ _ _ h => h) ⟨by rfl, ?_⟩ (by first | assumption | trivial) ?_
            rotate_left
            · intro W9 hSw
              (try dsimp only at hSw)
              go_simp
              try with_reducible rfl
            (try simp only [Act.put, List.setIfInBounds_toArray, List.set_cons_zero, List.set_cons_succ])
            refine takeL (i := 2) (v := ?_) rfl (by kernel_rfl) (by kernel_rfl) (by kernel_rfl) (fun _ _ _ h => h) ⟨by rfl, ?_⟩ (by first | assumption | trivial) ?_
            rotate_left
            · intro W9 hSw
              (try dsimp only at hSw)
              go_simp
              try with_reducible rfl
            (try simp only [Act.put, List.setIfInBounds_toArray, List.set_cons_zero, List.set_cons_succ])
            refine takeL (i := 3) (v := ?_) rfl (by kernel_rfl) (by kernel_rfl) (by kernel_rfl) (fun _ _ _ h => h) ⟨by rfl, ?_⟩ (by first | assumption | trivial) ?_
            rotate_left
            · intro W9 hSw
              (try dsimp only at hSw)
              (have y := (TM5.out.next hSw).hd.c 19 _ rfl; have yl := (TM5.out.next hSw).hd.lt)
              go_simp
              try with_reducible rfl
            (try simp only [Act.put, List.setIfInBounds_toArray, List.set_cons_zero, List.set_cons_succ])
            refine takeL (i := 4) (v := ?_) rfl (by kernel_rfl) (by kernel_rfl) (by kernel_rfl) (fun _ _ _ h => h) ⟨by rfl, ?_⟩ (by first | assumption | trivial) ?_
            rotate_left
            · intro W9 hSw
              (try dsimp only at hSw)
              go_simp
              try with_reducible rfl
            (try simp only [Act.put, List.setIfInBounds_toArray, List.set_cons_zero, List.set_cons_succ])
            refine takeL (i := 5) (v := ?_) rfl (by kernel_rfl) (by kernel_rfl) (by kernel_rfl) (fun _ _ _ h => h) ⟨by rfl, ?_⟩ (by first | assumption | trivial) ?_
            rotate_left
            · intro W9 hSw
              (try dsimp only at hSw)
              (have y := (XE5.out.next hSw).c 0 _ rfl; have yl := (XE5.out.next hSw).lt)
              go_simp
              try with_reducible rfl
            (try simp only [Act.put, List.setIfInBounds_toArray, List.set_cons_zero, List.set_cons_succ])
            refine takeL (i := 6) (v := ?_) rfl (by kernel_rfl) (by kernel_rfl) (by kernel_rfl) (fun _ _ _ h => h) ⟨by rfl, ?_⟩ (by first | assumption | trivial) ?_
            rotate_left
            · intro W9 hSw
              (try dsimp only at hSw)
              go_simp
              try with_reducible rfl
            (try simp only [Act.put, List.setIfInBounds_toArray, List.set_cons_zero, List.set_cons_succ])
            refine takeL (i := 7) (v := ?_) rfl (by kernel_rfl) (by kernel_rfl) (by kernel_rfl) (fun _ _ _ h => h) ⟨by rfl, ?_⟩ (by first | assumption | trivial) ?_
            rotate_left
            · intro W9 hSw
              (try dsimp only at hSw)
              go_simp
              try with_reducible rfl
            (try simp only [Act.put, List.setIfInBounds_toArray, List.set_cons_zero, List.set_cons_succ])
            refine takeL (i := 8) (v := ?_) rfl (by kernel_rfl) (by kernel_rfl) (by kernel_rfl) (fun _ _ _ h => h) ⟨by rfl, ?_⟩ (by first | assumption | trivial) ?_
            rotate_left
            · intro W9 hSw
              (try dsimp only at hSw)
              (have y := (XE5.out.next hSw).c 1 _ rfl; have yl := (XE5.out.next hSw).lt)
              go_simp
              try with_reducible rfl
            (try simp only [Act.put, List.setIfInBounds_toArray, List.set_cons_zero, List.set_cons_succ])
            refine takeL (i := 9) (v := ?_) rfl (by kernel_rfl) (by kernel_rfl) (by kernel_rfl) (fun _ _ _ h => h) ⟨by rfl, ?_⟩ (by first | assumption | trivial) ?_
            rotate_left
            · intro W9 hSw
              (try dsimp only at hSw)
              go_simp
              try with_reducible rfl
            (try simp only [Act.put, List.setIfInBounds_toArray, List.set_cons_zero, List.set_cons_succ])
            refine takeL (i := 10) (v := ?_) rfl (by kernel_rfl) (by kernel_rfl) (by kernel_rfl) (fun _ _ _ h => h) ⟨by rfl, ?_⟩ (by first | assumption | trivial) ?_
            rotate_left
            · intro W9 hSw
              (try dsimp only at hSw)
              go_simp
              try with_reducible rfl
            (try simp only [Act.put, List.setIfInBounds_toArray, List.set_cons_zero, List.set_cons_succ])
            refine takeL (i := 11) (v := ?_) rfl (by kernel_rfl) (by kernel_rfl) (by kernel_rfl) (fun _ _ _ h => h) ⟨by rfl, ?_⟩ (by first | assumption | trivial) ?_
            rotate_left
            · intro W9 hSw
              (try dsimp only at hSw)
              go_simp
              try with_reducible rfl
            (try simp only [Act.put, List.setIfInBounds_toArray, List.set_cons_zero, List.set_cons_succ])
            clear hHeld
            have hdr : Below w5.heap.size w5 w5.drew := Below.drew (Below.refl _ _)
            have TM6 := Lib.hid (TM5.out.next hdr)
            have F6 := Lib.hid (F5.out.then hdr)
            clear hdr TM5 XE5 F5
            generalize w5.drew = Y at *
            refine wpAnyH_done (by kernel_rfl) ?_ _
            simp only [tailPost, List.drop_succ_cons, List.drop_zero]
            have t19 := TM6.out.hd.c 19 _ rfl
            have tf := TM6.out.hd.fz
            have tl := TM6.out.hd.lt
            obtain ⟨z, hz⟩ : ∃ z, z = sz + (e.key.size : Int) + (e.val.size : Int) := ⟨_, rfl⟩
            have hw19 : IntKind.i64.wrap (sz + ((e.key.size : Int) + (e.val.size : Int))) = z := by rw [IntWalk.i64_in _ (by omega)]; omega
            have hw20 : sz + ((e.key.size : Int) + (e.val.size : Int)) = z := by omega
            go_wp2_with fail
            have TM7 : Hid (TbM (Y.setCell ⟨T, 19, none⟩ (.int .i64 z)) T (some ⟨bh, oh, none⟩) k c (aheadP e N ++ ⟨gn, e, u, u⟩ :: aheadQ e N) ((N.length : Int) + 1) z) := Lib.hid (tbm_t TM6.out (HDS.out u) 19 _ (by omega) (tbc_sz _ _ _ _ _ _ _))
            have F7 := Lib.hid (F6.out.put (b := T) (.inl (List.mem_cons_self ..)) 19 (.int .i64 z))
            have FIN := Lib.hid (tbl_fin TB.out (ahead_app e N) hgn ht12 TM7.out F7.out)
            clear TM6 F6 TM7 t19 tf tl
            rw [hz] at FIN F7
            go_ret
            refine .inr ⟨HT.out, rfl, gn, hgn, ?_, F7.out⟩
            unfold insN
            rw [HTW.out]
            exact FIN.out
      · have hk00 : k = 0 := by omega
        have HTW : Hid (towN hs N.length = 1) := Lib.hid (by unfold towN; rw [if_pos (by rw [HKL.out]; omega)])
        have k1 : ¬ (0 : Int) < (k : Int) := by omega
        clear hk00
        go_upto_region 14 with (fail)
        have XG9 := XG7
        have X9 := X7
        have XP9 := XP7
        have B9 := B7
        clear XG7 X7 XP7 B7 TB7 t17 t18 tl
        obtain ⟨w9, rfl⟩ : ∃ x, x = w7 := ⟨_, rfl⟩
        obtain ⟨t, ht⟩ : ∃ t, t = 1 := ⟨_, rfl⟩
        have ht12 : 1 ≤ t ∧ t ≤ 12 := by omega
        rw [← ht] at HTW XG9
        clear ht
        have g4 := XG9.out.c 4 _ rfl
        have gl := XG9.out.lt
        have HTG : Hid (T ≠ gn) := Lib.hid (by have := TB.out.hd.lt; omega)
        have HAL : Hid (∀ n ∈ aheadP e N ++ aheadQ e N, n.g ≠ gn) := Lib.hid (fun n hn => by
          rw [← ahead_app] at hn
          obtain ⟨i, hi⟩ := List.mem_iff_getElem?.1 hn
          have := (TB.out.nd i n hi).lt
          omega)
        have HDS : Hid (∀ u, (T :: (aheadP e N ++ (⟨gn, e, t, u⟩ : Nd) :: aheadQ e N).map Nd.g).Nodup) := Lib.hid (fun u => dis_ins (by rw [← ahead_app]; exact TB.out.dis) HTG.out HAL.out u)
        have HU12 : Hid (∀ m ∈ aheadP e N, m.u ≤ 12) := Lib.hid (fun m hm => by
          have h := TB.out.full m (by rw [ahead_app e N]; exact List.mem_append_left _ hm)
          omega)
        have TM0 : Hid (TbM w9 T A k c (aheadP e N ++ ⟨gn, e, t, 0⟩ :: aheadQ e N) (N.length : Int) sz) := Lib.hid (tbm_zero (by rw [← ahead_app]; exact TB.out.m.next B9.out) XG9.out)
        have F9 : Hid (FrT (T :: N.map Nd.g) w w9) := Lib.hid (FrT.of B9.out)
        clear XG9 B9
        go_wp2_with fail
        clear g4 gl
        go_loopw [82] (fun s82 wr => ∃ u : Nat, s82 = .int .i64 (u : Int) ∧ u ≤ t ∧ Hid (TbM wr T A k c (aheadP e N ++ ⟨gn, e, t, u⟩ :: aheadQ e N) (N.length : Int) sz) ∧ Hid (BxV wr be [.string e.key, .string e.val, .int .i64 e.seq, .bool e.del]) ∧ Hid (BxV wr bq [.pointer (some ⟨pv 0, 0, none⟩), .pointer (some ⟨pv 1, 0, none⟩), .pointer (some ⟨pv 2, 0, none⟩), .pointer (some ⟨pv 3, 0, none⟩), .pointer (some ⟨pv 4, 0, none⟩), .pointer (some ⟨pv 5, 0, none⟩), .pointer (some ⟨pv 6, 0, none⟩), .pointer (some ⟨pv 7, 0, none⟩), .pointer (some ⟨pv 8, 0, none⟩), .pointer (some ⟨pv 9, 0, none⟩), .pointer (some ⟨pv 10, 0, none⟩), .pointer (some ⟨pv 11, 0, none⟩)]) ∧ Hid (FrT (T :: N.map Nd.g) w wr)) (fun s82 _ => t - (intOf s82).toNat)
        case atStart => exact ⟨0, rfl, Nat.zero_le _, TM0, X9, XP9, F9⟩
        case round =>
          clear TM0 X9 XP9 F9
          obtain ⟨u, rfl, hut, TMU, XE1, XP1, F1⟩ := hrel
          obtain ⟨w1, rfl⟩ : ∃ x, x = wr := ⟨_, rfl⟩
          by_cases hlt2 : u < t
          · have hu12 : u < 12 := by omega
            have cpv := XP1.out.c u _ (pv_get pv hu12)
            have cpn := TMU.out.prev HU12.out hu12
            rw [show nxv u (⟨gn, e, t, u⟩ :: aheadQ e N) = nxv u (aheadQ e N) by rw [nxv, if_neg (by show ¬ u < u; omega)], ← HL.out u hu12] at cpn
            have HGN := Lib.hid (TMU.out.nd (aheadP e N).length ⟨gn, e, t, u⟩ (by rw [List.getElem?_append_right (Nat.le_refl _), Nat.sub_self]; rfl))
            have cgn := HGN.out.c _ _ (ndc_get _ _ hu12)
            have fgn := HGN.out.fz
            have hpg : pv u ≠ gn := by
              rw [HL.out u hu12]
              rcases lst_in u (aheadP e N) T with e1 | ⟨m, hm, _, e1⟩
              · rw [e1]; exact HTG.out
              · rw [e1]; exact HAL.out m (List.mem_append_left _ hm)
            have hpf : ∀ o, w1.frozen? ⟨pv u, o, none⟩ = false := by
              rw [HL.out u hu12]
              rcases lst_in u (aheadP e N) T with e1 | ⟨m, hm, _, e1⟩
              · rw [e1]; exact TMU.out.hd.fz
              · obtain ⟨i, hi⟩ := List.mem_iff_getElem?.1 hm
                have hj := (List.getElem?_eq_some_iff.1 hi).1
                rw [e1]
                exact (TMU.out.nd i m (by rw [List.getElem?_append_left hj]; exact hi)).fz
            have hpS : pv u ∈ (T :: N.map Nd.g) := by
              rw [HL.out u hu12]
              rcases lst_in u (aheadP e N) T with e1 | ⟨m, hm, _, e1⟩
              · rw [e1]; exact List.mem_cons_self ..
              · rw [e1]
                exact List.mem_cons_of_mem _ (List.mem_map.2 ⟨m, by rw [ahead_app e N]; exact List.mem_append_left _ hm, rfl⟩)
            obtain ⟨vo, hvo⟩ := nxv_ptr u (aheadQ e N)
            have HVO := Lib.hid hvo
            rw [hvo] at cpn
            clear hvo
            have HCV := Lib.hid cpv
            have HCN := Lib.hid cpn
            have HCG := Lib.hid cgn
            have HPF := Lib.hid hpf
            have HPS := Lib.hid hpS
            have zgn : gn < w1.heap.size := HGN.out.lt
            have zpv : pv u < w1.heap.size := World.block_lt_of_cell? w1 _ cpn
            have zbq : bq < w1.heap.size := XP1.out.lt
            have j0 : (0 : Int) ≤ (u : Int) := by omega
            have j1 : (u : Int) < 12 := by omega
            have j2 : (u : Int) < (t : Int) := by omega
            have hbqg : gn ≠ bq := by omega
            have hbeg : gn ≠ be := by omega
            have hq2 : pv u ≠ bq := by
              intro e1
              rcases List.mem_cons.1 HPS.out with h2 | h2
              · have := TB.out.hd.lt; omega
              · obtain ⟨m, hm, e2⟩ := List.mem_map.1 h2
                obtain ⟨i, hi⟩ := List.mem_iff_getElem?.1 hm
                have := (TB.out.nd i m hi).lt
                omega
            have hq3 : pv u ≠ be := by
              intro e1
              rcases List.mem_cons.1 HPS.out with h2 | h2
              · have := TB.out.hd.lt; omega
              · obtain ⟨m, hm, e2⟩ := List.mem_map.1 h2
                obtain ⟨i, hi⟩ := List.mem_iff_getElem?.1 hm
                have := (TB.out.nd i m hi).lt
                omega
            clear cpv cpn cgn fgn hpf hpS
            go_wp2_with fail
            have hdr : Below w1.heap.size w1 w1.drew := Below.drew (Below.refl _ _)
            have TM2 := Lib.hid (TMU.out.next hdr)
            have XE2 := Lib.hid (XE1.out.next hdr)
            have XP2 := Lib.hid (XP1.out.next hdr)
            have F2 := Lib.hid (F1.out.then hdr)
            have cgn := (hdr.cell (p := ⟨gn, 5 + u, none⟩) zgn).trans HCG.out
            have fgn := (hdr.frozen (p := ⟨gn, 5 + u, none⟩) zgn).trans (HGN.out.fz (5 + u))
            have cpn := (hdr.cell (p := ⟨pv u, 5 + u, none⟩) zpv).trans HCN.out
            have fpn := (hdr.frozen (p := ⟨pv u, 5 + u, none⟩) zpv).trans (HPF.out (5 + u))
            have yg : gn < w1.drew.heap.size := Nat.lt_of_lt_of_le zgn hdr.size
            have yp : pv u < w1.drew.heap.size := Nat.lt_of_lt_of_le zpv hdr.size
            have cbq := (hdr.cell (p := ⟨bq, u, none⟩) zbq).trans HCV.out
            have ybq : bq < w1.drew.heap.size := Nat.lt_of_lt_of_le zbq hdr.size
            clear hdr TMU XE1 XP1 F1 HGN
            refine wp_heldall (S := fun W => bq < W.heap.size ∧ W.cell? ⟨bq, u, none⟩ = some (.pointer (some ⟨pv u, 0, none⟩))) 23 (by kernel_rfl) rfl ⟨ybq, cbq⟩ (fun hHeld => ?_)
            generalize w1.drew = Y at *
            refine takeL (i := 0) (v := ?_) rfl (by kernel_rfl) (by kernel_rfl) (by kernel_rfl) (fun _ _ _ h => h) ⟨by rfl, ?_⟩ (by first | assumption | trivial) ?_
            rotate_left
            · intro W9 hSw
              (try dsimp only at hSw)
              go_simp
              try with_reducible rfl
            (try simp only [Act.put, List.setIfInBounds_toArray, List.set_cons_zero, List.set_cons_succ])
            refine takeL (i := 1) (v := ?_) rfl (by kernel_rfl) (by kernel_rfl) (by kernel_rfl) (fun _ _ _ h => h) ⟨by rfl, ?_⟩ (by first | assumption | trivial) ?_
            rotate_left
            · intro W9 hSw
              (try dsimp only at hSw)
              go_simp
              try with_reducible rfl
            (try simp only [Act.put, List.setIfInBounds_toArray, List.set_cons_zero, List.set_cons_succ])
            refine takeL (i := 2) (v := ?_) rfl (by kernel_rfl) (by kernel_rfl) (by kernel_rfl) (fun _ _ _ h => h) ⟨by rfl, ?_⟩ (by first | assumption | trivial) ?_
            rotate_left
            · intro W9 hSw
              (try dsimp only at hSw)
              go_simp
              try with_reducible rfl
            (try simp only [Act.put, List.setIfInBounds_toArray, List.set_cons_zero, List.set_cons_succ])
            refine takeL (i := 3) (v := ?_) rfl (by kernel_rfl) (by kernel_rfl) (by kernel_rfl) (fun _ _ _ h => h) ⟨by rfl, ?_⟩ (by first | assumption | trivial) ?_
            rotate_left
            · intro W9 hSw
              (try dsimp only at hSw)
              go_simp
              try with_reducible rfl
            (try simp only [Act.put, List.setIfInBounds_toArray, List.set_cons_zero, List.set_cons_succ])
            refine takeL (i := 4) (v := ?_) rfl (by kernel_rfl) (by kernel_rfl) (by kernel_rfl) (fun _ _ _ h => h) ⟨by rfl, ?_⟩ (by first | assumption | trivial) ?_
            rotate_left
            · intro W9 hSw
              (try dsimp only at hSw)
              (have y := hSw.2; have yl := hSw.1)
              go_simp
              try with_reducible rfl
            (try simp only [Act.put, List.setIfInBounds_toArray, List.set_cons_zero, List.set_cons_succ])
            refine takeL (i := 5) (v := ?_) rfl (by kernel_rfl) (by kernel_rfl) (by kernel_rfl) (fun _ _ _ h => h) ⟨by rfl, ?_⟩ (by first | assumption | trivial) ?_
            rotate_left
            · intro W9 hSw
              (try dsimp only at hSw)
              go_simp
              try with_reducible rfl
            (try simp only [Act.put, List.setIfInBounds_toArray, List.set_cons_zero, List.set_cons_succ])
            refine takeL (i := 6) (v := ?_) rfl (by kernel_rfl) (by kernel_rfl) (by kernel_rfl) (fun _ _ _ h => h) ⟨by rfl, ?_⟩ (by first | assumption | trivial) ?_
            rotate_left
            · intro W9 hSw
              (try dsimp only at hSw)
              go_simp
              try with_reducible rfl
            (try simp only [Act.put, List.setIfInBounds_toArray, List.set_cons_zero, List.set_cons_succ])
            refine takeL (i := 7) (v := ?_) rfl (by kernel_rfl) (by kernel_rfl) (by kernel_rfl) (fun _ _ _ h => h) ⟨by rfl, ?_⟩ (by first | assumption | trivial) ?_
            rotate_left
            · intro W9 hSw
              (try dsimp only at hSw)
              go_simp
              try with_reducible rfl
            (try simp only [Act.put, List.setIfInBounds_toArray, List.set_cons_zero, List.set_cons_succ])
            refine takeL (i := 8) (v := ?_) rfl (by kernel_rfl) (by kernel_rfl) (by kernel_rfl) (fun _ _ _ h => h) ⟨by rfl, ?_⟩ (by first | assumption | trivial) ?_
            rotate_left
            · intro W9 hSw
              (try dsimp only at hSw)
              (have y := hSw.2; have yl := hSw.1)
              go_simp
              try with_reducible rfl
            (try simp only [Act.put, List.setIfInBounds_toArray, List.set_cons_zero, List.set_cons_succ])
            refine takeL (i := 9) (v := ?_) rfl (by kernel_rfl) (by kernel_rfl) (by kernel_rfl) (fun _ _ _ h => h) ⟨by rfl, ?_⟩ (by first | assumption | trivial) ?_
            rotate_left
            · intro W9 hSw
              (try dsimp only at hSw)
              go_simp
              try with_reducible rfl
            (try simp only [Act.put, List.setIfInBounds_toArray, List.set_cons_zero, List.set_cons_succ])
            refine takeL (i := 10) (v := ?_) rfl (by kernel_rfl) (by kernel_rfl) (by kernel_rfl) (fun _ _ _ h => h) ⟨by rfl, ?_⟩ (by first | assumption | trivial) ?_
            rotate_left
            · intro W9 hSw
              (try dsimp only at hSw)
              go_simp
              try with_reducible rfl
            (try simp only [Act.put, List.setIfInBounds_toArray, List.set_cons_zero, List.set_cons_succ])
            refine takeL (i := 11) (v := ?_) rfl (by kernel_rfl) (by kernel_rfl) (by kernel_rfl) (fun _ _ _ h => h) ⟨by rfl, ?_⟩ (by first | assumption | trivial) ?_
            rotate_left
            · intro W9 hSw
              (try dsimp only at hSw)
              go_simp
              try with_reducible rfl
            (try simp only [Act.put, List.setIfInBounds_toArray, List.set_cons_zero, List.set_cons_succ])
            refine takeL (i := 12) (v := ?_) rfl (by kernel_rfl) (by kernel_rfl) (by kernel_rfl) (fun _ _ _ h => h) ⟨by rfl, ?_⟩ (by first | assumption | trivial) ?_
            rotate_left
            · intro W9 hSw
              (try dsimp only at hSw)
              go_simp
              try with_reducible rfl
            (try simp only [Act.put, List.setIfInBounds_toArray, List.set_cons_zero, List.set_cons_succ])
            refine takeL (i := 14) (v := ?_) rfl (by kernel_rfl) (by kernel_rfl) (by kernel_rfl) (fun _ _ _ h => h) ⟨by rfl, ?_⟩ (by first | assumption | trivial) ?_
            rotate_left
            · intro W9 hSw
              (try dsimp only at hSw)
              go_simp
              try with_reducible rfl
            (try simp only [Act.put, List.setIfInBounds_toArray, List.set_cons_zero, List.set_cons_succ])
            refine takeL (i := 15) (v := ?_) rfl (by kernel_rfl) (by kernel_rfl) (by kernel_rfl) (fun _ _ _ h => h) ⟨by rfl, ?_⟩ (by first | assumption | trivial) ?_
            rotate_left
            · intro W9 hSw
              (try dsimp only at hSw)
              go_simp
              try with_reducible rfl
            (try simp only [Act.put, List.setIfInBounds_toArray, List.set_cons_zero, List.set_cons_succ])
            refine takeL (i := 16) (v := ?_) rfl (by kernel_rfl) (by kernel_rfl) (by kernel_rfl) (fun _ _ _ h => h) ⟨by rfl, ?_⟩ (by first | assumption | trivial) ?_
            rotate_left
            · intro W9 hSw
              (try dsimp only at hSw)
              go_simp
              try with_reducible rfl
            (try simp only [Act.put, List.setIfInBounds_toArray, List.set_cons_zero, List.set_cons_succ])
            refine takeL (i := 19) (v := ?_) rfl (by kernel_rfl) (by kernel_rfl) (by kernel_rfl) (fun _ _ _ h => h) ⟨by rfl, ?_⟩ (by first | assumption | trivial) ?_
            rotate_left
            · intro W9 hSw
              (try dsimp only at hSw)
              go_simp
              try with_reducible rfl
            (try simp only [Act.put, List.setIfInBounds_toArray, List.set_cons_zero, List.set_cons_succ])
            refine takeL (i := 20) (v := ?_) rfl (by kernel_rfl) (by kernel_rfl) (by kernel_rfl) (fun _ _ _ h => h) ⟨by rfl, ?_⟩ (by first | assumption | trivial) ?_
            rotate_left
            · intro W9 hSw
              (try dsimp only at hSw)
              go_simp
              try with_reducible rfl
            (try simp only [Act.put, List.setIfInBounds_toArray, List.set_cons_zero, List.set_cons_succ])
            refine wpAnyH_ready (rs := [13]) (by kernel_rfl) (by simp) ?_
            refine consL rfl (by rfl) (fun K hK => ?_) ?_
            · go_simp
              refine hK.out _ _ hHeld (fun _ => ?_)
              clear hK K
              (try simp only [Act.put, List.setIfInBounds_toArray, List.set_cons_zero, List.set_cons_succ])
              refine takeL (i := 17) (v := ?_) rfl (by kernel_rfl) (by kernel_rfl) (by kernel_rfl) (fun _ _ _ h => h) ⟨by rfl, ?_⟩ (by first | assumption | trivial) ?_
              rotate_left
              · intro W9 hSw
                (try dsimp only at hSw)
                go_simp
                try with_reducible rfl
              (try simp only [Act.put, List.setIfInBounds_toArray, List.set_cons_zero, List.set_cons_succ])
              refine wpAnyH_ready (rs := [18]) (by kernel_rfl) (by simp) ?_
              refine consL rfl (by rfl) (fun K hK => ?_) ?_
              · go_simp
                have TM3 := Lib.hid (tbm_up TM2.out hu12 (HDS.out u))
                rw [← HL.out u hu12, HVO.out] at TM3
                unfold ptr at TM3
                have XE3 := Lib.hid (bxv_far (bxv_far XE2.out hbeg (5 + u) (.pointer vo)) hq3 (5 + u) (.pointer (some ⟨gn, 0, none⟩)))
                have XP3 := Lib.hid (bxv_far (bxv_far XP2.out hbqg (5 + u) (.pointer vo)) hq2 (5 + u) (.pointer (some ⟨gn, 0, none⟩)))
                have F3 := Lib.hid ((F2.out.put (b := gn) (.inr hgn) (5 + u) (.pointer vo)).put (b := pv u) (.inl HPS.out) (5 + u) (.pointer (some ⟨gn, 0, none⟩)))
                have hgp : gn ≠ pv u := fun e => hpg e.symm
                have cpn2 : (Y.setCell ⟨gn, 5 + u, none⟩ (.pointer vo)).cell? ⟨pv u, 5 + u, none⟩ = some (.pointer vo) := (World.cell?_setCell_far _ _ _ _ (show (⟨gn, 5 + u, none⟩ : Addr).block ≠ (⟨pv u, 5 + u, none⟩ : Addr).block from hgp)).trans cpn
                have hH2 := hHeld
                refine hK.out _ _ ⟨by simpa using ybq, (World.cell?_setCell_far _ _ _ _ (show (⟨gn, 5 + u, none⟩ : Addr).block ≠ (⟨bq, u, none⟩ : Addr).block from hbqg)).trans cbq⟩ (fun _ => ?_)
                clear hK K
                (try simp only [Act.put, List.setIfInBounds_toArray, List.set_cons_zero, List.set_cons_succ])
                refine takeL (i := 21) (v := ?_) rfl (by kernel_rfl) (by kernel_rfl) (by kernel_rfl) (fun _ _ _ h => h) ⟨by rfl, ?_⟩ (by first | assumption | trivial) ?_
                rotate_left
                · intro W9 hSw
                  (try dsimp only at hSw)
                  go_simp
                  try with_reducible rfl
                (try simp only [Act.put, List.setIfInBounds_toArray, List.set_cons_zero, List.set_cons_succ])
                refine wpAnyH_ready (rs := [22]) (by kernel_rfl) (by simp) ?_
                refine consL rfl (by rfl) (fun K hK => ?_) ?_
                · go_simp
                  refine hK.out _ _ ⟨by simpa using ybq, (World.cell?_setCell_far _ _ _ _ (show (⟨pv u, 5 + u, none⟩ : Addr).block ≠ (⟨bq, u, none⟩ : Addr).block from hq2)).trans ((World.cell?_setCell_far _ _ _ _ (show (⟨gn, 5 + u, none⟩ : Addr).block ≠ (⟨bq, u, none⟩ : Addr).block from hbqg)).trans cbq)⟩ (fun _ => ?_)
                  clear hK K
                  (try simp only [Act.put, List.setIfInBounds_toArray, List.set_cons_zero, List.set_cons_succ])
                  clear TM2 XE2 XP2 F2
                  refine wpAnyH_done (by kernel_rfl) ?_ _
                  go_wp2_with fail
                  go_roundw
                  case rel => exact ⟨u + 1, by go_num, by omega, TM3, XE3, XP3, F3⟩
                  case measure => simp [intOf]; omega
                · exact AllReadyH.nil
              · exact AllReadyH.nil
            · exact AllReadyH.nil
          · obtain rfl : u = t := by omega
            have j2 : ¬ (u : Int) < (u : Int) := by omega
            have t18 := TMU.out.hd.c 18 _ rfl
            have t19 := TMU.out.hd.c 19 _ rfl
            have tf := TMU.out.hd.fz
            have tl := TMU.out.hd.lt
            have hw18 : IntKind.i64.wrap ((N.length : Int) + 1) = (N.length : Int) + 1 := IntWalk.i64_in _ (by omega)
            clear hlt2
            go_upto_region 20 with (fail)
            have TM5 : Hid (TbM (w1.setCell ⟨T, 18, none⟩ (.int .i64 ((N.length : Int) + 1))) T A k c (aheadP e N ++ ⟨gn, e, u, u⟩ :: aheadQ e N) ((N.length : Int) + 1) sz) := Lib.hid (tbm_t TMU.out (HDS.out u) 18 _ (by omega) (tbc_len _ _ _ _ _ _ _))
            have XE5 := Lib.hid (bxv_far XE1.out (p := T) (by have := TB.out.hd.lt; omega) 18 (.int .i64 ((N.length : Int) + 1)))
            have F5 := Lib.hid (F1.out.put (b := T) (.inl (List.mem_cons_self ..)) 18 (.int .i64 ((N.length : Int) + 1)))
            clear TMU XE1 XP1 F1 t18 t19 tf tl hw18
            generalize w1.setCell ⟨T, 18, none⟩ (.int .i64 ((N.length : Int) + 1)) = w5 at *
            refine wp_heldcut (S := fun W => Below w5.heap.size w5 W) 12 (by kernel_rfl) (by kernel_rfl) (Below.drew (Below.refl _ _)) (fun hHeld => ?_)
            simp only [List.take_succ_cons, List.take_zero]
            refine takeL (i := 0) (v := ?_) rfl (by kernel_rfl) (by kernel_rfl) (by kernel_rfl) (fun _ _ _ h => h) ⟨by rfl, ?_⟩ (by first | assumption | trivial) ?_
            rotate_left
            · intro W9 hSw
              (try dsimp only at hSw)
              go_simp
              try with_reducible rfl
            (try simp only [Act.put, List.setIfInBounds_toArray, List.set_cons_zero, List.set_cons_succ])
            refine takeL (i := 1) (v := ?_) rfl (by kernel_rfl) (by kernel_rfl) (by kernel_rfl) (fun _ _ _ h => h) ⟨by rfl, ?_⟩ (by first | assumption | trivial) ?_
            rotate_left
            · intro W9 hSw
              (try dsimp only at hSw)
              go_simp
              try with_reducible rfl
            (try simp only [Act.put, List.setIfInBounds_toArray, List.set_cons_zero, List.set_cons_succ])
            refine takeL (i := 2) (v := ?_) rfl (by kernel_rfl) (by kernel_rfl) (by kernel_rfl) (fun _ _ _ h => h) ⟨by rfl, ?_⟩ (by first | assumption | trivial) ?_
            rotate_left
            · intro W9 hSw
              (try dsimp only at hSw)
              go_simp
              try with_reducible rfl
            (try simp only [Act.put, List.setIfInBounds_toArray, List.set_cons_zero, List.set_cons_succ])
            refine takeL (i := 3) (v := ?_) rfl (by kernel_rfl) (by kernel_rfl) (by kernel_rfl) (fun _ _ _ h => h) ⟨by rfl, ?_⟩ (by first | assumption | trivial) ?_
            rotate_left
            · intro W9 hSw
              (try dsimp only at hSw)
              (have y := (TM5.out.next hSw).hd.c 19 _ rfl; have yl := (TM5.out.next hSw).hd.lt)
              go_simp
              try with_reducible rfl
            (try simp only [Act.put, List.setIfInBounds_toArray, List.set_cons_zero, List.set_cons_succ])
            refine takeL (i := 4) (v := ?_) rfl (by kernel_rfl) (by kernel_rfl) (by kernel_rfl) (fun _ _ _ h => h) ⟨by rfl, ?_⟩ (by first | assumption | trivial) ?_
            rotate_left
            · intro W9 hSw
              (try dsimp only at hSw)
              go_simp
              try with_reducible rfl
            (try simp only [Act.put, List.setIfInBounds_toArray, List.set_cons_zero, List.set_cons_succ])
            refine takeL (i := 5) (v := ?_) rfl (by kernel_rfl) (by kernel_rfl) (by kernel_rfl) (fun _ _ _ h => h) ⟨by rfl, ?_⟩ (by first | assumption | trivial) ?_
            rotate_left
            · intro W9 hSw
              (try dsimp only at hSw)
              (have y := (XE5.out.next hSw).c 0 _ rfl; have yl := (XE5.out.next hSw).lt)
              go_simp
              try with_reducible rfl
            (try simp only [Act.put, List.setIfInBounds_toArray, List.set_cons_zero, List.set_cons_succ])
            refine takeL (i := 6) (v := ?_) rfl (by kernel_rfl) (by kernel_rfl) (by kernel_rfl) (fun _ _ _ h => h) ⟨by rfl, ?_⟩ (by first | assumption | trivial) ?_
            rotate_left
            · intro W9 hSw
              (try dsimp only at hSw)
              go_simp
              try with_reducible rfl
            (try simp only [Act.put, List.setIfInBounds_toArray, List.set_cons_zero, List.set_cons_succ])
            refine takeL (i := 7) (v := ?_) rfl (by kernel_rfl) (by kernel_rfl) (by kernel_rfl) (fun _ _ _ h => h) ⟨by rfl, ?_⟩ (by first | assumption | trivial) ?_
            rotate_left
            · intro W9 hSw
              (try dsimp only at hSw)
              go_simp
              try with_reducible rfl
            (try simp only [Act.put, List.setIfInBounds_toArray, List.set_cons_zero, List.set_cons_succ])
            refine takeL (i := 8) (v := ?_) rfl (by kernel_rfl) (by kernel_rfl) (by kernel_rfl) (fun _ _ _ h => h) ⟨by rfl, ?_⟩ (by first | assumption | trivial) ?_
            rotate_left
            · intro W9 hSw
              (try dsimp only at hSw)
              (have y := (XE5.out.next hSw).c 1 _ rfl; have yl := (XE5.out.next hSw).lt)
              go_simp
              try with_reducible rfl
            (try simp only [Act.put, List.setIfInBounds_toArray, List.set_cons_zero, List.set_cons_succ])
            refine takeL (i := 9) (v := ?_) rfl (by kernel_rfl) (by kernel_rfl) (by kernel_rfl) (fun _ _ _ h => h) ⟨by rfl, ?_⟩ (by first | assumption | trivial) ?_
            rotate_left
            · intro W9 hSw
              (try dsimp only at hSw)
              go_simp
              try with_reducible rfl
            (try simp only [Act.put, List.setIfInBounds_toArray, List.set_cons_zero, List.set_cons_succ])
            refine takeL (i := 10) (v := ?_) rfl (by kernel_rfl) (by kernel_rfl) (by kernel_rfl) (fun _ _ _ h => h) ⟨by rfl, ?_⟩ (by first | assumption | trivial) ?_
            rotate_left
            · intro W9 hSw
              (try dsimp only at hSw)
              go_simp
              try with_reducible rfl
            (try simp only [Act.put, List.setIfInBounds_toArray, List.set_cons_zero, List.set_cons_succ])
            refine takeL (i := 11) (v := ?_) rfl (by kernel_rfl) (by kernel_rfl) (by kernel_rfl) (fun _ _ _ h => h) ⟨by rfl, ?_⟩ (by first | assumption | trivial) ?_
            rotate_left
            · intro W9 hSw
              (try dsimp only at hSw)
              go_simp
              try with_reducible rfl
            (try simp only [Act.put, List.setIfInBounds_toArray, List.set_cons_zero, List.set_cons_succ])
            clear hHeld
            have hdr : Below w5.heap.size w5 w5.drew := Below.drew (Below.refl _ _)
            have TM6 := Lib.hid (TM5.out.next hdr)
            have F6 := Lib.hid (F5.out.then hdr)
            clear hdr TM5 XE5 F5
            generalize w5.drew = Y at *
            refine wpAnyH_done (by kernel_rfl) ?_ _
            simp only [tailPost, List.drop_succ_cons, List.drop_zero]
            have t19 := TM6.out.hd.c 19 _ rfl
            have tf := TM6.out.hd.fz
            have tl := TM6.out.hd.lt
            obtain ⟨z, hz⟩ : ∃ z, z = sz + (e.key.size : Int) + (e.val.size : Int) := ⟨_, rfl⟩
            have hw19 : IntKind.i64.wrap (sz + ((e.key.size : Int) + (e.val.size : Int))) = z := by rw [IntWalk.i64_in _ (by omega)]; omega
            have hw20 : sz + ((e.key.size : Int) + (e.val.size : Int)) = z := by omega
            go_wp2_with fail
            have TM7 : Hid (TbM (Y.setCell ⟨T, 19, none⟩ (.int .i64 z)) T A k c (aheadP e N ++ ⟨gn, e, u, u⟩ :: aheadQ e N) ((N.length : Int) + 1) z) := Lib.hid (tbm_t TM6.out (HDS.out u) 19 _ (by omega) (tbc_sz _ _ _ _ _ _ _))
            have F7 := Lib.hid (F6.out.put (b := T) (.inl (List.mem_cons_self ..)) 19 (.int .i64 z))
            have FIN := Lib.hid (tbl_fin TB.out (ahead_app e N) hgn ht12 TM7.out F7.out)
            clear TM6 F6 TM7 t19 tf tl
            rw [hz] at FIN F7
            go_ret
            refine .inr ⟨HT.out, rfl, gn, hgn, ?_, F7.out⟩
            unfold insN
            rw [HTW.out]
            exact FIN.out
end Go.Proofs.Ytjhgbdeadkoegaa
