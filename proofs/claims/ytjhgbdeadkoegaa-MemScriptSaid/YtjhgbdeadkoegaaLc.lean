/- Walks: what a memtable is asked: none, Len, Size, Get, Cost, Lane. -/
import Derived.Test.YtjhgbdeadkoegaaLb
import Derived.Test.YtjhgbdeadkoegaaEh
namespace Go.Proofs.Ytjhgbdeadkoegaa
open Go.RowKit Go.St Go.Maps
set_option linter.unusedVariables false
set_option linter.unusedSimpArgs false
set_option maxRecDepth 100000

/-- Nobody made it. -/
def NoT (W : World) (v : Option Addr) : Prop := v = none ∨ ∃ T, v = some ⟨T, 0, none⟩ ∧ W.cell? ⟨T, 20, none⟩ = some (.bool false)
theorem NoT.next {W W' : World} {v : Option Addr} (h : NoT W v) (hb : Below W.heap.size W W') : NoT W' v := by
  rcases h with h | ⟨T, h1, h2⟩
  · exact .inl h
  · exact .inr ⟨T, h1, (hb.cell (p := ⟨T, 20, none⟩) (World.block_lt_of_cell? W _ h2)).trans h2⟩
theorem tnone_yes (v : Option Addr) (w : World) (h : NoT w v) : Calls Try.prog 35 #[.pointer v] w fun e w' => e = .returned (.bool true) ∧ w = w' := by
  rcases h with rfl | ⟨T, rfl, h2⟩
  · go_enter Try.func35, Try.ntmps35
    go_wp2_with fail
    go_ret
    exact ⟨rfl, rfl⟩
  · have hl := World.block_lt_of_cell? w _ h2
    go_enter Try.func35, Try.ntmps35
    go_wp2_with fail
    go_ret
    exact ⟨rfl, rfl⟩
theorem tnone_no (T : Nat) (w : World) (h2 : w.cell? ⟨T, 20, none⟩ = some (.bool true)) : Calls Try.prog 35 #[.pointer (some ⟨T, 0, none⟩)] w fun e w' => e = .returned (.bool false) ∧ w = w' := by
  have hl := World.block_lt_of_cell? w _ h2
  go_enter Try.func35, Try.ntmps35
  go_wp2_with fail
  go_ret
  exact ⟨rfl, rfl⟩
theorem tlen_no (v : Option Addr) (w : World) (h : NoT w v) : Calls Try.prog 21 #[.pointer v] w fun e w' => e = .returned (.int .i64 0) ∧ w = w' := by
  have H := Lib.hid (tnone_yes v w h)
  clear h
  go_enter Try.func21, Try.ntmps21
  go_wp2_with fail
  refine H.out.mono ?_
  rintro e w' ⟨rfl, rfl⟩
  go_wp2_with fail
  go_ret
  exact ⟨rfl, rfl⟩
theorem tlen_any (p T : Nat) (A : Option Addr) (k c : Nat) (hs : List Int) (N : List Nd) (ln sz : Int) (w : World) (ht : Tbl w p T A k c hs N ln sz) : Calls Try.prog 21 #[.pointer (some ⟨T, 0, none⟩)] w fun e w' => e = .returned (.int .i64 ln) ∧ w = w' := by
  have H := Lib.hid (tnone_no T w (ht.hd.c 20 _ rfl))
  have h18 := ht.hd.c 18 _ rfl
  have h19 := ht.hd.c 19 _ rfl
  have hl := ht.hd.lt
  clear ht
  go_enter Try.func21, Try.ntmps21
  go_wp2_with fail
  refine H.out.mono ?_
  rintro e w' ⟨rfl, rfl⟩
  go_wp2_with fail
  go_ret
  exact ⟨rfl, rfl⟩
theorem tsize_no (v : Option Addr) (w : World) (h : NoT w v) : Calls Try.prog 24 #[.pointer v] w fun e w' => e = .returned (.int .i64 0) ∧ w = w' := by
  have H := Lib.hid (tnone_yes v w h)
  clear h
  go_enter Try.func24, Try.ntmps24
  go_wp2_with fail
  refine H.out.mono ?_
  rintro e w' ⟨rfl, rfl⟩
  go_wp2_with fail
  go_ret
  exact ⟨rfl, rfl⟩
theorem tsize_any (p T : Nat) (A : Option Addr) (k c : Nat) (hs : List Int) (N : List Nd) (ln sz : Int) (w : World) (ht : Tbl w p T A k c hs N ln sz) : Calls Try.prog 24 #[.pointer (some ⟨T, 0, none⟩)] w fun e w' => e = .returned (.int .i64 sz) ∧ w = w' := by
  have H := Lib.hid (tnone_no T w (ht.hd.c 20 _ rfl))
  have h18 := ht.hd.c 18 _ rfl
  have h19 := ht.hd.c 19 _ rfl
  have hl := ht.hd.lt
  clear ht
  go_enter Try.func24, Try.ntmps24
  go_wp2_with fail
  refine H.out.mono ?_
  rintro e w' ⟨rfl, rfl⟩
  go_wp2_with fail
  go_ret
  exact ⟨rfl, rfl⟩

/-- The lanes behind those that are passed. -/
theorem at_lst {W : World} (h : Nat) (Q : List Nd) : ∀ (P : List Nd) (a : Nat), W.cell? ⟨a, 5 + h, none⟩ = some (nxv h (P ++ Q)) → (∀ (j : Nat) (m : Nd), P[j]? = some m → h < m.u → W.cell? ⟨m.g, 5 + h, none⟩ = some (nxv h (P.drop (j + 1) ++ Q))) → W.cell? ⟨lst h a P, 5 + h, none⟩ = some (nxv h Q)
  | [], a, h0, _ => h0
  | m :: r, a, h0, hj => by
    rw [lst]
    by_cases hu : h < m.u
    · rw [if_pos hu]
      exact at_lst h Q r m.g (hj 0 m rfl hu) (fun j n hn => hj (j + 1) n (by simpa using hn))
    · rw [if_neg hu]
      rw [List.cons_append, nxv, if_neg hu] at h0
      exact at_lst h Q r a h0 (fun j n hn => hj (j + 1) n (by simpa using hn))
theorem Tbl.prev {W : World} {p T : Nat} {A : Option Addr} {k c : Nat} {hs : List Int} {N : List Nd} {ln sz : Int} (ht : Tbl W p T A k c hs N ln sz) {P Q : List Nd} (hN : N = P ++ Q) {h : Nat} (hh : h < 12) : W.cell? ⟨lst h T P, 5 + h, none⟩ = some (nxv h Q) := by
  subst hN
  refine at_lst h Q P T (ht.at0.c h hh) (fun j m hm hu => ?_)
  have hj := (List.getElem?_eq_some_iff.1 hm).1
  have hm2 : (P ++ Q)[j]? = some m := by rw [List.getElem?_append_left hj]; exact hm
  have := (ht.atn hm2 (m := m.u) (Nat.le_refl _)).c h hu
  rw [this, List.drop_append_of_le_length (by omega)]
def aheadP (e : Ent) (N : List Nd) : List Nd := N.takeWhile (fun n => ltE n.e e)
def aheadQ (e : Ent) (N : List Nd) : List Nd := N.dropWhile (fun n => ltE n.e e)
theorem ahead_app (e : Ent) (N : List Nd) : N = aheadP e N ++ aheadQ e N := (List.takeWhile_append_dropWhile).symm
theorem aheadP_all (e : Ent) (N : List Nd) : ∀ n ∈ aheadP e N, ltE n.e e = true := fun n hn => by
  have h := List.all_takeWhile (l := N) (p := fun n => ltE n.e e)
  rw [List.all_eq_true] at h
  exact h n hn
theorem aheadQ_head (e : Ent) (N : List Nd) : ∀ n r, aheadQ e N = n :: r → ltE n.e e = false := by
  intro n r h
  have h2 := List.head?_dropWhile_not (fun n : Nd => ltE n.e e) N
  unfold aheadQ at h
  rw [h] at h2
  cases h3 : ltE n.e e
  · rfl
  · simp [h3] at h2
/-- The entries of a table stand in order. -/
def ordN (N : List Nd) : Prop := N.Pairwise (fun a b => ltE a.e b.e = true)
theorem aheadQ_all {e : Ent} {N : List Nd} (ho : ordN N) : ∀ n ∈ aheadQ e N, ltE n.e e = false := by
  have h1 : (aheadQ e N).Pairwise (fun a b => ltE a.e b.e = true) := List.Pairwise.sublist (List.dropWhile_suffix _).sublist ho
  cases hq : aheadQ e N with
  | nil => intro n hn; cases hn
  | cons m r =>
    have hm := aheadQ_head e N m r hq
    rw [hq, List.pairwise_cons] at h1
    intro n hn
    rcases List.mem_cons.1 hn with e1 | e1
    · rw [e1]; exact hm
    · cases h2 : ltE n.e e
      · rfl
      · rw [ltE_tr (h1.1 n e1) h2] at hm
        cases hm
theorem pvs_lst {e : Ent} {N : List Nd} (ho : ordN N) (T : Nat) {h : Nat} (hh : h < 12) : pvs e T N h = lst h T (aheadP e N) := by
  have := fnd_split (aheadQ e N) (aheadQ_all ho) 12 T (aheadP e N) (aheadP_all e N) h hh
  rw [← ahead_app] at this
  unfold pvs
  rw [List.getD_eq_getElem?_getD, this]
  rfl
theorem app_get {α : Type} {l P r : List α} {n : α} (h : l = P ++ n :: r) : l[P.length]? = some n := by
  subst h
  rw [List.getElem?_append_right (Nat.le_refl _), Nat.sub_self]
  rfl
theorem nxv0 {N : List Nd} (hf : ∀ n ∈ N, n.u = n.t ∧ 1 ≤ n.t ∧ n.t ≤ 12) (e : Ent) : (aheadQ e N = [] ∧ nxv 0 (aheadQ e N) = .pointer none) ∨ ∃ n r, aheadQ e N = n :: r ∧ nxv 0 (aheadQ e N) = .pointer (some ⟨n.g, 0, none⟩) ∧ N[(aheadP e N).length]? = some n := by
  cases hq : aheadQ e N with
  | nil => exact .inl ⟨rfl, rfl⟩
  | cons n r =>
    have hn : n ∈ N := (List.dropWhile_suffix _).sublist.subset (show n ∈ aheadQ e N by rw [hq]; exact List.mem_cons_self ..)
    have h1 := hf n hn
    refine .inr ⟨n, r, rfl, by rw [nxv, if_pos (by omega)]; rfl, ?_⟩
    have h2 := ahead_app e N
    rw [hq] at h2
    exact app_get h2
theorem ord_ris {N : List Nd} (ho : ordN N) : risE (N.map Nd.e) = true := by
  rw [risE, ris_iff]
  intro j a b ha hb
  rw [List.getElem?_map] at ha hb
  cases hx : N[j]? with
  | none => rw [hx] at ha; cases ha
  | some x =>
    cases hy : N[j + 1]? with
    | none => rw [hy] at hb; cases hb
    | some y =>
      rw [hx] at ha
      rw [hy] at hb
      injection ha with ha
      injection hb with hb
      subst ha hb
      obtain ⟨h1, rfl⟩ := List.getElem?_eq_some_iff.1 hx
      obtain ⟨h2, rfl⟩ := List.getElem?_eq_some_iff.1 hy
      exact List.pairwise_iff_getElem.1 ho j (j + 1) h1 h2 (by omega)
theorem plc_ahead (e : Ent) (N : List Nd) : plcE (N.map Nd.e) e = (aheadP e N).length := by
  unfold plcE aheadP
  rw [List.takeWhile_map, List.length_map]
  rfl
theorem find_head {N : List Nd} (ho : ordN N) (key : ByteArray) (seq : Int) : (aheadQ ⟨key, zB, seq, false⟩ N = [] ∧ findE (N.map Nd.e) key seq = none) ∨ ∃ n r, aheadQ ⟨key, zB, seq, false⟩ N = n :: r ∧ findE (N.map Nd.e) key seq = if n.e.key = key then some n.e else none := by
  rw [find_plc (ord_ris ho), plc_ahead]
  have h2 := ahead_app ⟨key, zB, seq, false⟩ N
  cases hq : aheadQ ⟨key, zB, seq, false⟩ N with
  | nil =>
    left
    rw [hq, List.append_nil] at h2
    refine ⟨rfl, ?_⟩
    have hl := congrArg List.length h2
    rw [List.getElem?_eq_none (by rw [List.length_map]; omega)]
    rfl
  | cons n r =>
    right
    rw [hq] at h2
    refine ⟨n, r, rfl, ?_⟩
    have : (N.map Nd.e)[(aheadP ⟨key, zB, seq, false⟩ N).length]? = some n.e := by
      rw [List.getElem?_map, app_get h2]
      rfl
    rw [this]
    rfl
set_option maxHeartbeats 1600000 in
theorem tget_no (v : Option Addr) (key : ByteArray) (seq : Int) (w : World) (h : NoT w v) : Calls Try.prog 17 #[.pointer v, .string key, .int .i64 seq] w fun e w' => e = .returned (.tuple #[.agg #[.string { data := #[] }, .string { data := #[] }, .int .i64 0, .bool false], .bool false]) ∧ Below w.heap.size w w' := by
  have H := Lib.hid (fun W (hb : Below w.heap.size w W) => tnone_yes v W (h.next hb))
  clear h
  go_enter Try.func17, Try.ntmps17
  go_wp2_with fail
  obtain ⟨bz, hbz'⟩ : ∃ b, b = w.heap.size := ⟨_, rfl⟩
  have X9 : Hid (BxV (w.alloc (.cells #[.string { data := #[] }, .string { data := #[] }, .int .i64 0, .bool false] 32)) bz [.string { data := #[] }, .string { data := #[] }, .int .i64 0, .bool false]) := Lib.hid (by rw [hbz']; exact BxV.new w _ _)
  have B9 : Hid (Below w.heap.size w (w.alloc (.cells #[.string { data := #[] }, .string { data := #[] }, .int .i64 0, .bool false] 32))) := Lib.hid ((Below.refl _ _).alloc (Nat.le_refl _) _)
  have hbz : w.heap.size ≤ bz := by omega
  rw [← hbz']
  clear hbz'
  generalize w.alloc (.cells #[.string { data := #[] }, .string { data := #[] }, .int .i64 0, .bool false] 32) = w1 at *
  refine (H.out w1 B9.out).mono ?_
  rintro e w2 ⟨rfl, rfl⟩
  have SE1 : Hid (True ∧ True) := Lib.hid ⟨trivial, trivial⟩
  have q0 := X9.out.c 0 _ rfl
  have q1 := X9.out.c 1 _ rfl
  have q2 := X9.out.c 2 _ rfl
  have q3 := X9.out.c 3 _ rfl
  have qf := X9.out.fz
  have ql := X9.out.lt
  go_wp2_with fail
  change bodyPost _ _ _ _ _ (World.setCells w1 bz 0 [.string { data := #[] }, .string { data := #[] }, .int .i64 0, .bool false])
  have RB := (X9.out.set [.string { data := #[] }, .string { data := #[] }, .int .i64 0, .bool false] rfl)
  have BZ := bel_setCells (b := bz) hbz [.string { data := #[] }, .string { data := #[] }, .int .i64 0, .bool false] 0 _ B9.out
  have r0 := RB.c 0 _ rfl
  have r1 := RB.c 1 _ rfl
  have r2 := RB.c 2 _ rfl
  have r3 := RB.c 3 _ rfl
  generalize World.setCells w1 bz 0 [.string { data := #[] }, .string { data := #[] }, .int .i64 0, .bool false] = wz at *
  exact bodyPost_ret (v := .tuple #[.agg #[.string { data := #[] }, .string { data := #[] }, .int .i64 0, .bool false], .bool false]) (by simp [results, Try.results17, go_sem, r0, r1, r2, r3]) rfl ⟨rfl, BZ⟩
set_option maxHeartbeats 3200000 in
theorem tget_any (p T : Nat) (A : Option Addr) (k c : Nat) (hs : List Int) (N : List Nd) (ln sz : Int) (hN : N.length ≤ 100000) (ho : ordN N) (key : ByteArray) (seq : Int) (w : World) (ht : Tbl w p T A k c hs N ln sz) :
    Calls Try.prog 17 #[.pointer (some ⟨T, 0, none⟩), .string key, .int .i64 seq] w fun e w' => e = .returned (.tuple #[(fndE (N.map Nd.e) key seq).v, .bool (isE (N.map Nd.e) key seq)]) ∧ Below w.heap.size w w' := by
  have TB := Lib.hid ht
  have H := Lib.hid (fun W (hb : Below w.heap.size w W) => tnone_no T W ((ht.next hb).hd.c 20 _ rfl))
  obtain ⟨pv, FS, HPV, HFS, HF⟩ := tfind_ex p T A k c hs N ln sz hN ⟨key, zB, seq, false⟩ w ht
  have HP := Lib.hid (ht.prev (ahead_app ⟨key, zB, seq, false⟩ N) (h := 0) (by omega))
  have HQ := Lib.hid (nxv0 ht.full ⟨key, zB, seq, false⟩)
  have HH := Lib.hid (find_head ho key seq)
  have h0 := pvs_lst (e := ⟨key, zB, seq, false⟩) ho T (h := 0) (by omega)
  obtain ⟨S, hS⟩ : ∃ S, S = fndE (N.map Nd.e) key seq := ⟨_, rfl⟩
  obtain ⟨E, hE⟩ : ∃ E, E = isE (N.map Nd.e) key seq := ⟨_, rfl⟩
  rw [← hS, ← hE]
  have HS := Lib.hid hS
  have HE := Lib.hid hE
  rw [← h0, ← HPV.out] at HP
  have hlt : pv 0 < w.heap.size := World.block_lt_of_cell? w _ HP.out
  clear ht hS hE h0 HPV HFS
  unfold Ent.v
  unfold zB at HF HP HQ HH
  go_enter Try.func17, Try.ntmps17
  go_wp2_with fail
  obtain ⟨bz, hbz'⟩ : ∃ b, b = w.heap.size := ⟨_, rfl⟩
  have X1 : Hid (BxV (w.alloc (.cells #[.string { data := #[] }, .string { data := #[] }, .int .i64 0, .bool false] 32)) bz [.string { data := #[] }, .string { data := #[] }, .int .i64 0, .bool false]) := Lib.hid (by rw [hbz']; exact BxV.new w _ _)
  have B1 : Hid (Below w.heap.size w (w.alloc (.cells #[.string { data := #[] }, .string { data := #[] }, .int .i64 0, .bool false] 32))) := Lib.hid ((Below.refl _ _).alloc (Nat.le_refl _) _)
  have hbz : w.heap.size ≤ bz := by omega
  rw [← hbz']
  clear hbz'
  generalize w.alloc (.cells #[.string { data := #[] }, .string { data := #[] }, .int .i64 0, .bool false] 32) = w1 at *
  refine (H.out w1 B1.out).mono ?_
  rintro e w2 ⟨rfl, rfl⟩
  go_wp2_with fail
  refine (HF.out w1 B1.out).mono ?_
  rintro e w2 ⟨rfl, hb⟩
  have X2 := Lib.hid (X1.out.next hb)
  have B2 := Lib.hid (B1.out.trans (hb.mono B1.out.size))
  clear hb X1 B1 H HF
  go_upto_region 4 with (fail)
  have XP : Hid (BxV (w2.alloc (.cells #[.pointer (some ⟨pv 0, 0, none⟩), .pointer (some ⟨pv 1, 0, none⟩), .pointer (some ⟨pv 2, 0, none⟩), .pointer (some ⟨pv 3, 0, none⟩), .pointer (some ⟨pv 4, 0, none⟩), .pointer (some ⟨pv 5, 0, none⟩), .pointer (some ⟨pv 6, 0, none⟩), .pointer (some ⟨pv 7, 0, none⟩), .pointer (some ⟨pv 8, 0, none⟩), .pointer (some ⟨pv 9, 0, none⟩), .pointer (some ⟨pv 10, 0, none⟩), .pointer (some ⟨pv 11, 0, none⟩)] 65)) w2.heap.size _) := Lib.hid (BxV.new w2 _ _)
  have hal : Below w2.heap.size w2 (w2.alloc (.cells #[.pointer (some ⟨pv 0, 0, none⟩), .pointer (some ⟨pv 1, 0, none⟩), .pointer (some ⟨pv 2, 0, none⟩), .pointer (some ⟨pv 3, 0, none⟩), .pointer (some ⟨pv 4, 0, none⟩), .pointer (some ⟨pv 5, 0, none⟩), .pointer (some ⟨pv 6, 0, none⟩), .pointer (some ⟨pv 7, 0, none⟩), .pointer (some ⟨pv 8, 0, none⟩), .pointer (some ⟨pv 9, 0, none⟩), .pointer (some ⟨pv 10, 0, none⟩), .pointer (some ⟨pv 11, 0, none⟩)] 65)) := (Below.refl _ _).alloc (Nat.le_refl _) _
  have X9 := Lib.hid (X2.out.next hal)
  have B9 := Lib.hid (B2.out.trans (hal.mono B2.out.size))
  clear hal X2 B2
  generalize w2.alloc (.cells #[.pointer (some ⟨pv 0, 0, none⟩), .pointer (some ⟨pv 1, 0, none⟩), .pointer (some ⟨pv 2, 0, none⟩), .pointer (some ⟨pv 3, 0, none⟩), .pointer (some ⟨pv 4, 0, none⟩), .pointer (some ⟨pv 5, 0, none⟩), .pointer (some ⟨pv 6, 0, none⟩), .pointer (some ⟨pv 7, 0, none⟩), .pointer (some ⟨pv 8, 0, none⟩), .pointer (some ⟨pv 9, 0, none⟩), .pointer (some ⟨pv 10, 0, none⟩), .pointer (some ⟨pv 11, 0, none⟩)] 65) = w3 at *
  generalize w2.heap.size = bq at *
  have p0 := XP.out.c 0 _ rfl
  have pl := XP.out.lt
  have c5 := (B9.out.cell (p := ⟨pv 0, 5, none⟩) hlt).trans HP.out
  have z5 : pv 0 < w3.heap.size := Nat.lt_of_lt_of_le hlt B9.out.size
  have q0 := X9.out.c 0 _ rfl
  have q1 := X9.out.c 1 _ rfl
  have q2 := X9.out.c 2 _ rfl
  have q3 := X9.out.c 3 _ rfl
  have qf := X9.out.fz
  have ql := X9.out.lt
  rcases HQ.out with ⟨g1, g2⟩ | ⟨n, r, g1, g2, g3⟩
  · rw [g2] at c5
    have hz : findE (N.map Nd.e) key seq = none := by
      rcases HH.out with ⟨_, h⟩ | ⟨n, r, h, _⟩
      · exact h
      · rw [g1] at h; cases h
    have SE := fnd_none hz
    have SE1 := Lib.hid (HS.out.trans SE.1)
    have SE2 := Lib.hid (HE.out.trans SE.2)
    clear hz SE HS HE g1 g2 HH HQ
    go_wp2_with fail
    change bodyPost _ _ _ _ _ (World.setCells w3 bz 0 [.string { data := #[] }, .string { data := #[] }, .int .i64 0, .bool false])
    have RB := (X9.out.set [.string { data := #[] }, .string { data := #[] }, .int .i64 0, .bool false] rfl)
    have BZ := bel_setCells (b := bz) hbz [.string { data := #[] }, .string { data := #[] }, .int .i64 0, .bool false] 0 _ B9.out
    have r0 := RB.c 0 _ rfl
    have r1 := RB.c 1 _ rfl
    have r2 := RB.c 2 _ rfl
    have r3 := RB.c 3 _ rfl
    generalize World.setCells w3 bz 0 [.string { data := #[] }, .string { data := #[] }, .int .i64 0, .bool false] = wz at *
    refine bodyPost_ret (v := .tuple #[.agg #[.string { data := #[] }, .string { data := #[] }, .int .i64 0, .bool false], .bool false]) (by simp [results, Try.results17, go_sem, r0, r1, r2, r3]) rfl ⟨?_, BZ⟩
    rw [SE1.out, SE2.out]
    all_goals rfl
  · rw [g2] at c5
    have hz : findE (N.map Nd.e) key seq = if n.e.key = key then some n.e else none := by
      rcases HH.out with ⟨h, _⟩ | ⟨n', r', h, h2⟩
      · rw [g1] at h; cases h
      · rw [g1] at h
        injection h with h3 h4
        subst h3
        exact h2
    have hen := TB.out.ent g3
    have zn : n.g < w.heap.size := (TB.out.nd _ n g3).lt
    obtain ⟨d0, d1, d2, d3⟩ := hen.below zn B9.out
    simp only [Nat.zero_add] at d1 d2 d3
    have zn3 : n.g < w3.heap.size := Nat.lt_of_lt_of_le zn B9.out.size
    clear g1 g2 g3 HH HQ hen
    by_cases hk : n.e.key = key
    · have e1 : (n.e.key.toList == key.toList) = true := by rw [str_eqB]; exact decide_eq_true hk
      have e2 : (n.e.key.toList != key.toList) = false := by unfold bne; rw [e1]; rfl
      rw [if_pos hk] at hz
      have SE := fnd_some hz
      have SE1 := Lib.hid (HS.out.trans SE.1)
      have SE2 := Lib.hid (HE.out.trans SE.2)
      clear hz SE HS HE hk
      go_wp2_with fail
      change bodyPost _ _ _ _ _ (World.setCells w3 bz 0 [.string n.e.key, .string n.e.val, .int .i64 n.e.seq, .bool n.e.del])
      have RB := (X9.out.set [.string n.e.key, .string n.e.val, .int .i64 n.e.seq, .bool n.e.del] rfl)
      have BZ := bel_setCells (b := bz) hbz [.string n.e.key, .string n.e.val, .int .i64 n.e.seq, .bool n.e.del] 0 _ B9.out
      have r0 := RB.c 0 _ rfl
      have r1 := RB.c 1 _ rfl
      have r2 := RB.c 2 _ rfl
      have r3 := RB.c 3 _ rfl
      generalize World.setCells w3 bz 0 [.string n.e.key, .string n.e.val, .int .i64 n.e.seq, .bool n.e.del] = wz at *
      refine bodyPost_ret (v := .tuple #[.agg #[.string n.e.key, .string n.e.val, .int .i64 n.e.seq, .bool n.e.del], .bool true]) (by simp [results, Try.results17, go_sem, r0, r1, r2, r3]) rfl ⟨?_, BZ⟩
      rw [SE1.out, SE2.out]
      all_goals rfl
    · have e1 : (n.e.key.toList == key.toList) = false := by rw [str_eqB]; exact decide_eq_false hk
      have e2 : (n.e.key.toList != key.toList) = true := by unfold bne; rw [e1]; rfl
      rw [if_neg hk] at hz
      have SE := fnd_none hz
      have SE1 := Lib.hid (HS.out.trans SE.1)
      have SE2 := Lib.hid (HE.out.trans SE.2)
      clear hz SE HS HE hk
      go_wp2_with fail
      change bodyPost _ _ _ _ _ (World.setCells w3 bz 0 [.string { data := #[] }, .string { data := #[] }, .int .i64 0, .bool false])
      have RB := (X9.out.set [.string { data := #[] }, .string { data := #[] }, .int .i64 0, .bool false] rfl)
      have BZ := bel_setCells (b := bz) hbz [.string { data := #[] }, .string { data := #[] }, .int .i64 0, .bool false] 0 _ B9.out
      have r0 := RB.c 0 _ rfl
      have r1 := RB.c 1 _ rfl
      have r2 := RB.c 2 _ rfl
      have r3 := RB.c 3 _ rfl
      generalize World.setCells w3 bz 0 [.string { data := #[] }, .string { data := #[] }, .int .i64 0, .bool false] = wz at *
      refine bodyPost_ret (v := .tuple #[.agg #[.string { data := #[] }, .string { data := #[] }, .int .i64 0, .bool false], .bool false]) (by simp [results, Try.results17, go_sem, r0, r1, r2, r3]) rfl ⟨?_, BZ⟩
      rw [SE1.out, SE2.out]
      all_goals rfl
end Go.Proofs.Ytjhgbdeadkoegaa
