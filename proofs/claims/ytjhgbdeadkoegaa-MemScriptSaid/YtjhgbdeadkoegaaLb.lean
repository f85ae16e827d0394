/- Walk: the search along the lanes. -/
import Derived.Test.YtjhgbdeadkoegaaLa
import Derived.Test.YtjhgbdeadkoegaaNv
import Derived.Test.YtjhgbdeadkoegaaEd
import Derived.Test.YtjhgbdeadkoegaaEj
namespace Go.Proofs.Ytjhgbdeadkoegaa
open Go.RowKit Go.St Go.Maps
set_option linter.unusedVariables false
set_option linter.unusedSimpArgs false
set_option maxRecDepth 100000

/-- A memtable where it lies. -/
structure Tbl (W : World) (p T : Nat) (A : Option Addr) (k c : Nat) (hs : List Int) (N : List Nd) (ln sz : Int) : Prop where
  hd : BxV W T (tbc A k c N ln sz true)
  nd : ∀ (i : Nat) (n : Nd), N[i]? = some n → BxV W n.g (ndc n (N.drop (i + 1)))
  dis : (T :: N.map Nd.g).Nodup
  row : W.ownsRow p 3 1 (.slice A k c) k (nv hs)
  rowT : ∀ g, (Value.slice A k c).ownBlock = some g → g ≠ T ∧ g ∉ N.map Nd.g
  lo : p ≤ T ∧ ∀ n ∈ N, p ≤ n.g
  hs12 : ∀ h ∈ hs, 1 ≤ h ∧ h ≤ 12
  full : ∀ n ∈ N, n.u = n.t ∧ 1 ≤ n.t ∧ n.t ≤ 12
theorem Tbl.next {W W' : World} {p T : Nat} {A : Option Addr} {k c : Nat} {hs : List Int} {N : List Nd} {ln sz : Int} (h : Tbl W p T A k c hs N ln sz) (hb : Below W.heap.size W W') : Tbl W' p T A k c hs N ln sz :=
  ⟨h.hd.next hb, fun i n hn => (h.nd i n hn).next hb, h.dis, own_keep h.row hb (Nat.le_refl _), h.rowT, h.lo, h.hs12, h.full⟩
/-- A place in the lanes: what is behind it. -/
structure AtL (W : World) (a : Nat) (R : List Nd) (m : Nat) : Prop where
  lt : a < W.heap.size
  c : ∀ h, h < m → W.cell? ⟨a, 5 + h, none⟩ = some (nxv h R)
theorem AtL.less {W : World} {a m m' : Nat} {R : List Nd} (h : AtL W a R m) (hm : m' ≤ m) : AtL W a R m' := ⟨h.lt, fun i hi => h.c i (by omega)⟩
theorem Tbl.at0 {W : World} {p T : Nat} {A : Option Addr} {k c : Nat} {hs : List Int} {N : List Nd} {ln sz : Int} (h : Tbl W p T A k c hs N ln sz) : AtL W T N 12 :=
  ⟨h.hd.lt, fun i hi => h.hd.c _ _ (tbc_get A k c N ln sz true hi)⟩
theorem Tbl.atn {W : World} {p T : Nat} {A : Option Addr} {k c : Nat} {hs : List Int} {N : List Nd} {ln sz : Int} (h : Tbl W p T A k c hs N ln sz) {i : Nat} {n : Nd} (hn : N[i]? = some n) {m : Nat} (hm : m ≤ n.u) : AtL W n.g (N.drop (i + 1)) m :=
  ⟨(h.nd i n hn).lt, fun j hj => by
    have hf := h.full n (List.mem_of_getElem? hn)
    have := (h.nd i n hn).c _ _ (ndc_get n (N.drop (i + 1)) (h := j) (by omega))
    rw [this]
    unfold lnk
    rw [if_pos (by omega)]⟩
theorem Tbl.ent {W : World} {p T : Nat} {A : Option Addr} {k c : Nat} {hs : List Int} {N : List Nd} {ln sz : Int} (h : Tbl W p T A k c hs N ln sz) {i : Nat} {n : Nd} (hn : N[i]? = some n) : EnI W n.g 0 n.e :=
  have b := h.nd i n hn
  ⟨b.c 0 _ rfl, b.c 1 _ rfl, b.c 2 _ rfl, b.c 3 _ rfl⟩
def pvs (e : Ent) (T : Nat) (N : List Nd) (h : Nat) : Nat := (fnd e 12 T N).1.getD h 0
theorem pvs_all (e : Ent) (T : Nat) (N : List Nd) : (fnd e 12 T N).1 = (List.range 12).map (pvs e T N) := by
  apply List.ext_getElem?
  intro i
  have hl := fnd_len e 12 T N
  by_cases hi : i < 12
  · rw [List.getElem?_map, List.getElem?_range hi]
    rw [Option.map_some]
    unfold pvs
    rw [List.getD_eq_getElem?_getD, List.getElem?_eq_getElem (show i < (fnd e 12 T N).1.length by omega)]
    rfl
  · rw [List.getElem?_eq_none (by omega), List.getElem?_eq_none (by simp; omega)]

theorem bxv_put {W : World} {b : Nat} {xs : List Value} (h : BxV W b xs) (i : Nat) (hi : i < xs.length) (v : Value) : BxV (W.setCell ⟨b, i, none⟩ v) b (xs.set i v) := by
  refine ⟨by simpa using h.lt, fun o => by simpa using h.fz o, fun j u hu => ?_⟩
  by_cases e : i = j
  · subst e
    rw [List.getElem?_set_self hi] at hu
    injection hu with hu
    subst hu
    exact World.cell?_setCell_same W ⟨b, i, none⟩ v (by rw [h.c i _ (List.getElem?_eq_getElem hi)])
  · rw [List.getElem?_set_ne e] at hu
    rw [World.cell?_setCell_other W ⟨b, i, none⟩ ⟨b, j, none⟩ v (fun e2 => by injection e2 with _ e3; exact e e3)]
    exact h.c j u hu
theorem bxv_far {W : World} {b p : Nat} {xs : List Value} (h : BxV W b xs) (hp : p ≠ b) (o : Nat) (v : Value) : BxV (W.setCell ⟨p, o, none⟩ v) b xs := by
  have := h.other hp o [v]
  rwa [World.setCells, World.setCells] at this
set_option maxHeartbeats 6400000 in
theorem tfind_any (p T : Nat) (A : Option Addr) (k c : Nat) (hs : List Int) (N : List Nd) (ln sz : Int) (hN : N.length ≤ 100000) (e : Ent) (w : World) (ht : Tbl w p T A k c hs N ln sz) :
    Calls Try.prog 36 #[.pointer (some ⟨T, 0, none⟩), .agg #[.string e.key, .string e.val, .int .i64 e.seq, .bool e.del]] w fun r w' => r = .returned (.tuple #[.agg #[ptr (pvs e T N 0), ptr (pvs e T N 1), ptr (pvs e T N 2), ptr (pvs e T N 3), ptr (pvs e T N 4), ptr (pvs e T N 5), ptr (pvs e T N 6), ptr (pvs e T N 7), ptr (pvs e T N 8), ptr (pvs e T N 9), ptr (pvs e T N 10), ptr (pvs e T N 11)], .int .i64 ((fnd e 12 T N).2 : Nat)]) ∧ Below w.heap.size w w' := by
  have TB := Lib.hid ht
  clear ht
  have HAH := Lib.hid (fun (x : Ent) W => ahead_any x e W)
  obtain ⟨FP, hFP⟩ : ∃ FP, FP = (fnd e 12 T N).1 := ⟨_, rfl⟩
  obtain ⟨FS, hFS⟩ : ∃ FS, FS = (fnd e 12 T N).2 := ⟨_, rfl⟩
  have HPV := Lib.hid (pvs_all e T N)
  have hfs : FS ≤ 100012 := by have := fnd_cost e 12 T N; omega
  rw [← hFP] at HPV
  generalize pvs e T N = pv at *
  rw [← hFS]
  have HF0 : Hid (FP = (fnd e 12 T N).1 ++ []) := Lib.hid (by rw [hFP]; simp)
  have HS0 : Hid (FS = 0 + (fnd e 12 T N).2) := Lib.hid (by omega)
  clear hFP hFS
  go_enter Try.func36, Try.ntmps36
  go_wp2_with fail
  obtain ⟨be, hbe⟩ : ∃ b, b = w.heap.size := ⟨_, rfl⟩
  obtain ⟨bp, hbp⟩ : ∃ b, b = w.heap.size + 1 := ⟨_, rfl⟩
  have XE2 : Hid (BxV ((w.alloc (.cells #[.string e.key, .string e.val, .int .i64 e.seq, .bool e.del] 32)).alloc (.cells #[.pointer none, .pointer none, .pointer none, .pointer none, .pointer none, .pointer none, .pointer none, .pointer none, .pointer none, .pointer none, .pointer none, .pointer none] 65)) be [.string e.key, .string e.val, .int .i64 e.seq, .bool e.del]) := Lib.hid (by rw [hbe]; exact (BxV.new w _ _).alloc _)
  have XP2 : Hid (BxV ((w.alloc (.cells #[.string e.key, .string e.val, .int .i64 e.seq, .bool e.del] 32)).alloc (.cells #[.pointer none, .pointer none, .pointer none, .pointer none, .pointer none, .pointer none, .pointer none, .pointer none, .pointer none, .pointer none, .pointer none, .pointer none] 65)) bp (List.replicate 12 (.pointer none) ++ ([] : List Nat).map ptr)) := Lib.hid (by
    have h := BxV.new (w.alloc (.cells #[.string e.key, .string e.val, .int .i64 e.seq, .bool e.del] 32)) #[.pointer none, .pointer none, .pointer none, .pointer none, .pointer none, .pointer none, .pointer none, .pointer none, .pointer none, .pointer none, .pointer none, .pointer none] 65
    rw [World.size_alloc] at h
    rw [hbp]
    exact h)
  have BW2 : Hid (Below w.heap.size w ((w.alloc (.cells #[.string e.key, .string e.val, .int .i64 e.seq, .bool e.del] 32)).alloc (.cells #[.pointer none, .pointer none, .pointer none, .pointer none, .pointer none, .pointer none, .pointer none, .pointer none, .pointer none, .pointer none, .pointer none, .pointer none] 65))) := Lib.hid (((Below.refl _ _).alloc (Nat.le_refl _) _).alloc (by simp) _)
  generalize ((w.alloc (.cells #[.string e.key, .string e.val, .int .i64 e.seq, .bool e.del] 32)).alloc (.cells #[.pointer none, .pointer none, .pointer none, .pointer none, .pointer none, .pointer none, .pointer none, .pointer none, .pointer none, .pointer none, .pointer none, .pointer none] 65)) = w2 at *
  rw [← hbp, ← hbe]
  have HBE := Lib.hid hbe
  have hbw : w.heap.size ≤ be := by omega
  have hpw : w.heap.size ≤ bp := by omega
  have hpe : bp ≠ be := by omega
  have AT0 := Lib.hid TB.out.at0
  clear hbe hbp HBE
  go_loopw [5, 6, 7] (fun s5 s6 s7 wr => ∃ (s a m : Nat) (R : List Nd) (j : Nat) (D : List Nat), s5 = .int .i64 (s : Int) ∧ s6 = ptr a ∧ s7 = .int .i64 ((m : Int) - 1) ∧ m ≤ 12 ∧ Hid (R = N.drop j) ∧ Hid (FP = (fnd e m a R).1 ++ D) ∧ Hid (FS = s + (fnd e m a R).2) ∧ Hid (AtL w a R m) ∧ Hid (BxV wr bp (List.replicate m (.pointer none) ++ D.map ptr)) ∧ Hid (BxV wr be [.string e.key, .string e.val, .int .i64 e.seq, .bool e.del]) ∧ Hid (Below w.heap.size w wr)) (fun _ _ s7 _ => (intOf s7 + 1).toNat)
  case atStart => exact ⟨0, T, 12, N, 0, [], rfl, rfl, rfl, Nat.le_refl _, Lib.hid rfl, HF0, HS0, AT0, XP2, XE2, BW2⟩
  case round =>
    clear HF0 HS0 XP2 XE2 BW2 AT0
    obtain ⟨s, a, m, R, j, D, rfl, rfl, rfl, hm, HRJ, HF, HT, HAT, XP3, XE3, BW3⟩ := hrel
    obtain ⟨w3, rfl⟩ : ∃ x, x = wr := ⟨_, rfl⟩
    cases m with
    | zero =>
      have m1 : ¬ (0 : Int) ≤ ((0 : Nat) : Int) - 1 := by omega
      have HD : Hid (D = (List.range 12).map pv) := Lib.hid (by rw [← HPV.out, HF.out]; rfl)
      have HSE : Hid (FS = s) := Lib.hid (by rw [HT.out]; rfl)
      have XQ : Hid (BxV w3 bp [.pointer (some ⟨pv 0, 0, none⟩), .pointer (some ⟨pv 1, 0, none⟩), .pointer (some ⟨pv 2, 0, none⟩), .pointer (some ⟨pv 3, 0, none⟩), .pointer (some ⟨pv 4, 0, none⟩), .pointer (some ⟨pv 5, 0, none⟩), .pointer (some ⟨pv 6, 0, none⟩), .pointer (some ⟨pv 7, 0, none⟩), .pointer (some ⟨pv 8, 0, none⟩), .pointer (some ⟨pv 9, 0, none⟩), .pointer (some ⟨pv 10, 0, none⟩), .pointer (some ⟨pv 11, 0, none⟩)]) := Lib.hid (by
        have h := XP3.out
        rw [HD.out] at h
        exact h)
      obtain ⟨s, rfl⟩ : ∃ x, x = s := ⟨_, rfl⟩
      clear HF HT HAT XP3 XE3 HRJ HD HPV
      have q0 := XQ.out.c 0 _ rfl
      have q1 := XQ.out.c 1 _ rfl
      have q2 := XQ.out.c 2 _ rfl
      have q3 := XQ.out.c 3 _ rfl
      have q4 := XQ.out.c 4 _ rfl
      have q5 := XQ.out.c 5 _ rfl
      have q6 := XQ.out.c 6 _ rfl
      have q7 := XQ.out.c 7 _ rfl
      have q8 := XQ.out.c 8 _ rfl
      have q9 := XQ.out.c 9 _ rfl
      have q10 := XQ.out.c 10 _ rfl
      have q11 := XQ.out.c 11 _ rfl
      have qf := XQ.out.fz
      have ql := XQ.out.lt
      go_wp2_with fail
      change bodyPost _ _ _ _ _ (World.setCells w3 bp 0 [.pointer (some ⟨pv 0, 0, none⟩), .pointer (some ⟨pv 1, 0, none⟩), .pointer (some ⟨pv 2, 0, none⟩), .pointer (some ⟨pv 3, 0, none⟩), .pointer (some ⟨pv 4, 0, none⟩), .pointer (some ⟨pv 5, 0, none⟩), .pointer (some ⟨pv 6, 0, none⟩), .pointer (some ⟨pv 7, 0, none⟩), .pointer (some ⟨pv 8, 0, none⟩), .pointer (some ⟨pv 9, 0, none⟩), .pointer (some ⟨pv 10, 0, none⟩), .pointer (some ⟨pv 11, 0, none⟩)])
      have RB := (XQ.out.set [.pointer (some ⟨pv 0, 0, none⟩), .pointer (some ⟨pv 1, 0, none⟩), .pointer (some ⟨pv 2, 0, none⟩), .pointer (some ⟨pv 3, 0, none⟩), .pointer (some ⟨pv 4, 0, none⟩), .pointer (some ⟨pv 5, 0, none⟩), .pointer (some ⟨pv 6, 0, none⟩), .pointer (some ⟨pv 7, 0, none⟩), .pointer (some ⟨pv 8, 0, none⟩), .pointer (some ⟨pv 9, 0, none⟩), .pointer (some ⟨pv 10, 0, none⟩), .pointer (some ⟨pv 11, 0, none⟩)] rfl)
      have BZ := bel_setCells (b := bp) hpw [.pointer (some ⟨pv 0, 0, none⟩), .pointer (some ⟨pv 1, 0, none⟩), .pointer (some ⟨pv 2, 0, none⟩), .pointer (some ⟨pv 3, 0, none⟩), .pointer (some ⟨pv 4, 0, none⟩), .pointer (some ⟨pv 5, 0, none⟩), .pointer (some ⟨pv 6, 0, none⟩), .pointer (some ⟨pv 7, 0, none⟩), .pointer (some ⟨pv 8, 0, none⟩), .pointer (some ⟨pv 9, 0, none⟩), .pointer (some ⟨pv 10, 0, none⟩), .pointer (some ⟨pv 11, 0, none⟩)] 0 _ BW3.out
      have r0 := RB.c 0 _ rfl
      have r1 := RB.c 1 _ rfl
      have r2 := RB.c 2 _ rfl
      have r3 := RB.c 3 _ rfl
      have r4 := RB.c 4 _ rfl
      have r5 := RB.c 5 _ rfl
      have r6 := RB.c 6 _ rfl
      have r7 := RB.c 7 _ rfl
      have r8 := RB.c 8 _ rfl
      have r9 := RB.c 9 _ rfl
      have r10 := RB.c 10 _ rfl
      have r11 := RB.c 11 _ rfl
      generalize World.setCells w3 bp 0 [.pointer (some ⟨pv 0, 0, none⟩), .pointer (some ⟨pv 1, 0, none⟩), .pointer (some ⟨pv 2, 0, none⟩), .pointer (some ⟨pv 3, 0, none⟩), .pointer (some ⟨pv 4, 0, none⟩), .pointer (some ⟨pv 5, 0, none⟩), .pointer (some ⟨pv 6, 0, none⟩), .pointer (some ⟨pv 7, 0, none⟩), .pointer (some ⟨pv 8, 0, none⟩), .pointer (some ⟨pv 9, 0, none⟩), .pointer (some ⟨pv 10, 0, none⟩), .pointer (some ⟨pv 11, 0, none⟩)] = wz at *
      refine bodyPost_ret (v := .tuple #[.agg #[.pointer (some ⟨pv 0, 0, none⟩), .pointer (some ⟨pv 1, 0, none⟩), .pointer (some ⟨pv 2, 0, none⟩), .pointer (some ⟨pv 3, 0, none⟩), .pointer (some ⟨pv 4, 0, none⟩), .pointer (some ⟨pv 5, 0, none⟩), .pointer (some ⟨pv 6, 0, none⟩), .pointer (some ⟨pv 7, 0, none⟩), .pointer (some ⟨pv 8, 0, none⟩), .pointer (some ⟨pv 9, 0, none⟩), .pointer (some ⟨pv 10, 0, none⟩), .pointer (some ⟨pv 11, 0, none⟩)], .int .i64 (s : Int)]) (by simp [results, Try.results36, go_sem, r0, r1, r2, r3, r4, r5, r6, r7, r8, r9, r10, r11]) rfl ⟨?_, BZ⟩
      rw [HSE.out]
      rfl
    | succ m =>
      rw [show (((m + 1 : Nat) : Int) - 1) = (m : Int) by omega]
      unfold ptr
      have m1 : (0 : Int) ≤ (m : Int) := by omega
      have m2 : (m : Int) < 12 := by omega
      have m3 : IntKind.i64.wrap ((m : Int) - 1) = (m : Int) - 1 := IntWalk.i64_in _ (by omega)
      have ca := (BW3.out.cell (p := ⟨a, 5 + m, none⟩) HAT.out.lt).trans (HAT.out.c m (by omega))
      have za : a < w3.heap.size := Nat.lt_of_lt_of_le HAT.out.lt BW3.out.size
      obtain ⟨FA, hFA⟩ : ∃ x, x = (wlk e m a R R).1 := ⟨_, rfl⟩
      obtain ⟨FR, hFR⟩ : ∃ x, x = (wlk e m a R R).2.1 := ⟨_, rfl⟩
      obtain ⟨FC, hFC⟩ : ∃ x, x = s + (wlk e m a R R).2.2 := ⟨_, rfl⟩
      have HFA := Lib.hid hFA
      have HFR := Lib.hid hFR
      have HFC := Lib.hid hFC
      have HF1 : Hid (FP = (fnd e m FA FR).1 ++ (FA :: D)) := Lib.hid (by rw [HF.out, fnd, hFA, hFR]; simp)
      have HT1 : Hid (FS = FC + (fnd e m FA FR).2) := Lib.hid (by rw [HT.out, fnd, hFA, hFR, hFC]; omega)
      have hfc : FC ≤ 100012 := by have := HT1.out; omega
      have hsc : s ≤ FC := by omega
      clear HF HT hFA hFR hFC
      go_wp2_with fail
      go_loopw [5, 6, 8] (fun s5 s6 s8 wr => ∃ (s' a' : Nat) (R' : List Nd) (j' : Nat), s5 = .int .i64 (s' : Int) ∧ s6 = .pointer (some ⟨a', 0, none⟩) ∧ s8 = nxv m R' ∧ s' ≤ FC ∧ Hid (R' = N.drop j') ∧ Hid (FA = (wlk e m a' R' R').1) ∧ Hid (FR = (wlk e m a' R' R').2.1) ∧ Hid (FC = s' + (wlk e m a' R' R').2.2) ∧ Hid (AtL w a' R' (m + 1)) ∧ Hid (BxV wr bp (List.replicate (m + 1) (.pointer none) ++ D.map ptr)) ∧ Hid (BxV wr be [.string e.key, .string e.val, .int .i64 e.seq, .bool e.del]) ∧ Hid (Below w.heap.size w wr)) (fun s5 _ _ _ => FC + 1 - (intOf s5).toNat)
      case atStart => exact ⟨s, a, R, j, rfl, rfl, rfl, hsc, HRJ, HFA, HFR, HFC, HAT, XP3, XE3, BW3⟩
      case round =>
        clear HRJ HFA HFR HFC HAT XP3 XE3 BW3 ca za hsc
        obtain ⟨s', a', R', j', rfl, rfl, rfl, hsc, HRJ2, HFA, HFR, HFC, HAT2, XP5, XE5, BW5⟩ := hrel
        obtain ⟨w5, rfl⟩ : ∃ x, x = wr := ⟨_, rfl⟩
        rcases nx_cases m R' with ⟨h1, h2⟩ | ⟨i, n, h1, h2, h3, h4⟩
        · obtain rfl : FA = a' := by rw [HFA.out, h2]
          obtain rfl : FR = R' := by rw [HFR.out, h2]
          obtain rfl : FC = s' := by rw [HFC.out, h2]; rfl
          obtain ⟨a', rfl⟩ : ∃ x, x = FA := ⟨_, rfl⟩
          obtain ⟨R', rfl⟩ : ∃ x, x = FR := ⟨_, rfl⟩
          rw [h1]
          clear h1 h2 HFA HFR HFC
          have hb5 : bp < w5.heap.size := XP5.out.lt
          have cp := XP5.out.c m (.pointer none) (by rw [List.getElem?_append_left (by simp), List.getElem?_replicate, if_pos (by omega)])
          have fp := XP5.out.fz m
          have XP9 : Hid (BxV (w5.setCell ⟨bp, m, none⟩ (.pointer (some ⟨a', 0, none⟩))) bp (List.replicate m (.pointer none) ++ (a' :: D).map ptr)) := Lib.hid (by
            have h := bxv_put XP5.out m (by simp; omega) (ptr a')
            rw [List.replicate_succ', List.append_assoc, List.set_append_right _ _ (by simp), List.length_replicate, Nat.sub_self] at h
            exact h)
          have XE9 := Lib.hid (bxv_far XE5.out (p := bp) hpe m (.pointer (some ⟨a', 0, none⟩)))
          have BW9 := Lib.hid (BW5.out.setCell (p := ⟨bp, m, none⟩) (by show w.heap.size ≤ bp; exact hpw) (.pointer (some ⟨a', 0, none⟩)))
          go_wp2_with fail
          go_roundw
          case rel => exact ⟨FC, a', m, R', j', a' :: D, (by first | rfl | go_num), rfl, rfl, by omega, HRJ2, HF1, HT1, Lib.hid (HAT2.out.less (by omega)), XP9, XE9, BW9⟩
          case measure => (first | (simp [intOf]; done) | (simp [intOf]; omega))
        · rw [h3]
          unfold ptr
          have hni : N[j' + i]? = some n := by rw [← List.getElem?_drop, ← HRJ2.out]; exact h1
          have HRN : Hid (R'.drop (i + 1) = N.drop (j' + i + 1)) := Lib.hid (by rw [HRJ2.out, List.drop_drop, Nat.add_assoc])
          have HAN := Lib.hid (TB.out.atn hni (m := m + 1) (by omega))
          have hen := TB.out.ent hni
          have zn : n.g < w.heap.size := HAN.out.lt
          have zn5 : n.g < w5.heap.size := Nat.lt_of_lt_of_le zn BW5.out.size
          obtain ⟨d0, d1, d2, d3⟩ := hen.below zn BW5.out
          simp only [Nat.zero_add] at d1 d2 d3
          have x0 := XE5.out.c 0 _ rfl
          have x1 := XE5.out.c 1 _ rfl
          have x2 := XE5.out.c 2 _ rfl
          have x3 := XE5.out.c 3 _ rfl
          have xl := XE5.out.lt
          have HC := Lib.hid (fun W => HAH.out n.e W)
          have H4 := Lib.hid (h4 e a' R')
          clear h1 h3 h4 hni hen
          cases hlt : ltE n.e e
          · rw [hlt] at HC H4
            obtain rfl : FA = a' := by rw [HFA.out, H4.out]; rfl
            obtain rfl : FR = R' := by rw [HFR.out, H4.out]; rfl
            have hfc1 : FC = s' + 1 := by rw [HFC.out, H4.out]; rfl
            subst hfc1
            obtain ⟨a', rfl⟩ : ∃ x, x = FA := ⟨_, rfl⟩
            obtain ⟨R', rfl⟩ : ∃ x, x = FR := ⟨_, rfl⟩
            clear hlt H4 HFA HFR HFC
            go_wp2_with fail
            refine wp_qall (by kernel_rfl) (by kernel_rfl) ?_
            intro hcg
            repeat (first | go_big_quiet_step ((with_reducible (exact Calls.reg (HC.out _)))) | quiet_step ((with_reducible (exact Calls.reg (HC.out _)))))
            refine wpQuiet_nil ?_
            intro wq hbwq hcwq hfwq
            clear hcg
            have XP6 := Lib.hid (XP5.out.next hbwq)
            have XE6 := Lib.hid (XE5.out.next hbwq)
            have BW6 := Lib.hid (BW5.out.trans (hbwq.mono BW5.out.size))
            clear hbwq hcwq hfwq XP5 XE5 BW5 zn5 d0 d1 d2 d3 x0 x1 x2 x3 xl
            have XP5 := XP6
            have XE5 := XE6
            have BW5 := BW6
            clear XP6 XE6 BW6
            obtain ⟨w5, rfl⟩ : ∃ x, x = wq := ⟨_, rfl⟩
            have hb5 : bp < w5.heap.size := XP5.out.lt
            have cp := XP5.out.c m (.pointer none) (by rw [List.getElem?_append_left (by simp), List.getElem?_replicate, if_pos (by omega)])
            have fp := XP5.out.fz m
            have XP9 : Hid (BxV (w5.setCell ⟨bp, m, none⟩ (.pointer (some ⟨a', 0, none⟩))) bp (List.replicate m (.pointer none) ++ (a' :: D).map ptr)) := Lib.hid (by
              have h := bxv_put XP5.out m (by simp; omega) (ptr a')
              rw [List.replicate_succ', List.append_assoc, List.set_append_right _ _ (by simp), List.length_replicate, Nat.sub_self] at h
              exact h)
            have XE9 := Lib.hid (bxv_far XE5.out (p := bp) hpe m (.pointer (some ⟨a', 0, none⟩)))
            have BW9 := Lib.hid (BW5.out.setCell (p := ⟨bp, m, none⟩) (by show w.heap.size ≤ bp; exact hpw) (.pointer (some ⟨a', 0, none⟩)))
            go_wp2_with fail
            go_roundw
            case rel => exact ⟨s' + 1, a', m, R', j', a' :: D, (by first | rfl | go_num), rfl, rfl, by omega, HRJ2, HF1, HT1, Lib.hid (HAT2.out.less (by omega)), XP9, XE9, BW9⟩
            case measure => (first | (simp [intOf]; done) | (simp [intOf]; omega))
          · rw [hlt] at HC H4
            have HFA9 : Hid (FA = (wlk e m n.g (R'.drop (i + 1)) (R'.drop (i + 1))).1) := Lib.hid (by rw [HFA.out, H4.out]; rfl)
            have HFR9 : Hid (FR = (wlk e m n.g (R'.drop (i + 1)) (R'.drop (i + 1))).2.1) := Lib.hid (by rw [HFR.out, H4.out]; rfl)
            have HFC9 : Hid (FC = (s' + 1) + (wlk e m n.g (R'.drop (i + 1)) (R'.drop (i + 1))).2.2) := Lib.hid (by rw [HFC.out, H4.out]; show s' + (_ + 1) = _; omega)
            have hsc9 : s' + 1 ≤ FC := by have := HFC9.out; omega
            rw [← HRN.out] at HAN
            clear hlt H4 HFA HFR HFC
            go_wp2_with fail
            refine wp_qall (by kernel_rfl) (by kernel_rfl) ?_
            intro hcg
            repeat (first | go_big_quiet_step ((with_reducible (exact Calls.reg (HC.out _)))) | quiet_step ((with_reducible (exact Calls.reg (HC.out _)))))
            refine wpQuiet_nil ?_
            intro wq hbwq hcwq hfwq
            clear hcg
            have XP6 := Lib.hid (XP5.out.next hbwq)
            have XE6 := Lib.hid (XE5.out.next hbwq)
            have BW6 := Lib.hid (BW5.out.trans (hbwq.mono BW5.out.size))
            have ca := (BW6.out.cell (p := ⟨n.g, 5 + m, none⟩) zn).trans (HAN.out.c m (by omega))
            have za : n.g < wq.heap.size := Nat.lt_of_lt_of_le zn BW6.out.size
            clear hbwq hcwq hfwq XP5 XE5 BW5 zn5 d0 d1 d2 d3 x0 x1 x2 x3 xl
            go_wp2_with fail
            go_roundw
            case rel => exact ⟨s' + 1, n.g, R'.drop (i + 1), j' + i + 1, by go_num, rfl, rfl, hsc9, HRN, HFA9, HFR9, HFC9, HAN, XP6, XE6, BW6⟩
            case measure => (first | (simp [intOf]; done) | (simp [intOf]; omega))
theorem tfind_ex (p T : Nat) (A : Option Addr) (k c : Nat) (hs : List Int) (N : List Nd) (ln sz : Int) (hN : N.length ≤ 100000) (e : Ent) (w : World) (ht : Tbl w p T A k c hs N ln sz) : ∃ (pv : Nat → Nat) (FS : Nat), Hid (pv = pvs e T N) ∧ Hid (FS = (fnd e 12 T N).2) ∧ Hid (∀ W, Below w.heap.size w W →
    Calls Try.prog 36 #[.pointer (some ⟨T, 0, none⟩), .agg #[.string e.key, .string e.val, .int .i64 e.seq, .bool e.del]] W fun r w' => r = .returned (.tuple #[.agg #[.pointer (some ⟨pv 0, 0, none⟩), .pointer (some ⟨pv 1, 0, none⟩), .pointer (some ⟨pv 2, 0, none⟩), .pointer (some ⟨pv 3, 0, none⟩), .pointer (some ⟨pv 4, 0, none⟩), .pointer (some ⟨pv 5, 0, none⟩), .pointer (some ⟨pv 6, 0, none⟩), .pointer (some ⟨pv 7, 0, none⟩), .pointer (some ⟨pv 8, 0, none⟩), .pointer (some ⟨pv 9, 0, none⟩), .pointer (some ⟨pv 10, 0, none⟩), .pointer (some ⟨pv 11, 0, none⟩)], .int .i64 (FS : Int)]) ∧ Below W.heap.size W w') :=
  ⟨_, _, Lib.hid rfl, Lib.hid rfl, Lib.hid (fun W hb => tfind_any p T A k c hs N ln sz hN e W (ht.next hb))⟩
end Go.Proofs.Ytjhgbdeadkoegaa
