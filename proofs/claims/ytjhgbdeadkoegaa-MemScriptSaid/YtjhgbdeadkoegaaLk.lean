/- Walk: what is visible in a span, of a memtable. -/
import Derived.Test.YtjhgbdeadkoegaaLj
namespace Go.Proofs.Ytjhgbdeadkoegaa
open Go.RowKit Go.St Go.Shelf Go.Maps
set_option linter.unusedVariables false
set_option linter.unusedSimpArgs false
set_option maxRecDepth 100000
attribute [local go_sem] Oper.semAt_some

theorem leave_scan {n : Nat} {W : World} {tmps : Array Value} {R : Ending → World → Prop} {u : Value} (h4 : tmps.getD 6 undef = u) (hR : R (.returned u) W) :
    LeavesInM Fence.wide n Try.prog Try.f18 tmps R [] .returning W := by
  refine ⟨u, ?_, hR⟩
  have h5 : tmps[6]?.getD undef = u := by simpa using h4
  simp [results, Try.results18, go_sem, h5]
set_option maxHeartbeats 12800000 in
theorem tscan_any (v : Option Addr) (ls : List Ent) (h6 : ls.length ≤ 100000) (fr to_ : ByteArray) (seq : Int) (w : World) (hi : Itr w v ls) :
    Calls Try.prog 18 #[.pointer v, .agg #[.string fr, .string to_], .int .i64 seq] w fun e w' => ∃ u, e = .returned u ∧ w'.ownsRow w.heap.size 32 4 u (visE fr to_ seq ls).length (env (visE fr to_ seq ls)) ∧ Below w.heap.size w w' := by
  have HI := Lib.hid hi
  clear hi
  obtain ⟨E, hE⟩ : ∃ E, E = visE fr to_ seq ls := ⟨_, rfl⟩
  have HE : Hid (E = [] ++ visA fr to_ seq (lastK []) (ls.drop 0)) := Lib.hid (by rw [hE]; rfl)
  rw [← hE]
  clear hE
  refine (callsIn_wide (n := 8)).1 ?_
  refine callsIn_of_wp_marks Try.func18 rfl trivial ?_ rfl
  simp only [Try.ntmps18, List.size_toArray, List.length_cons, List.length_nil, Nat.reduceAdd, Nat.reduceSub, Array.replicate_succ, Array.replicate_zero, List.push_toArray, List.append_toArray, List.nil_append, List.cons_append]
  refine wpIn_wide.2 ?_
  go_wp2_with fail
  obtain ⟨wa0, hwa0⟩ : ∃ x, x = w.alloc (.cells #[.string fr, .string to_] 39) := ⟨_, rfl⟩
  have z0 : wa0.heap.size = w.heap.size + 1 := by rw [hwa0]; simp
  have S0 : BxV wa0 w.heap.size [.string fr, .string to_] := by rw [hwa0]; exact BxV.new w _ _
  have B0 : Below w.heap.size w wa0 := by rw [hwa0]; exact (Below.refl _ _).alloc (Nat.le_refl _) _
  rw [← hwa0]
  obtain ⟨wb0, hwb0⟩ : ∃ x, x = wa0.alloc (.cells #[.int .i64 seq] 3) := ⟨_, rfl⟩
  have z1 : wb0.heap.size = w.heap.size + 2 := by rw [hwb0, World.size_alloc, z0]
  have b1 : Below wa0.heap.size wa0 wb0 := by rw [hwb0]; exact (Below.refl _ _).alloc (Nat.le_refl _) _
  have S1 : BxV wb0 (w.heap.size + 1) [.int .i64 seq] := by rw [hwb0, ← z0]; exact BxV.new wa0 _ _
  rw [← hwb0]
  obtain ⟨wa, hwa⟩ : ∃ x, x = wb0.alloc (.cells #[.slice none 0 0] 22) := ⟨_, rfl⟩
  have b2 : Below wb0.heap.size wb0 wa := by rw [hwa]; exact (Below.refl _ _).alloc (Nat.le_refl _) _
  have S2 : BxV wa (w.heap.size + 2) [.slice none 0 0] := by rw [hwa, ← z1]; exact BxV.new wb0 _ _
  rw [← hwa]
  have SA := Lib.hid ((S0.next b1).next b2)
  have SB := Lib.hid (S1.next b2)
  have SC := Lib.hid S2
  have BA : Hid (Below w.heap.size w wa) := Lib.hid ((B0.trans (b1.mono (by omega))).trans (b2.mono (by omega)))
  clear S0 S1 S2 B0 b1 b2 hwa hwb0 hwa0 z0 z1
  refine (tall_any v wa).mono ?_
  rintro e w1 ⟨Bx, rfl, hBx, hb1⟩
  have zBx := World.block_lt_of_cell? w1 _ hBx
  have SA1 := Lib.hid (SA.out.next hb1)
  have SB1 := Lib.hid (SB.out.next hb1)
  have SC1 := Lib.hid (SC.out.next hb1)
  have HB1 : Hid (Below w.heap.size w w1) := Lib.hid (BA.out.trans (hb1.mono BA.out.size))
  have lq : w.heap.size + 2 < w1.heap.size := SC1.out.lt
  have ZBX := Lib.hid hBx
  clear BA SA SB SC hb1 hBx
  go_wp2
  refine (wpIn_wide (n := 8)).1 ?_
  refine range_mem 8 (by omega) (.tmp 10) 0 Bx v ls h6 w HI.out rfl rfl ZBX.out zBx
    (fun k W => ∃ out, E = out ++ visA fr to_ seq (lastK out) (ls.drop k) ∧ out.length ≤ k ∧ ColS w1 (w.heap.size + 2) out W) (fun W => False)
    (fun k W h => h.elim (fun out h => HB1.out.trans (h.2.2.blw (B := w.heap.size) (by omega))))
    (fun k W W' h hn hl => h.elim (fun out h => ⟨out, h.1, h.2.1, h.2.2.nc hn hl⟩)) (fun W W' h hn hl => h.elim)
    (fun W hb => ⟨[], HE.out, Nat.le_refl _, ColS.start lq (SC1.out.c 0 _ rfl) (SC1.out.fz 0) hb⟩) ?_ ?_ (fun W h _ => h.elim)
  · intro l k x hk W K hR hd hl hK
    obtain ⟨out, hq, hkm, hC⟩ := hR
    have HQ := Lib.hid hq
    have HK := Lib.hid hK
    have HC := Lib.hid hC
    have HD := Lib.hid hd
    have HL := Lib.hid hl
    have HX := Lib.hid hk
    have hin : k < ls.length := (List.getElem?_eq_some_iff.1 hk).1
    clear hK hC hd hl hk hq
    gi_wp2
    have hal : Below W.heap.size W (W.alloc (.cells #[.string x.key, .string x.val, .int .i64 x.seq, .bool x.del] 32)) := (Below.refl _ _).alloc (Nat.le_refl _) _
    have zB : w1.heap.size + 1 < W.heap.size := by obtain ⟨L, hL⟩ := HL.out; exact (Array.getElem?_eq_some_iff.1 hL).1
    refine HK.out _ _ hal.size (hal.block _ (by omega)) (hal.block _ zB) (fun W2 hn hd2 hl2 => ?_)
    have HC2 := Lib.hid ((HC.out.next hal).nc hn (by rw [hal.block _ zB]; exact HL.out))
    have XB := Lib.hid (Nc.bxv (BxV.new W #[.string x.key, .string x.val, .int .i64 x.seq, .bool x.del] 32) hn (by omega))
    obtain ⟨A5, c5, ho, hown⟩ := HC2.out.box
    have HO := Lib.hid hown
    have fo := HC2.out.fz
    have zo : w.heap.size + 2 < W2.heap.size := Nat.lt_of_lt_of_le lq HC2.out.sz
    have s0 := (HC2.out.cell (p := ⟨w.heap.size, 0, none⟩) (by show w.heap.size < _; omega) (by show w.heap.size ≠ _; omega)).trans (SA1.out.c 0 _ rfl)
    have s1 := (HC2.out.cell (p := ⟨w.heap.size, 1, none⟩) (by show w.heap.size < _; omega) (by show w.heap.size ≠ _; omega)).trans (SA1.out.c 1 _ rfl)
    have s2 := (HC2.out.cell (p := ⟨w.heap.size + 1, 0, none⟩) (by show w.heap.size + 1 < _; omega) (by show w.heap.size + 1 ≠ _; omega)).trans (SB1.out.c 0 _ rfl)
    have zs0 : w.heap.size < W2.heap.size := by omega
    have zs1 : w.heap.size + 1 < W2.heap.size := by omega
    have HD2 := Lib.hid hd2
    have HL2 := Lib.hid hl2
    have HIN := Lib.hid (fun W => in_any x.key fr to_ W)
    have j5 : out.length ≤ 1000000 := by omega
    have x0 := XB.out.c 0 _ rfl
    have x1 := XB.out.c 1 _ rfl
    have x2 := XB.out.c 2 _ rfl
    have x3 := XB.out.c 3 _ rfl
    have xl := XB.out.lt
    generalize W.heap.size = bx at *
    clear hal hn hd2 hl2 HK HC hown
    by_cases q1 : x.seq ≤ seq
    case neg =>
      have q1' : decide (x.seq ≤ seq) = false := decide_eq_false q1
      cases q2 : inS fr to_ x.key
      · rw [q2] at HIN
        clear q2
        have HQ9 : Hid (E = out ++ visA fr to_ seq (lastK out) (ls.drop (k + 1))) := Lib.hid (by rw [HQ.out, drop_at HX.out, visA_no (by rintro ⟨_, h, _⟩; exact q1 h)])
        clear HQ
        gi_wp2
        refine wpIn_rqall (by kernel_rfl) (by kernel_rfl) (by kernel_rfl) (fun a w h => h) ?_
        intro hcg
        repeat (first | go_big_quiet_step (with_reducible (exact Calls.reg (HIN.out _))) | quiet_step (with_reducible (exact Calls.reg (HIN.out _))))
        refine wpQuiet_nil ?_
        intro wq hbwq hcwq hfwq
        clear hcg
        have zsz := HC2.out.sz
        have HC9 := Lib.hid (HC2.out.next hbwq)
        have d9 := hbwq.block _ (Array.getElem?_eq_some_iff.1 HD2.out).1
        have l9 := HL2.out.elim (fun L hL => hbwq.block _ (Array.getElem?_eq_some_iff.1 hL).1)
        have s9 := hbwq.size
        clear hbwq hcwq hfwq
        gi_wp2
        exact ⟨⟨out, HQ9.out, by omega, HC9.out⟩, s9, d9, l9⟩
      · rw [q2] at HIN
        clear q2
        have HQ9 : Hid (E = out ++ visA fr to_ seq (lastK out) (ls.drop (k + 1))) := Lib.hid (by rw [HQ.out, drop_at HX.out, visA_no (by rintro ⟨_, h, _⟩; exact q1 h)])
        clear HQ
        gi_wp2
        refine wpIn_rqall (by kernel_rfl) (by kernel_rfl) (by kernel_rfl) (fun a w h => h) ?_
        intro hcg
        repeat (first | go_big_quiet_step (with_reducible (exact Calls.reg (HIN.out _))) | quiet_step (with_reducible (exact Calls.reg (HIN.out _))))
        refine wpQuiet_nil ?_
        intro wq hbwq hcwq hfwq
        clear hcg
        have zsz := HC2.out.sz
        have HC9 := Lib.hid (HC2.out.next hbwq)
        have d9 := hbwq.block _ (Array.getElem?_eq_some_iff.1 HD2.out).1
        have l9 := HL2.out.elim (fun L hL => hbwq.block _ (Array.getElem?_eq_some_iff.1 hL).1)
        have s9 := hbwq.size
        clear hbwq hcwq hfwq
        gi_wp2
        exact ⟨⟨out, HQ9.out, by omega, HC9.out⟩, s9, d9, l9⟩
    have q1' : decide (x.seq ≤ seq) = true := decide_eq_true q1
    cases q2 : inS fr to_ x.key
    · rw [q2] at HIN
      have q2' := Lib.hid q2
      clear q2
      have HQ9 : Hid (E = out ++ visA fr to_ seq (lastK out) (ls.drop (k + 1))) := Lib.hid (by rw [HQ.out, drop_at HX.out, visA_no (by rintro ⟨h, _⟩; rw [q2'.out] at h; cases h)])
      clear HQ
      gi_wp2
      refine wpIn_rqall (by kernel_rfl) (by kernel_rfl) (by kernel_rfl) (fun a w h => h) ?_
      intro hcg
      repeat (first | go_big_quiet_step (with_reducible (exact Calls.reg (HIN.out _))) | quiet_step (with_reducible (exact Calls.reg (HIN.out _))))
      refine wpQuiet_nil ?_
      intro wq hbwq hcwq hfwq
      clear hcg
      have zsz := HC2.out.sz
      have HC9 := Lib.hid (HC2.out.next hbwq)
      have d9 := hbwq.block _ (Array.getElem?_eq_some_iff.1 HD2.out).1
      have l9 := HL2.out.elim (fun L hL => hbwq.block _ (Array.getElem?_eq_some_iff.1 hL).1)
      have s9 := hbwq.size
      clear hbwq hcwq hfwq
      gi_wp2
      exact ⟨⟨out, HQ9.out, by omega, HC9.out⟩, s9, d9, l9⟩
    rw [q2] at HIN
    have HQ2 := Lib.hid q2
    have HQ1 := Lib.hid q1
    clear q2
    rcases nil_or_snoc out with hnl | ⟨o', y, hsn⟩
    · have e0 : ((out.length : Int) == 0) = true := by rw [hnl]; rfl
      have HO0 := Lib.hid hnl
      clear hnl
      have HQ9 : Hid (E = (out ++ [x]) ++ visA fr to_ seq (lastK (out ++ [x])) (ls.drop (k + 1))) := Lib.hid (by rw [HQ.out, drop_at HX.out, visA_yes (by exact ⟨HQ2.out, HQ1.out, by rw [HO0.out]; simp [lastK]⟩), lastK_app]; simp)
      clear HQ
      gi_wp2
      refine wpIn_rqall (by kernel_rfl) (by kernel_rfl) (by kernel_rfl) (fun a w h => h) ?_
      intro hcg
      repeat (first | go_big_quiet_step (with_reducible (exact Calls.reg (HIN.out _))) | quiet_step (with_reducible (exact Calls.reg (HIN.out _))))
      refine wpQuiet_nil ?_
      intro wq hbwq hcwq hfwq
      clear hcg
      have zsz := HC2.out.sz
      have HC9 := Lib.hid (HC2.out.next hbwq)
      have d9 := hbwq.block _ (Array.getElem?_eq_some_iff.1 HD2.out).1
      have l9 := HL2.out.elim (fun L hL => hbwq.block _ (Array.getElem?_eq_some_iff.1 hL).1)
      have s9 := hbwq.size
      have HO9 := Lib.hid (own_keep HO.out hbwq (Nat.le_refl _))
      have y0 := (hcwq _ _ xl).trans x0
      have y1 := (hcwq _ _ xl).trans x1
      have y2 := (hcwq _ _ xl).trans x2
      have y3 := (hcwq _ _ xl).trans x3
      have yo := (hcwq _ _ zo).trans ho
      have zo9 : w.heap.size + 2 < wq.heap.size := by omega
      clear hbwq hcwq hfwq x0 x1 x2 x3 ho
      have hwal : Below wq.heap.size wq (wq.alloc (.cells #[.string x.key, .string x.val, .int .i64 x.seq, .bool x.del] 32)) := (Below.refl _ _).alloc (Nat.le_refl _) _
      have HC3 := Lib.hid (HC9.out.next hwal)
      have HO3 := Lib.hid (own_keep HO9.out hwal (Nat.le_refl _))
      gi_wp2_with (gi_at_builtin; refine wpListIn_app styE (.tmp 39) (.tmp 41) rfl rfl w1.heap.size HO3.out rfl 1 1 (rd_frC _ _ _ _) rfl rfl (by simp [Value.oneCell']) (by unfold maxLen; omega) (by omega) (by rw [World.size_alloc]; omega) ?_; intro v5 w5 own5 gr5 nil5 at5; obtain ⟨A6, c6, rfl, -, -⟩ := own_sl own5; obtain ⟨co5, fo5, zo5⟩ := HC3.out.mid HO3.out gr5; rw [(hwal.cell (p := ⟨w.heap.size + 2, 0, none⟩) zo9).trans yo] at co5)
      have P := HC3.out.push (x := x) HO3.out gr5 own5
      obtain ⟨L, hL⟩ := HL2.out
      have hLq := l9.trans hL
      have hDq := d9.trans HD2.out
      refine ⟨⟨out ++ [x], HQ9.out, by rw [List.length_append]; simp only [List.length_cons, List.length_nil]; omega, P.1⟩, Nat.le_trans s9 (Nat.le_trans hwal.size P.2.1), ?_, ?_⟩
      · exact ((P.2.2 _ _ (by omega) ((hwal.block _ (by omega)).trans hDq) (fun c t f => by simp)).trans (hwal.block _ (by omega))).trans d9
      · exact ((P.2.2 _ _ (by omega) ((hwal.block _ (Array.getElem?_eq_some_iff.1 hLq).1).trans hLq) (fun c t f => by simp)).trans (hwal.block _ (Array.getElem?_eq_some_iff.1 hLq).1)).trans l9
    · have hoy : out[o'.length]? = some y := by rw [hsn]; simp
      have hlk : lastK out = some y.key := by rw [hsn, lastK_app]
      have hol : out.length = o'.length + 1 := by rw [hsn]; simp
      have HLK := Lib.hid hlk
      obtain ⟨A', c', eA, -, rdo⟩ := own_sl HO.out
      injection eA with eA1 _ eA2
      rw [← eA1] at rdo
      clear eA1 eA2
      obtain ⟨g, og, rfl, hg, hyo⟩ := en_at rdo hoy
      have z0 := hyo.c0
      have j2 : (out.length : Int) - 1 = (o'.length : Int) := by omega
      have j3 : (o'.length : Int) < (out.length : Int) := by omega
      have j4 : IntKind.i64.wrap (o'.length : Int) = (o'.length : Int) := IntWalk.i64_in _ (by omega)
      have j6 : (0 : Int) ≤ (o'.length : Int) := by omega
      have e0 : ((out.length : Int) == 0) = false := by rw [beq_eq_false_iff_ne]; omega
      clear hyo rdo hoy hlk hsn hol
      by_cases q3 : y.key = x.key
      · have e1 : (y.key.toList == x.key.toList) = true := by rw [str_eqB]; exact decide_eq_true q3
        have e2 : (y.key.toList != x.key.toList) = false := by unfold bne; rw [e1]; rfl
        have HQ3 := Lib.hid q3
        clear q3
        have HQ9 : Hid (E = out ++ visA fr to_ seq (lastK out) (ls.drop (k + 1))) := Lib.hid (by rw [HQ.out, drop_at HX.out, visA_no (by rintro ⟨_, _, h⟩; rw [HLK.out, HQ3.out] at h; exact h rfl)])
        clear HQ
        gi_wp2
        refine wpIn_rqall (by kernel_rfl) (by kernel_rfl) (by kernel_rfl) (fun a w h => h) ?_
        intro hcg
        repeat (first | go_big_quiet_step (with_reducible (exact Calls.reg (HIN.out _))) | quiet_step (with_reducible (exact Calls.reg (HIN.out _))))
        refine wpQuiet_nil ?_
        intro wq hbwq hcwq hfwq
        clear hcg
        have zsz := HC2.out.sz
        have HC9 := Lib.hid (HC2.out.next hbwq)
        have d9 := hbwq.block _ (Array.getElem?_eq_some_iff.1 HD2.out).1
        have l9 := HL2.out.elim (fun L hL => hbwq.block _ (Array.getElem?_eq_some_iff.1 hL).1)
        have s9 := hbwq.size
        clear hbwq hcwq hfwq
        gi_wp2
        exact ⟨⟨out, HQ9.out, by omega, HC9.out⟩, s9, d9, l9⟩
      · have e1 : (y.key.toList == x.key.toList) = false := by rw [str_eqB]; exact decide_eq_false q3
        have e2 : (y.key.toList != x.key.toList) = true := by unfold bne; rw [e1]; rfl
        have HQ3 := Lib.hid q3
        clear q3
        have HQ9 : Hid (E = (out ++ [x]) ++ visA fr to_ seq (lastK (out ++ [x])) (ls.drop (k + 1))) := Lib.hid (by rw [HQ.out, drop_at HX.out, visA_yes (by exact ⟨HQ2.out, HQ1.out, by rw [HLK.out]; intro h; injection h with h; exact HQ3.out h⟩), lastK_app]; simp)
        clear HQ
        gi_wp2
        refine wpIn_rqall (by kernel_rfl) (by kernel_rfl) (by kernel_rfl) (fun a w h => h) ?_
        intro hcg
        repeat (first | go_big_quiet_step (with_reducible (exact Calls.reg (HIN.out _))) | quiet_step (with_reducible (exact Calls.reg (HIN.out _))))
        refine wpQuiet_nil ?_
        intro wq hbwq hcwq hfwq
        clear hcg
        have zsz := HC2.out.sz
        have HC9 := Lib.hid (HC2.out.next hbwq)
        have d9 := hbwq.block _ (Array.getElem?_eq_some_iff.1 HD2.out).1
        have l9 := HL2.out.elim (fun L hL => hbwq.block _ (Array.getElem?_eq_some_iff.1 hL).1)
        have s9 := hbwq.size
        have HO9 := Lib.hid (own_keep HO.out hbwq (Nat.le_refl _))
        have y0 := (hcwq _ _ xl).trans x0
        have y1 := (hcwq _ _ xl).trans x1
        have y2 := (hcwq _ _ xl).trans x2
        have y3 := (hcwq _ _ xl).trans x3
        have yo := (hcwq _ _ zo).trans ho
        have zo9 : w.heap.size + 2 < wq.heap.size := by omega
        clear hbwq hcwq hfwq x0 x1 x2 x3 ho
        have hwal : Below wq.heap.size wq (wq.alloc (.cells #[.string x.key, .string x.val, .int .i64 x.seq, .bool x.del] 32)) := (Below.refl _ _).alloc (Nat.le_refl _) _
        have HC3 := Lib.hid (HC9.out.next hwal)
        have HO3 := Lib.hid (own_keep HO9.out hwal (Nat.le_refl _))
        gi_wp2_with (gi_at_builtin; refine wpListIn_app styE (.tmp 39) (.tmp 41) rfl rfl w1.heap.size HO3.out rfl 1 1 (rd_frC _ _ _ _) rfl rfl (by simp [Value.oneCell']) (by unfold maxLen; omega) (by omega) (by rw [World.size_alloc]; omega) ?_; intro v5 w5 own5 gr5 nil5 at5; obtain ⟨A6, c6, rfl, -, -⟩ := own_sl own5; obtain ⟨co5, fo5, zo5⟩ := HC3.out.mid HO3.out gr5; rw [(hwal.cell (p := ⟨w.heap.size + 2, 0, none⟩) zo9).trans yo] at co5)
        have P := HC3.out.push (x := x) HO3.out gr5 own5
        obtain ⟨L, hL⟩ := HL2.out
        have hLq := l9.trans hL
        have hDq := d9.trans HD2.out
        refine ⟨⟨out ++ [x], HQ9.out, by rw [List.length_append]; simp only [List.length_cons, List.length_nil]; omega, P.1⟩, Nat.le_trans s9 (Nat.le_trans hwal.size P.2.1), ?_, ?_⟩
        · exact ((P.2.2 _ _ (by omega) ((hwal.block _ (by omega)).trans hDq) (fun c t f => by simp)).trans (hwal.block _ (by omega))).trans d9
        · exact ((P.2.2 _ _ (by omega) ((hwal.block _ (Array.getElem?_eq_some_iff.1 hLq).1).trans hLq) (fun c t f => by simp)).trans (hwal.block _ (Array.getElem?_eq_some_iff.1 hLq).1)).trans l9
  · intro W hR hd
    obtain ⟨out, hq, hkm, hC⟩ := hR
    have HC := Lib.hid hC
    have HD := Lib.hid hd
    have SEQ : Hid (E = out) := Lib.hid (by rw [hq, visA_fin (Nat.le_refl _), List.append_nil])
    clear hC hd hq
    obtain ⟨A5, c5, ho, hown⟩ := HC.out.box
    have zo := Nat.lt_of_lt_of_le HC.out.lt HC.out.sz
    go_wp2
    refine ⟨by simp, .inl ⟨_, _, rfl, run_takeDeferred HD.out, ?_⟩⟩
    refine leave_scan rfl ⟨_, rfl, ?_, ?_⟩
    · rw [SEQ.out]
      exact own_base (ownsRow_of hown (fun g hg => World.putObj_heap_other (own_not hown hg HD.out (fun c t f => by simp)))) (by omega)
    · exact (HB1.out.trans (HC.out.blw (by omega))).trans (putObj_belowB _ (by omega))
end Go.Proofs.Ytjhgbdeadkoegaa
