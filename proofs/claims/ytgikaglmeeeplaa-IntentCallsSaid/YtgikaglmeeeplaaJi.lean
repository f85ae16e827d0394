/- Walks: what a settled transaction leaves of an intent, the program's and the document's. -/
import Derived.Test.YtgikaglmeeeplaaJh
import Derived.Test.YtgikaglmeeeplaaJg
import Derived.Deep.Cut
namespace Go.Proofs.Ytgikaglmeeeplaa
open Go.RowKit Go.St
set_option linter.unusedVariables false
set_option linter.unusedSimpArgs false
set_option maxRecDepth 100000

/-- Is there, among the first i cells, one of this key and this stamp? -/
def hasAtU (cs : List Cel) (k : ByteArray) (s : Stp) (i : Nat) : Bool := (cs.take i).any (fun c => decide (c.key = k ∧ c.at_ = s))
theorem hasAtU_yes {cs : List Cel} {k : ByteArray} {s : Stp} {i n : Nat} {x : Cel} (hx : cs[i]? = some x) (h : i < n) (e : x.key = k ∧ x.at_ = s) : hasAtU cs k s n = true := by
  unfold hasAtU
  rw [List.any_eq_true]
  exact ⟨x, List.mem_of_getElem? (by rw [List.getElem?_take, if_pos h]; exact hx), decide_eq_true e⟩
theorem hasAtU_succ {cs : List Cel} {k : ByteArray} {s : Stp} {i : Nat} {x : Cel} (hx : cs[i]? = some x) (h : hasAtU cs k s i = false) (e : ¬ (x.key = k ∧ x.at_ = s)) : hasAtU cs k s (i + 1) = false := by
  unfold hasAtU at *
  rw [List.take_add_one, hx, List.any_append, h]
  simp only [Option.toList, List.any_cons, List.any_nil, decide_eq_false e]
  rfl
/-- What Settled answers. -/
def stlT (cs : List Cel) (x : Itt) (r : Rec) : List Cel × Int :=
  if chkCI cs [] = 0 then (if chkI x = 0 then (if chkR r = 0 then (if r.nd = x.nd ∧ r.nu = x.nu then
    (if r.st = 4 then ([], 0) else if r.st = 3 then (if inK r.l x.key = true then (if hasAtU cs x.key r.at_ cs.length = true then ([], 0) else ([⟨x.key, r.at_, x.val, x.del⟩], 0)) else ([], 0)) else ([], 10))
    else ([], 2)) else ([], chkR r)) else ([], chkI x)) else ([], chkCI cs [])
/-- The boxes of Settled. -/
structure StB (W : World) (Z : Nat) (x : Itt) (r : Rec) : Prop where
  a : BxV W Z x.c
  b : BxV W (Z + 1) r.cells
theorem StB.next {W W' : World} {Z : Nat} {x : Itt} {r : Rec} (h : StB W Z x r) (hb : Below W.heap.size W W') : StB W' Z x r := ⟨h.a.next hb, h.b.next hb⟩


set_option maxHeartbeats 6400000 in
theorem settled_any (A : Option Addr) (n c : Nat) (cs : List Cel) (hl : cs.length = n) (hn : n ≤ 1000000) (x : Itt) (r : Rec) (hlr : r.l.length = r.n) (B : Nat) (w : World) (hr : Rd w B A (cev cs)) (hrr : Rd w B r.A (sv r.l)) (hB : B ≤ w.heap.size) :
    Calls Try.prog 28 #[.slice A n c, x.v, r.v] w fun e w' => ∃ A' c', e = .returned (.tuple #[.slice A' (stlT cs x r).1.length c', .int .i64 (stlT cs x r).2]) ∧ Rd w' w'.heap.size A' (cev (stlT cs x r).1) ∧ Below w.heap.size w w' := by
  have HL := Lib.hid hl
  have HR := Lib.hid hr
  have HCI := Lib.hid (pitt_any x)
  have HCR := Lib.hid (fun W (h : Below w.heap.size w W) => reccheck_any r hlr B W (hrr.below (h.mono hB)) (Nat.le_trans hB h.size))
  have HCH := Lib.hid (fun W (h : Below w.heap.size w W) (hnr : r.n ≤ 140737488351232) => has_any r.A r.n r.c B r.l x.key hlr hnr W (hrr.below (h.mono hB)))
  clear hl hr hlr hrr
  obtain ⟨S, hS⟩ : ∃ S, S = stlT cs x r := ⟨_, rfl⟩
  rw [← hS]
  have HS := Lib.hid hS
  clear hS
  unfold Itt.v Rec.v
  unfold Itt.v at HCI
  unfold Rec.v at HCR
  go_enter Try.func28, Try.ntmps28
  go_wp2_with fail
  have X5 : Hid (StB ((w.alloc (.cells #[.string x.key, .int .i32 x.nd, .int .i32 x.nu, .int .i64 x.bg.wall, .int .i32 x.bg.logic, .int .i32 x.bg.tag, .string x.anc, .int .i64 x.at_.wall, .int .i32 x.at_.logic, .int .i32 x.at_.tag, .string x.val, .bool x.del] 29)).alloc (.cells #[.int .i32 r.nd, .int .i32 r.nu, .int .u8 r.st, .int .i64 r.at_.wall, .int .i32 r.at_.logic, .int .i32 r.at_.tag, .slice r.A r.n r.c, .int .i64 r.beat, .int .i64 r.pu.wall, .int .i32 r.pu.logic, .int .i32 r.pu.tag] 33)) w.heap.size x r) := Lib.hid ⟨(BxV.new w _ _).alloc _, by
    have h := BxV.new (w.alloc (.cells #[.string x.key, .int .i32 x.nd, .int .i32 x.nu, .int .i64 x.bg.wall, .int .i32 x.bg.logic, .int .i32 x.bg.tag, .string x.anc, .int .i64 x.at_.wall, .int .i32 x.at_.logic, .int .i32 x.at_.tag, .string x.val, .bool x.del] 29)) #[.int .i32 r.nd, .int .i32 r.nu, .int .u8 r.st, .int .i64 r.at_.wall, .int .i32 r.at_.logic, .int .i32 r.at_.tag, .slice r.A r.n r.c, .int .i64 r.beat, .int .i64 r.pu.wall, .int .i32 r.pu.logic, .int .i32 r.pu.tag] 33
    simp only [World.size_alloc] at h; exact h⟩
  have B5 : Hid (Below w.heap.size w ((w.alloc (.cells #[.string x.key, .int .i32 x.nd, .int .i32 x.nu, .int .i64 x.bg.wall, .int .i32 x.bg.logic, .int .i32 x.bg.tag, .string x.anc, .int .i64 x.at_.wall, .int .i32 x.at_.logic, .int .i32 x.at_.tag, .string x.val, .bool x.del] 29)).alloc (.cells #[.int .i32 r.nd, .int .i32 r.nu, .int .u8 r.st, .int .i64 r.at_.wall, .int .i32 r.at_.logic, .int .i32 r.at_.tag, .slice r.A r.n r.c, .int .i64 r.beat, .int .i64 r.pu.wall, .int .i32 r.pu.logic, .int .i32 r.pu.tag] 33))) := Lib.hid (((Below.refl _ _).alloc (Nat.le_refl _) _).alloc (by simp) _)
  generalize (w.alloc (.cells #[.string x.key, .int .i32 x.nd, .int .i32 x.nu, .int .i64 x.bg.wall, .int .i32 x.bg.logic, .int .i32 x.bg.tag, .string x.anc, .int .i64 x.at_.wall, .int .i32 x.at_.logic, .int .i32 x.at_.tag, .string x.val, .bool x.del] 29)).alloc (.cells #[.int .i32 r.nd, .int .i32 r.nu, .int .u8 r.st, .int .i64 r.at_.wall, .int .i32 r.at_.logic, .int .i32 r.at_.tag, .slice r.A r.n r.c, .int .i64 r.beat, .int .i64 r.pu.wall, .int .i32 r.pu.logic, .int .i32 r.pu.tag] 33) = w5 at *
  have hs5 := B5.out.size
  refine (check24_any A n c cs HL.out (by omega) none 0 0 [] rfl (by decide) B w5 (HR.out.below (B5.out.mono hB)) Rd.nil (by omega)).mono ?_
  rintro e w4 ⟨rfl, hb6⟩
  have X4 := Lib.hid (X5.out.next hb6)
  have B4 := Lib.hid (B5.out.trans (hb6.mono B5.out.size))
  clear hb6 X5 B5 hs5
  by_cases h0 : chkCI cs [] = 0
  case neg =>
    obtain ⟨E, hE⟩ : ∃ E, E = chkCI cs [] := ⟨_, rfl⟩
    have SEQ : Hid (S = ([], E)) := Lib.hid (by rw [HS.out, hE]; unfold stlT; rw [if_neg h0])
    rw [← hE] at h0 ⊢
    have e1 : (E != 0) = true := by simpa using h0
    have e2 : (E == 0) = false := by simpa using h0
    clear hE h0 HS
    go_wp2_with fail
    go_ret2
    exact ⟨none, 0, by rw [SEQ.out] <;> rfl, by rw [SEQ.out]; exact Rd.nil, B4.out⟩
  have HS1 : Hid (S = (if chkI x = 0 then (if chkR r = 0 then (if r.nd = x.nd ∧ r.nu = x.nu then
    (if r.st = 4 then ([], 0) else if r.st = 3 then (if inK r.l x.key = true then (if hasAtU cs x.key r.at_ cs.length = true then ([], 0) else ([⟨x.key, r.at_, x.val, x.del⟩], 0)) else ([], 0)) else ([], 10))
    else ([], 2)) else ([], chkR r)) else ([], chkI x))) := Lib.hid (by rw [HS.out]; unfold stlT; rw [if_pos h0])
  rw [h0]
  clear h0 HS
  have y0 := X4.out.a.c 0 _ rfl
  have y1 := X4.out.a.c 1 _ rfl
  have y2 := X4.out.a.c 2 _ rfl
  have y3 := X4.out.a.c 3 _ rfl
  have y4 := X4.out.a.c 4 _ rfl
  have y5 := X4.out.a.c 5 _ rfl
  have y6 := X4.out.a.c 6 _ rfl
  have y7 := X4.out.a.c 7 _ rfl
  have y8 := X4.out.a.c 8 _ rfl
  have y9 := X4.out.a.c 9 _ rfl
  have y10 := X4.out.a.c 10 _ rfl
  have y11 := X4.out.a.c 11 _ rfl
  go_wp2_with fail
  refine (HCI.out w4).mono ?_
  rintro e w6 ⟨rfl, hb6⟩
  have X6 := Lib.hid (X4.out.next hb6)
  have B6 := Lib.hid (B4.out.trans (hb6.mono B4.out.size))
  clear hb6 X4 B4 y0 y1 y2 y3 y4 y5 y6 y7 y8 y9 y10 y11 HCI
  by_cases h0 : chkI x = 0
  case neg =>
    obtain ⟨E, hE⟩ : ∃ E, E = chkI x := ⟨_, rfl⟩
    have SEQ : Hid (S = ([], E)) := Lib.hid (by rw [HS1.out, if_neg h0, hE])
    rw [← hE] at h0 ⊢
    have e1 : (E != 0) = true := by simpa using h0
    have e2 : (E == 0) = false := by simpa using h0
    clear hE h0 HS1
    go_wp2_with fail
    go_ret2
    exact ⟨none, 0, by rw [SEQ.out] <;> rfl, by rw [SEQ.out]; exact Rd.nil, B6.out⟩
  have HS2 : Hid (S = (if chkR r = 0 then (if r.nd = x.nd ∧ r.nu = x.nu then
    (if r.st = 4 then ([], 0) else if r.st = 3 then (if inK r.l x.key = true then (if hasAtU cs x.key r.at_ cs.length = true then ([], 0) else ([⟨x.key, r.at_, x.val, x.del⟩], 0)) else ([], 0)) else ([], 10))
    else ([], 2)) else ([], chkR r))) := Lib.hid (by rw [HS1.out, if_pos h0])
  rw [h0]
  clear h0 HS1
  have u0 := X6.out.b.c 0 _ rfl
  have u1 := X6.out.b.c 1 _ rfl
  have u2 := X6.out.b.c 2 _ rfl
  have u3 := X6.out.b.c 3 _ rfl
  have u4 := X6.out.b.c 4 _ rfl
  have u5 := X6.out.b.c 5 _ rfl
  have u6 := X6.out.b.c 6 _ rfl
  have u7 := X6.out.b.c 7 _ rfl
  have u8 := X6.out.b.c 8 _ rfl
  have u9 := X6.out.b.c 9 _ rfl
  have u10 := X6.out.b.c 10 _ rfl
  go_wp2_with fail
  refine (HCR.out w6 B6.out).mono ?_
  rintro e w7 ⟨rfl, hb6⟩
  have X7 := Lib.hid (X6.out.next hb6)
  have B7 := Lib.hid (B6.out.trans (hb6.mono B6.out.size))
  clear hb6 X6 B6 u0 u1 u2 u3 u4 u5 u6 u7 u8 u9 u10 HCR
  by_cases h0 : chkR r = 0
  case neg =>
    obtain ⟨E, hE⟩ : ∃ E, E = chkR r := ⟨_, rfl⟩
    have SEQ : Hid (S = ([], E)) := Lib.hid (by rw [HS2.out, if_neg h0, hE])
    rw [← hE] at h0 ⊢
    have e1 : (E != 0) = true := by simpa using h0
    have e2 : (E == 0) = false := by simpa using h0
    clear hE h0 HS2
    go_wp2_with fail
    go_ret2
    exact ⟨none, 0, by rw [SEQ.out] <;> rfl, by rw [SEQ.out]; exact Rd.nil, B7.out⟩
  have HS3 : Hid (S = (if r.nd = x.nd ∧ r.nu = x.nu then
    (if r.st = 4 then ([], 0) else if r.st = 3 then (if inK r.l x.key = true then (if hasAtU cs x.key r.at_ cs.length = true then ([], 0) else ([⟨x.key, r.at_, x.val, x.del⟩], 0)) else ([], 0)) else ([], 10))
    else ([], 2))) := Lib.hid (by rw [HS2.out, if_pos h0])
  have HNR : Hid (r.n ≤ 140737488351232) := Lib.hid (by
    have h1 := h0
    unfold chkR at h1
    by_cases q : 24 < r.n
    · rw [if_pos q] at h1; cases h1
    · omega)
  rw [h0]
  clear h0 HS2
  have y0 := X7.out.a.c 0 _ rfl
  have y1 := X7.out.a.c 1 _ rfl
  have y2 := X7.out.a.c 2 _ rfl
  have u0 := X7.out.b.c 0 _ rfl
  have u1 := X7.out.b.c 1 _ rfl
  have u2 := X7.out.b.c 2 _ rfl
  have u6 := X7.out.b.c 6 _ rfl
  by_cases q1 : r.nd = x.nd
  case neg =>
    have g1 : (r.nd == x.nd) = false := by simpa using q1
    have SEQ : Hid (S = ([], 2)) := Lib.hid (by rw [HS3.out, if_neg (fun e => q1 e.1)])
    clear q1 HS3
    go_wp2_with fail
    go_ret2
    exact ⟨none, 0, by rw [SEQ.out] <;> rfl, by rw [SEQ.out]; exact Rd.nil, B7.out⟩
  have g1 : (r.nd == x.nd) = true := by simpa using q1
  by_cases q2 : r.nu = x.nu
  case neg =>
    have g2 : (r.nu == x.nu) = false := by simpa using q2
    have SEQ : Hid (S = ([], 2)) := Lib.hid (by rw [HS3.out, if_neg (fun e => q2 e.2)])
    clear q1 q2 HS3
    go_wp2_with fail
    go_ret2
    exact ⟨none, 0, by rw [SEQ.out] <;> rfl, by rw [SEQ.out]; exact Rd.nil, B7.out⟩
  have g2 : (r.nu == x.nu) = true := by simpa using q2
  have HS4 : Hid (S = (if r.st = 4 then ([], 0) else if r.st = 3 then (if inK r.l x.key = true then (if hasAtU cs x.key r.at_ cs.length = true then ([], 0) else ([⟨x.key, r.at_, x.val, x.del⟩], 0)) else ([], 0)) else ([], 10))) := Lib.hid (by rw [HS3.out, if_pos ⟨q1, q2⟩])
  clear q1 q2 HS3
  by_cases q3 : r.st = 4
  case pos =>
    have g3 : (r.st == 4) = true := by simpa using q3
    have SEQ : Hid (S = ([], 0)) := Lib.hid (by rw [HS4.out, if_pos q3])
    clear q3 HS4
    go_wp2_with fail
    go_ret2
    exact ⟨none, 0, by rw [SEQ.out] <;> rfl, by rw [SEQ.out]; exact Rd.nil, B7.out⟩
  have g3 : (r.st == 4) = false := by simpa using q3
  by_cases q4 : r.st = 3
  case neg =>
    have g4 : (r.st != 3) = true := by simpa using q4
    have SEQ : Hid (S = ([], 10)) := Lib.hid (by rw [HS4.out, if_neg q3, if_neg q4])
    clear q3 q4 HS4
    go_wp2_with fail
    go_ret2
    exact ⟨none, 0, by rw [SEQ.out] <;> rfl, by rw [SEQ.out]; exact Rd.nil, B7.out⟩
  have g4 : (r.st != 3) = false := by simpa using q4
  have HS5 : Hid (S = (if inK r.l x.key = true then (if hasAtU cs x.key r.at_ cs.length = true then ([], 0) else ([⟨x.key, r.at_, x.val, x.del⟩], 0)) else ([], 0))) := Lib.hid (by rw [HS4.out, if_neg q3, if_pos q4])
  clear q3 q4 HS4
  go_wp2_with fail
  refine (HCH.out w7 B7.out HNR.out).mono ?_
  rintro e w8 ⟨rfl, hb8⟩
  have X8 := Lib.hid (X7.out.next hb8)
  have B8 := Lib.hid (B7.out.trans (hb8.mono B7.out.size))
  clear hb8 X7 B7 y0 y1 y2 u0 u1 u2 u6 HCH g1 g2 g3 g4
  cases q5 : inK r.l x.key
  case false =>
    have SEQ : Hid (S = ([], 0)) := Lib.hid (by rw [HS5.out, if_neg (by rw [q5]; decide)])
    clear q5 HS5
    go_wp2_with fail
    go_ret2
    exact ⟨none, 0, by rw [SEQ.out] <;> rfl, by rw [SEQ.out]; exact Rd.nil, B8.out⟩
  have HS6 : Hid (S = (if hasAtU cs x.key r.at_ cs.length = true then ([], 0) else ([⟨x.key, r.at_, x.val, x.del⟩], 0))) := Lib.hid (by rw [HS5.out, if_pos q5])
  clear q5 HS5
  go_wp2_with fail
  go_loopw [51] (fun s wr => ∃ (i : Nat), s = .int .i64 (i : Int) ∧ i ≤ n ∧ Hid (hasAtU cs x.key r.at_ i = false) ∧ Hid (StB wr w.heap.size x r) ∧ Hid (Below w.heap.size w wr)) (fun s _ => n - (intOf s).toNat)
  case atStart => exact ⟨0, rfl, Nat.zero_le _, Lib.hid rfl, X8, B8⟩
  case round =>
    obtain ⟨i, rfl, hi, HN, X2, B2⟩ := hrel
    clear X8 B8
    obtain ⟨w2, rfl⟩ : ∃ x, x = wr := ⟨_, rfl⟩
    by_cases hlt : i < n
    · obtain ⟨y, hy⟩ : ∃ y, cs[i]? = some y := ⟨_, List.getElem?_eq_getElem (by rw [HL.out]; exact hlt)⟩
      obtain ⟨b, off, rfl, hb, hce⟩ := ce_at HR.out hy
      obtain ⟨d0, d1, d2, d3, d4, d5⟩ := hce.below (Nat.lt_of_lt_of_le hb hB) B2.out
      have HY := Lib.hid hy
      have zzb : b < w2.heap.size := by have := B2.out.size; omega
      have zz0 := X2.out.a.lt
      have zz1 := X2.out.b.lt
      have i1 : (i : Int) < (n : Int) := by omega
      have i0 : (0 : Int) ≤ (i : Int) := by omega
      have y0 := X2.out.a.c 0 _ rfl
      have u3 := X2.out.b.c 3 _ rfl
      have u4 := X2.out.b.c 4 _ rfl
      have u5 := X2.out.b.c 5 _ rfl
      clear hce hy
      by_cases q0 : y.key = x.key
      case neg =>
        have g0 : (y.key.toList == x.key.toList) = false := by rw [str_eq, decide_eq_false q0]
        have hne : Hid (¬ (y.key = x.key ∧ y.at_ = r.at_)) := Lib.hid (fun e => q0 e.1)
        clear q0
        have HN9 := Lib.hid (hasAtU_succ HY.out HN.out hne.out)
        have X9 := Lib.hid (X2.out.next ((Below.refl w2.heap.size w2).alloc (Nat.le_refl _) (.cells #[.string y.key, .int .i64 y.at_.wall, .int .i32 y.at_.logic, .int .i32 y.at_.tag, .string y.val, .bool y.del] 45)))
        have B9 := Lib.hid (B2.out.alloc B2.out.size (.cells #[.string y.key, .int .i64 y.at_.wall, .int .i32 y.at_.logic, .int .i32 y.at_.tag, .string y.val, .bool y.del] 45))
        clear hne HN
        go_wp2_with fail
        go_roundw
        case rel => exact ⟨i + 1, by go_num, by omega, HN9, X9, B9⟩
        case measure => simp [intOf]; omega
      have g0 : (y.key.toList == x.key.toList) = true := by rw [str_eq, decide_eq_true q0]
      have HK := Lib.hid q0
      clear q0
      by_cases q1 : y.at_.wall = r.at_.wall
      case neg =>
        have g1 : (y.at_.wall == r.at_.wall) = false := by simpa using q1
        have hne : Hid (¬ (y.key = x.key ∧ y.at_ = r.at_)) := Lib.hid (fun e => q1 (congrArg Stp.wall e.2))
        clear q1
        have HN9 := Lib.hid (hasAtU_succ HY.out HN.out hne.out)
        have X9 := Lib.hid (X2.out.next ((Below.refl w2.heap.size w2).alloc (Nat.le_refl _) (.cells #[.string y.key, .int .i64 y.at_.wall, .int .i32 y.at_.logic, .int .i32 y.at_.tag, .string y.val, .bool y.del] 45)))
        have B9 := Lib.hid (B2.out.alloc B2.out.size (.cells #[.string y.key, .int .i64 y.at_.wall, .int .i32 y.at_.logic, .int .i32 y.at_.tag, .string y.val, .bool y.del] 45))
        clear hne HN
        go_wp2_with fail
        go_roundw
        case rel => exact ⟨i + 1, by go_num, by omega, HN9, X9, B9⟩
        case measure => simp [intOf]; omega
      have g1 : (y.at_.wall == r.at_.wall) = true := by simpa using q1
      by_cases q2 : y.at_.logic = r.at_.logic
      case neg =>
        have g2 : (y.at_.logic == r.at_.logic) = false := by simpa using q2
        have hne : Hid (¬ (y.key = x.key ∧ y.at_ = r.at_)) := Lib.hid (fun e => q2 (congrArg Stp.logic e.2))
        clear q1 q2
        have HN9 := Lib.hid (hasAtU_succ HY.out HN.out hne.out)
        have X9 := Lib.hid (X2.out.next ((Below.refl w2.heap.size w2).alloc (Nat.le_refl _) (.cells #[.string y.key, .int .i64 y.at_.wall, .int .i32 y.at_.logic, .int .i32 y.at_.tag, .string y.val, .bool y.del] 45)))
        have B9 := Lib.hid (B2.out.alloc B2.out.size (.cells #[.string y.key, .int .i64 y.at_.wall, .int .i32 y.at_.logic, .int .i32 y.at_.tag, .string y.val, .bool y.del] 45))
        clear hne HN
        go_wp2_with fail
        go_roundw
        case rel => exact ⟨i + 1, by go_num, by omega, HN9, X9, B9⟩
        case measure => simp [intOf]; omega
      have g2 : (y.at_.logic == r.at_.logic) = true := by simpa using q2
      by_cases q3 : y.at_.tag = r.at_.tag
      case neg =>
        have g3 : (y.at_.tag == r.at_.tag) = false := by simpa using q3
        have hne : Hid (¬ (y.key = x.key ∧ y.at_ = r.at_)) := Lib.hid (fun e => q3 (congrArg Stp.tag e.2))
        clear q1 q2 q3
        have HN9 := Lib.hid (hasAtU_succ HY.out HN.out hne.out)
        have X9 := Lib.hid (X2.out.next ((Below.refl w2.heap.size w2).alloc (Nat.le_refl _) (.cells #[.string y.key, .int .i64 y.at_.wall, .int .i32 y.at_.logic, .int .i32 y.at_.tag, .string y.val, .bool y.del] 45)))
        have B9 := Lib.hid (B2.out.alloc B2.out.size (.cells #[.string y.key, .int .i64 y.at_.wall, .int .i32 y.at_.logic, .int .i32 y.at_.tag, .string y.val, .bool y.del] 45))
        clear hne HN
        go_wp2_with fail
        go_roundw
        case rel => exact ⟨i + 1, by go_num, by omega, HN9, X9, B9⟩
        case measure => simp [intOf]; omega
      have g3 : (y.at_.tag == r.at_.tag) = true := by simpa using q3
      have hst : y.at_ = r.at_ := by
        rcases y with ⟨_, ⟨_, _, _⟩, _, _⟩
        simp only at q1 q2 q3 ⊢
        rw [q1, q2, q3]
      have SEQ : Hid (S = ([], 0)) := Lib.hid (by rw [HS6.out, if_pos (hasAtU_yes HY.out (by rw [HL.out]; exact hlt) ⟨HK.out, hst⟩)])
      clear q1 q2 q3 hst HS6 HN
      have B9 := Lib.hid (B2.out.alloc B2.out.size (.cells #[.string y.key, .int .i64 y.at_.wall, .int .i32 y.at_.logic, .int .i32 y.at_.tag, .string y.val, .bool y.del] 45))
      go_wp2_with fail
      go_ret2
      exact ⟨none, 0, by rw [SEQ.out] <;> rfl, by rw [SEQ.out]; exact Rd.nil, B9.out⟩
    · have i1 : ¬ (i : Int) < (n : Int) := by omega
      have SEQ : Hid (S = ([⟨x.key, r.at_, x.val, x.del⟩], 0)) := Lib.hid (by rw [HS6.out, if_neg (by rw [HL.out, show n = i by omega, HN.out]; decide)])
      have y0 := X2.out.a.c 0 _ rfl
      have y10 := X2.out.a.c 10 _ rfl
      have y11 := X2.out.a.c 11 _ rfl
      have u3 := X2.out.b.c 3 _ rfl
      have u4 := X2.out.b.c 4 _ rfl
      have u5 := X2.out.b.c 5 _ rfl
      clear HS6 HN hlt
      go_wp2_with fail
      refine bodyPost_ret (v := .tuple #[.slice (some ⟨w2.heap.size, 0, none⟩) 1 1, .int .i64 0]) (by simp [results, Try.results28, go_sem]) rfl ⟨some ⟨w2.heap.size, 0, none⟩, ⟨1, by rw [SEQ.out] <;> rfl⟩, by
        rw [SEQ.out]
        exact rd_frC w2 #[.string x.key, .int .i64 r.at_.wall, .int .i32 r.at_.logic, .int .i32 r.at_.tag, .string x.val, .bool x.del] 45 (0, 0), B2.out.alloc B2.out.size _⟩
set_option maxHeartbeats 6400000 in
theorem rsettled_any (A : Option Addr) (n c : Nat) (cs : List Cel) (hl : cs.length = n) (hn : n ≤ 1000000) (x : Itt) (r : Rec) (hlr : r.l.length = r.n) (B : Nat) (w : World) (hr : Rd w B A (cev cs)) (hrr : Rd w B r.A (sv r.l)) (hB : B ≤ w.heap.size) :
    Calls Try.prog 29 #[.slice A n c, x.v, r.v] w fun e w' => ∃ A' c', e = .returned (.tuple #[.slice A' (stlT cs x r).1.length c', .int .i64 (stlT cs x r).2]) ∧ Rd w' w'.heap.size A' (cev (stlT cs x r).1) ∧ Below w.heap.size w w' := by
  have HL := Lib.hid hl
  have HR := Lib.hid hr
  have HCI := Lib.hid (ritt_any x)
  have HCR := Lib.hid (fun W (h : Below w.heap.size w W) => rreccheck_any r hlr B W (hrr.below (h.mono hB)) (Nat.le_trans hB h.size))
  have HCH := Lib.hid (fun W (h : Below w.heap.size w W) (hnr : r.n ≤ 140737488351232) => rhas_any r.A r.n r.c B r.l x.key hlr hnr W (hrr.below (h.mono hB)))
  clear hl hr hlr hrr
  obtain ⟨S, hS⟩ : ∃ S, S = stlT cs x r := ⟨_, rfl⟩
  rw [← hS]
  have HS := Lib.hid hS
  clear hS
  unfold Itt.v Rec.v
  unfold Itt.v at HCI
  unfold Rec.v at HCR
  go_enter Try.func29, Try.ntmps29
  go_wp2_with fail
  have X5 : Hid (StB ((w.alloc (.cells #[.string x.key, .int .i32 x.nd, .int .i32 x.nu, .int .i64 x.bg.wall, .int .i32 x.bg.logic, .int .i32 x.bg.tag, .string x.anc, .int .i64 x.at_.wall, .int .i32 x.at_.logic, .int .i32 x.at_.tag, .string x.val, .bool x.del] 29)).alloc (.cells #[.int .i32 r.nd, .int .i32 r.nu, .int .u8 r.st, .int .i64 r.at_.wall, .int .i32 r.at_.logic, .int .i32 r.at_.tag, .slice r.A r.n r.c, .int .i64 r.beat, .int .i64 r.pu.wall, .int .i32 r.pu.logic, .int .i32 r.pu.tag] 33)) w.heap.size x r) := Lib.hid ⟨(BxV.new w _ _).alloc _, by
    have h := BxV.new (w.alloc (.cells #[.string x.key, .int .i32 x.nd, .int .i32 x.nu, .int .i64 x.bg.wall, .int .i32 x.bg.logic, .int .i32 x.bg.tag, .string x.anc, .int .i64 x.at_.wall, .int .i32 x.at_.logic, .int .i32 x.at_.tag, .string x.val, .bool x.del] 29)) #[.int .i32 r.nd, .int .i32 r.nu, .int .u8 r.st, .int .i64 r.at_.wall, .int .i32 r.at_.logic, .int .i32 r.at_.tag, .slice r.A r.n r.c, .int .i64 r.beat, .int .i64 r.pu.wall, .int .i32 r.pu.logic, .int .i32 r.pu.tag] 33
    simp only [World.size_alloc] at h; exact h⟩
  have B5 : Hid (Below w.heap.size w ((w.alloc (.cells #[.string x.key, .int .i32 x.nd, .int .i32 x.nu, .int .i64 x.bg.wall, .int .i32 x.bg.logic, .int .i32 x.bg.tag, .string x.anc, .int .i64 x.at_.wall, .int .i32 x.at_.logic, .int .i32 x.at_.tag, .string x.val, .bool x.del] 29)).alloc (.cells #[.int .i32 r.nd, .int .i32 r.nu, .int .u8 r.st, .int .i64 r.at_.wall, .int .i32 r.at_.logic, .int .i32 r.at_.tag, .slice r.A r.n r.c, .int .i64 r.beat, .int .i64 r.pu.wall, .int .i32 r.pu.logic, .int .i32 r.pu.tag] 33))) := Lib.hid (((Below.refl _ _).alloc (Nat.le_refl _) _).alloc (by simp) _)
  generalize (w.alloc (.cells #[.string x.key, .int .i32 x.nd, .int .i32 x.nu, .int .i64 x.bg.wall, .int .i32 x.bg.logic, .int .i32 x.bg.tag, .string x.anc, .int .i64 x.at_.wall, .int .i32 x.at_.logic, .int .i32 x.at_.tag, .string x.val, .bool x.del] 29)).alloc (.cells #[.int .i32 r.nd, .int .i32 r.nu, .int .u8 r.st, .int .i64 r.at_.wall, .int .i32 r.at_.logic, .int .i32 r.at_.tag, .slice r.A r.n r.c, .int .i64 r.beat, .int .i64 r.pu.wall, .int .i32 r.pu.logic, .int .i32 r.pu.tag] 33) = w5 at *
  have hs5 := B5.out.size
  refine (rcheck24_any A n c cs HL.out (by omega) none 0 0 [] rfl (by decide) B w5 (HR.out.below (B5.out.mono hB)) Rd.nil (by omega)).mono ?_
  rintro e w4 ⟨rfl, hb6⟩
  have X4 := Lib.hid (X5.out.next hb6)
  have B4 := Lib.hid (B5.out.trans (hb6.mono B5.out.size))
  clear hb6 X5 B5 hs5
  by_cases h0 : chkCI cs [] = 0
  case neg =>
    obtain ⟨E, hE⟩ : ∃ E, E = chkCI cs [] := ⟨_, rfl⟩
    have SEQ : Hid (S = ([], E)) := Lib.hid (by rw [HS.out, hE]; unfold stlT; rw [if_neg h0])
    rw [← hE] at h0 ⊢
    have e1 : (E != 0) = true := by simpa using h0
    have e2 : (E == 0) = false := by simpa using h0
    clear hE h0 HS
    go_wp2_with fail
    go_ret2
    exact ⟨none, 0, by rw [SEQ.out] <;> rfl, by rw [SEQ.out]; exact Rd.nil, B4.out⟩
  have HS1 : Hid (S = (if chkI x = 0 then (if chkR r = 0 then (if r.nd = x.nd ∧ r.nu = x.nu then
    (if r.st = 4 then ([], 0) else if r.st = 3 then (if inK r.l x.key = true then (if hasAtU cs x.key r.at_ cs.length = true then ([], 0) else ([⟨x.key, r.at_, x.val, x.del⟩], 0)) else ([], 0)) else ([], 10))
    else ([], 2)) else ([], chkR r)) else ([], chkI x))) := Lib.hid (by rw [HS.out]; unfold stlT; rw [if_pos h0])
  rw [h0]
  clear h0 HS
  have y0 := X4.out.a.c 0 _ rfl
  have y1 := X4.out.a.c 1 _ rfl
  have y2 := X4.out.a.c 2 _ rfl
  have y3 := X4.out.a.c 3 _ rfl
  have y4 := X4.out.a.c 4 _ rfl
  have y5 := X4.out.a.c 5 _ rfl
  have y6 := X4.out.a.c 6 _ rfl
  have y7 := X4.out.a.c 7 _ rfl
  have y8 := X4.out.a.c 8 _ rfl
  have y9 := X4.out.a.c 9 _ rfl
  have y10 := X4.out.a.c 10 _ rfl
  have y11 := X4.out.a.c 11 _ rfl
  go_wp2_with fail
  refine (HCI.out w4).mono ?_
  rintro e w6 ⟨rfl, hb6⟩
  have X6 := Lib.hid (X4.out.next hb6)
  have B6 := Lib.hid (B4.out.trans (hb6.mono B4.out.size))
  clear hb6 X4 B4 y0 y1 y2 y3 y4 y5 y6 y7 y8 y9 y10 y11 HCI
  by_cases h0 : chkI x = 0
  case neg =>
    obtain ⟨E, hE⟩ : ∃ E, E = chkI x := ⟨_, rfl⟩
    have SEQ : Hid (S = ([], E)) := Lib.hid (by rw [HS1.out, if_neg h0, hE])
    rw [← hE] at h0 ⊢
    have e1 : (E != 0) = true := by simpa using h0
    have e2 : (E == 0) = false := by simpa using h0
    clear hE h0 HS1
    go_wp2_with fail
    go_ret2
    exact ⟨none, 0, by rw [SEQ.out] <;> rfl, by rw [SEQ.out]; exact Rd.nil, B6.out⟩
  have HS2 : Hid (S = (if chkR r = 0 then (if r.nd = x.nd ∧ r.nu = x.nu then
    (if r.st = 4 then ([], 0) else if r.st = 3 then (if inK r.l x.key = true then (if hasAtU cs x.key r.at_ cs.length = true then ([], 0) else ([⟨x.key, r.at_, x.val, x.del⟩], 0)) else ([], 0)) else ([], 10))
    else ([], 2)) else ([], chkR r))) := Lib.hid (by rw [HS1.out, if_pos h0])
  rw [h0]
  clear h0 HS1
  have u0 := X6.out.b.c 0 _ rfl
  have u1 := X6.out.b.c 1 _ rfl
  have u2 := X6.out.b.c 2 _ rfl
  have u3 := X6.out.b.c 3 _ rfl
  have u4 := X6.out.b.c 4 _ rfl
  have u5 := X6.out.b.c 5 _ rfl
  have u6 := X6.out.b.c 6 _ rfl
  have u7 := X6.out.b.c 7 _ rfl
  have u8 := X6.out.b.c 8 _ rfl
  have u9 := X6.out.b.c 9 _ rfl
  have u10 := X6.out.b.c 10 _ rfl
  go_wp2_with fail
  refine (HCR.out w6 B6.out).mono ?_
  rintro e w7 ⟨rfl, hb6⟩
  have X7 := Lib.hid (X6.out.next hb6)
  have B7 := Lib.hid (B6.out.trans (hb6.mono B6.out.size))
  clear hb6 X6 B6 u0 u1 u2 u3 u4 u5 u6 u7 u8 u9 u10 HCR
  by_cases h0 : chkR r = 0
  case neg =>
    obtain ⟨E, hE⟩ : ∃ E, E = chkR r := ⟨_, rfl⟩
    have SEQ : Hid (S = ([], E)) := Lib.hid (by rw [HS2.out, if_neg h0, hE])
    rw [← hE] at h0 ⊢
    have e1 : (E != 0) = true := by simpa using h0
    have e2 : (E == 0) = false := by simpa using h0
    clear hE h0 HS2
    go_wp2_with fail
    go_ret2
    exact ⟨none, 0, by rw [SEQ.out] <;> rfl, by rw [SEQ.out]; exact Rd.nil, B7.out⟩
  have HS3 : Hid (S = (if r.nd = x.nd ∧ r.nu = x.nu then
    (if r.st = 4 then ([], 0) else if r.st = 3 then (if inK r.l x.key = true then (if hasAtU cs x.key r.at_ cs.length = true then ([], 0) else ([⟨x.key, r.at_, x.val, x.del⟩], 0)) else ([], 0)) else ([], 10))
    else ([], 2))) := Lib.hid (by rw [HS2.out, if_pos h0])
  have HNR : Hid (r.n ≤ 140737488351232) := Lib.hid (by
    have h1 := h0
    unfold chkR at h1
    by_cases q : 24 < r.n
    · rw [if_pos q] at h1; cases h1
    · omega)
  rw [h0]
  clear h0 HS2
  have y0 := X7.out.a.c 0 _ rfl
  have y1 := X7.out.a.c 1 _ rfl
  have y2 := X7.out.a.c 2 _ rfl
  have u0 := X7.out.b.c 0 _ rfl
  have u1 := X7.out.b.c 1 _ rfl
  have u2 := X7.out.b.c 2 _ rfl
  have u6 := X7.out.b.c 6 _ rfl
  by_cases q1 : r.nd = x.nd
  case neg =>
    have g1 : (r.nd == x.nd) = false := by simpa using q1
    have SEQ : Hid (S = ([], 2)) := Lib.hid (by rw [HS3.out, if_neg (fun e => q1 e.1)])
    clear q1 HS3
    go_wp2_with fail
    go_ret2
    exact ⟨none, 0, by rw [SEQ.out] <;> rfl, by rw [SEQ.out]; exact Rd.nil, B7.out⟩
  have g1 : (r.nd == x.nd) = true := by simpa using q1
  by_cases q2 : r.nu = x.nu
  case neg =>
    have g2 : (r.nu == x.nu) = false := by simpa using q2
    have SEQ : Hid (S = ([], 2)) := Lib.hid (by rw [HS3.out, if_neg (fun e => q2 e.2)])
    clear q1 q2 HS3
    go_wp2_with fail
    go_ret2
    exact ⟨none, 0, by rw [SEQ.out] <;> rfl, by rw [SEQ.out]; exact Rd.nil, B7.out⟩
  have g2 : (r.nu == x.nu) = true := by simpa using q2
  have HS4 : Hid (S = (if r.st = 4 then ([], 0) else if r.st = 3 then (if inK r.l x.key = true then (if hasAtU cs x.key r.at_ cs.length = true then ([], 0) else ([⟨x.key, r.at_, x.val, x.del⟩], 0)) else ([], 0)) else ([], 10))) := Lib.hid (by rw [HS3.out, if_pos ⟨q1, q2⟩])
  clear q1 q2 HS3
  by_cases q3 : r.st = 4
  case pos =>
    have g3 : (r.st == 4) = true := by simpa using q3
    have SEQ : Hid (S = ([], 0)) := Lib.hid (by rw [HS4.out, if_pos q3])
    clear q3 HS4
    go_wp2_with fail
    go_ret2
    exact ⟨none, 0, by rw [SEQ.out] <;> rfl, by rw [SEQ.out]; exact Rd.nil, B7.out⟩
  have g3 : (r.st == 4) = false := by simpa using q3
  by_cases q4 : r.st = 3
  case neg =>
    have g4 : (r.st != 3) = true := by simpa using q4
    have SEQ : Hid (S = ([], 10)) := Lib.hid (by rw [HS4.out, if_neg q3, if_neg q4])
    clear q3 q4 HS4
    go_wp2_with fail
    go_ret2
    exact ⟨none, 0, by rw [SEQ.out] <;> rfl, by rw [SEQ.out]; exact Rd.nil, B7.out⟩
  have g4 : (r.st != 3) = false := by simpa using q4
  have HS5 : Hid (S = (if inK r.l x.key = true then (if hasAtU cs x.key r.at_ cs.length = true then ([], 0) else ([⟨x.key, r.at_, x.val, x.del⟩], 0)) else ([], 0))) := Lib.hid (by rw [HS4.out, if_neg q3, if_pos q4])
  clear q3 q4 HS4
  go_wp2_with fail
  refine (HCH.out w7 B7.out HNR.out).mono ?_
  rintro e w8 ⟨rfl, hb8⟩
  have X8 := Lib.hid (X7.out.next hb8)
  have B8 := Lib.hid (B7.out.trans (hb8.mono B7.out.size))
  clear hb8 X7 B7 y0 y1 y2 u0 u1 u2 u6 HCH g1 g2 g3 g4
  cases q5 : inK r.l x.key
  case false =>
    have SEQ : Hid (S = ([], 0)) := Lib.hid (by rw [HS5.out, if_neg (by rw [q5]; decide)])
    clear q5 HS5
    go_wp2_with fail
    go_ret2
    exact ⟨none, 0, by rw [SEQ.out] <;> rfl, by rw [SEQ.out]; exact Rd.nil, B8.out⟩
  have HS6 : Hid (S = (if hasAtU cs x.key r.at_ cs.length = true then ([], 0) else ([⟨x.key, r.at_, x.val, x.del⟩], 0))) := Lib.hid (by rw [HS5.out, if_pos q5])
  clear q5 HS5
  go_wp2_with fail
  go_loopw [9] (fun s wr => ∃ (i : Nat), s = .int .i64 (i : Int) ∧ i ≤ n ∧ Hid (hasAtU cs x.key r.at_ i = false) ∧ Hid (StB wr w.heap.size x r) ∧ Hid (Below w.heap.size w wr)) (fun s _ => n - (intOf s).toNat)
  case atStart => exact ⟨0, rfl, Nat.zero_le _, Lib.hid rfl, X8, B8⟩
  case round =>
    obtain ⟨i, rfl, hi, HN, X2, B2⟩ := hrel
    clear X8 B8
    obtain ⟨w2, rfl⟩ : ∃ x, x = wr := ⟨_, rfl⟩
    by_cases hlt : i < n
    · obtain ⟨y, hy⟩ : ∃ y, cs[i]? = some y := ⟨_, List.getElem?_eq_getElem (by rw [HL.out]; exact hlt)⟩
      obtain ⟨b, off, rfl, hb, hce⟩ := ce_at HR.out hy
      obtain ⟨d0, d1, d2, d3, d4, d5⟩ := hce.below (Nat.lt_of_lt_of_le hb hB) B2.out
      have HY := Lib.hid hy
      have zzb : b < w2.heap.size := by have := B2.out.size; omega
      have zz0 := X2.out.a.lt
      have zz1 := X2.out.b.lt
      have i1 : (i : Int) < (n : Int) := by omega
      have i0 : (0 : Int) ≤ (i : Int) := by omega
      have y0 := X2.out.a.c 0 _ rfl
      have u3 := X2.out.b.c 3 _ rfl
      have u4 := X2.out.b.c 4 _ rfl
      have u5 := X2.out.b.c 5 _ rfl
      clear hce hy
      by_cases q0 : y.key = x.key
      case neg =>
        have g0 : (y.key.toList == x.key.toList) = false := by rw [str_eq, decide_eq_false q0]
        have hne : Hid (¬ (y.key = x.key ∧ y.at_ = r.at_)) := Lib.hid (fun e => q0 e.1)
        clear q0
        have HN9 := Lib.hid (hasAtU_succ HY.out HN.out hne.out)
        clear hne HN
        go_wp2_with fail
        refine wp_qall (by kernel_rfl) (by kernel_rfl) ?_
        intro hcg
        repeat (first | go_big_quiet_step (fail) | quiet_step (fail))
        refine wpQuiet_nil ?_
        intro wq hbwq hcwq hfwq
        clear hcg
        have X9 := Lib.hid (X2.out.next hbwq)
        have B9 := Lib.hid (B2.out.trans (hbwq.mono B2.out.size))
        clear hbwq hcwq hfwq
        go_wp2_with fail
        go_roundw
        case rel => exact ⟨i + 1, by go_num, by omega, HN9, X9, B9⟩
        case measure => simp [intOf]; omega
      have g0 : (y.key.toList == x.key.toList) = true := by rw [str_eq, decide_eq_true q0]
      have HK := Lib.hid q0
      clear q0
      by_cases q1 : y.at_.wall = r.at_.wall
      case neg =>
        have g1 : (y.at_.wall == r.at_.wall) = false := by simpa using q1
        have hne : Hid (¬ (y.key = x.key ∧ y.at_ = r.at_)) := Lib.hid (fun e => q1 (congrArg Stp.wall e.2))
        clear q1
        have HN9 := Lib.hid (hasAtU_succ HY.out HN.out hne.out)
        clear hne HN
        go_wp2_with fail
        refine wp_qall (by kernel_rfl) (by kernel_rfl) ?_
        intro hcg
        repeat (first | go_big_quiet_step (fail) | quiet_step (fail))
        refine wpQuiet_nil ?_
        intro wq hbwq hcwq hfwq
        clear hcg
        have X9 := Lib.hid (X2.out.next hbwq)
        have B9 := Lib.hid (B2.out.trans (hbwq.mono B2.out.size))
        clear hbwq hcwq hfwq
        go_wp2_with fail
        go_roundw
        case rel => exact ⟨i + 1, by go_num, by omega, HN9, X9, B9⟩
        case measure => simp [intOf]; omega
      have g1 : (y.at_.wall == r.at_.wall) = true := by simpa using q1
      by_cases q2 : y.at_.logic = r.at_.logic
      case neg =>
        have g2 : (y.at_.logic == r.at_.logic) = false := by simpa using q2
        have hne : Hid (¬ (y.key = x.key ∧ y.at_ = r.at_)) := Lib.hid (fun e => q2 (congrArg Stp.logic e.2))
        clear q1 q2
        have HN9 := Lib.hid (hasAtU_succ HY.out HN.out hne.out)
        clear hne HN
        go_wp2_with fail
        refine wp_qall (by kernel_rfl) (by kernel_rfl) ?_
        intro hcg
        repeat (first | go_big_quiet_step (fail) | quiet_step (fail))
        refine wpQuiet_nil ?_
        intro wq hbwq hcwq hfwq
        clear hcg
        have X9 := Lib.hid (X2.out.next hbwq)
        have B9 := Lib.hid (B2.out.trans (hbwq.mono B2.out.size))
        clear hbwq hcwq hfwq
        go_wp2_with fail
        go_roundw
        case rel => exact ⟨i + 1, by go_num, by omega, HN9, X9, B9⟩
        case measure => simp [intOf]; omega
      have g2 : (y.at_.logic == r.at_.logic) = true := by simpa using q2
      by_cases q3 : y.at_.tag = r.at_.tag
      case neg =>
        have g3 : (y.at_.tag == r.at_.tag) = false := by simpa using q3
        have hne : Hid (¬ (y.key = x.key ∧ y.at_ = r.at_)) := Lib.hid (fun e => q3 (congrArg Stp.tag e.2))
        clear q1 q2 q3
        have HN9 := Lib.hid (hasAtU_succ HY.out HN.out hne.out)
        clear hne HN
        go_wp2_with fail
        refine wp_qall (by kernel_rfl) (by kernel_rfl) ?_
        intro hcg
        repeat (first | go_big_quiet_step (fail) | quiet_step (fail))
        refine wpQuiet_nil ?_
        intro wq hbwq hcwq hfwq
        clear hcg
        have X9 := Lib.hid (X2.out.next hbwq)
        have B9 := Lib.hid (B2.out.trans (hbwq.mono B2.out.size))
        clear hbwq hcwq hfwq
        go_wp2_with fail
        go_roundw
        case rel => exact ⟨i + 1, by go_num, by omega, HN9, X9, B9⟩
        case measure => simp [intOf]; omega
      have g3 : (y.at_.tag == r.at_.tag) = true := by simpa using q3
      have hst : y.at_ = r.at_ := by
        rcases y with ⟨_, ⟨_, _, _⟩, _, _⟩
        simp only at q1 q2 q3 ⊢
        rw [q1, q2, q3]
      have SEQ : Hid (S = ([], 0)) := Lib.hid (by rw [HS6.out, if_pos (hasAtU_yes HY.out (by rw [HL.out]; exact hlt) ⟨HK.out, hst⟩)])
      clear q1 q2 q3 hst HS6 HN
      go_wp2_with fail
      refine wp_qall (by kernel_rfl) (by kernel_rfl) ?_
      intro hcg
      repeat (first | go_big_quiet_step (fail) | quiet_step (fail))
      refine wpQuiet_nil ?_
      intro wq hbwq hcwq hfwq
      clear hcg
      have B9 := Lib.hid (B2.out.trans (hbwq.mono B2.out.size))
      clear hbwq hcwq hfwq
      go_wp2_with fail
      go_ret2
      exact ⟨none, 0, by rw [SEQ.out] <;> rfl, by rw [SEQ.out]; exact Rd.nil, B9.out⟩
    · have i1 : ¬ (i : Int) < (n : Int) := by omega
      have SEQ : Hid (S = ([⟨x.key, r.at_, x.val, x.del⟩], 0)) := Lib.hid (by rw [HS6.out, if_neg (by rw [HL.out, show n = i by omega, HN.out]; decide)])
      have y0 := X2.out.a.c 0 _ rfl
      have y10 := X2.out.a.c 10 _ rfl
      have y11 := X2.out.a.c 11 _ rfl
      have u3 := X2.out.b.c 3 _ rfl
      have u4 := X2.out.b.c 4 _ rfl
      have u5 := X2.out.b.c 5 _ rfl
      clear HS6 HN hlt
      go_wp2_with fail
      refine bodyPost_ret (v := .tuple #[.slice (some ⟨w2.heap.size, 0, none⟩) 1 1, .int .i64 0]) (by simp [results, Try.results29, go_sem]) rfl ⟨some ⟨w2.heap.size, 0, none⟩, ⟨1, by rw [SEQ.out] <;> rfl⟩, by
        rw [SEQ.out]
        exact rd_frC w2 #[.string x.key, .int .i64 r.at_.wall, .int .i32 r.at_.logic, .int .i32 r.at_.tag, .string x.val, .bool x.del] 45 (0, 0), B2.out.alloc B2.out.size _⟩
end Go.Proofs.Ytgikaglmeeeplaa
