/- The walk: the numbers and worked examples of the chapter on transaction records. -/
import Derived.Test.YthigmjcepbgljaaVu
import Derived.Test.YthigmjcepbgljaaCut
namespace Go.Proofs.Ythigmjcepbgljaa
open Go.RowKit Go.St
set_option linter.unusedVariables false
set_option linter.unusedSimpArgs false
set_option maxRecDepth 100000

theorem RdB.setR {w : World} {lo hi b : Nat} {A : Option Addr} {xs : List Value} (h : RdB w lo hi A xs) (hb : b < lo ∨ hi ≤ b) (r : Rec) : RdB (setR w b r) lo hi A xs := by
  have hc : ∀ p : Addr, b ≠ p.block → (Go.Proofs.Ythigmjcepbgljaa.setR w b r).cell? p = w.cell? p := fun p hp => by
    unfold Go.Proofs.Ythigmjcepbgljaa.setR
    simp only [World.cell?_setCell_far _ _ _ _ (show (Addr.block ⟨b, _, none⟩) ≠ p.block from hp)]
  refine ⟨by rw [size_setR]; exact h.1, fun hn => ?_⟩
  obtain ⟨b', off, e, h1, h2, h3⟩ := h.2 hn
  exact ⟨b', off, e, h1, h2, fun i v hv => (hc ⟨b', off + i, none⟩ (by show b ≠ b'; omega)).trans (h3 i v hv)⟩
def exS : Rec := ⟨1, 2, 2, ⟨9, 0, 17⟩, none, 2, 0, [tx 97, tx 98], 6, ⟨0, 0, 0⟩⟩
def nmR : Rec := freshO 1 2 5
def nmF : Rec := stageO nmR ⟨9, 0, 16⟩ 2 [tx 97, tx 98] 6
def nmP : Rec := pushO nmR ⟨9, 0, 17⟩
def nmH : Rec := stageO nmP ⟨9, 0, 17⟩ 2 [tx 97, tx 98] 6
def nmI : Rec := stageO nmP ⟨9, 1, 17⟩ 2 [tx 97, tx 98] 6
def nmJ : Rec := killO exS
def nmC : Rec := settleO exS ⟨9, 0, 17⟩ true
def nmL : Rec := settleO exS ⟨9, 1, 17⟩ true
def nmD : Rec := commitO exS ⟨9, 1, 17⟩ 2 [tx 97, tx 98]
def nmN : Rec := abortO nmD
theorem nm_ev : freshE 1 2 5 = 0 ∧ stageE nmR ⟨9, 0, 16⟩ 2 [tx 97, tx 98] 6 = 2 ∧ pushE nmR ⟨9, 0, 17⟩ = 0 ∧ stageE nmP ⟨9, 0, 17⟩ 2 [tx 97, tx 98] 6 = 322 ∧ stageE nmP ⟨9, 1, 17⟩ 2 [tx 97, tx 98] 6 = 0 ∧ killE exS = 321 ∧ settleE exS ⟨9, 0, 17⟩ = 0 ∧ settleE exS ⟨9, 1, 17⟩ = 10 ∧ commitE exS ⟨9, 1, 17⟩ 2 [tx 97, tx 98] = 0 ∧ abortE nmD = 320 := by decide +kernel
theorem nm_fits : fit nmR ∧ fit nmP ∧ fit nmD ∧ nmR.n ≤ 100 ∧ nmP.n ≤ 100 ∧ nmD.n ≤ 100 := by unfold fit; decide +kernel
theorem nm_cd : nmC.st = 3 ∧ nmC.at_.wall = 9 ∧ nmC.at_.logic = 0 ∧ nmC.at_.tag = 17 ∧ nmD.st = 3 ∧ nmD.at_.wall = 9 ∧ nmD.at_.logic = 1 ∧ nmD.at_.tag = 17 := by decide +kernel
theorem rd_of {W : World} {lo hi : Nat} {A : Option Addr} {xs : List Value} (h : RdB W lo hi A xs) : Rd W W.heap.size A xs := h.rd.more h.1
theorem nmF_is (W : World) (A : Option Addr) (c : Nat) (A2 : Option Addr) (h : Rd W W.heap.size A (sv nmR.l)) (h2 : Rd W W.heap.size A2 (sv [tx 97, tx 98])) :
    Calls Try.prog 29 #[.agg #[.int .i32 nmR.nd, .int .i32 nmR.nu, .int .u8 nmR.st, .int .i64 nmR.at_.wall, .int .i32 nmR.at_.logic, .int .i32 nmR.at_.tag, .slice A nmR.n c, .int .i64 nmR.beat, .int .i64 nmR.pu.wall, .int .i32 nmR.pu.logic, .int .i32 nmR.pu.tag], .agg #[.int .i64 9, .int .i32 0, .int .i32 16], .slice A2 2 2, .int .i64 6] W (OutR nmF 2 W) := by
  have h0 := stage_any (nmR.to A c) ⟨9, 0, 16⟩ A2 2 2 [tx 97, tx 98] 6 nm_fits.1 rfl (by omega) W.heap.size W h h2 (Nat.le_refl _)
  rw [show stageE (nmR.to A c) ⟨9, 0, 16⟩ 2 [tx 97, tx 98] 6 = 2 from nm_ev.2.1] at h0
  exact h0
theorem nmP_is (W : World) (A : Option Addr) (c : Nat) (h : Rd W W.heap.size A (sv nmR.l)) :
    Calls Try.prog 39 #[.agg #[.int .i32 nmR.nd, .int .i32 nmR.nu, .int .u8 nmR.st, .int .i64 nmR.at_.wall, .int .i32 nmR.at_.logic, .int .i32 nmR.at_.tag, .slice A nmR.n c, .int .i64 nmR.beat, .int .i64 nmR.pu.wall, .int .i32 nmR.pu.logic, .int .i32 nmR.pu.tag], .agg #[.int .i64 9, .int .i32 0, .int .i32 17]] W (OutR nmP 0 W) := by
  have h0 := push_any (nmR.to A c) ⟨9, 0, 17⟩ nm_fits.1 W.heap.size W h (Nat.le_refl _) (by have := nm_fits.2.2.2.1; show nmR.n * 16 ≤ _; omega)
  rw [show pushE (nmR.to A c) ⟨9, 0, 17⟩ = 0 from nm_ev.2.2.1] at h0
  exact h0
theorem nmH_is (W : World) (A : Option Addr) (c : Nat) (A2 : Option Addr) (h : Rd W W.heap.size A (sv nmP.l)) (h2 : Rd W W.heap.size A2 (sv [tx 97, tx 98])) :
    Calls Try.prog 29 #[.agg #[.int .i32 nmP.nd, .int .i32 nmP.nu, .int .u8 nmP.st, .int .i64 nmP.at_.wall, .int .i32 nmP.at_.logic, .int .i32 nmP.at_.tag, .slice A nmP.n c, .int .i64 nmP.beat, .int .i64 nmP.pu.wall, .int .i32 nmP.pu.logic, .int .i32 nmP.pu.tag], .agg #[.int .i64 9, .int .i32 0, .int .i32 17], .slice A2 2 2, .int .i64 6] W (OutR nmH 322 W) := by
  have h0 := stage_any (nmP.to A c) ⟨9, 0, 17⟩ A2 2 2 [tx 97, tx 98] 6 nm_fits.2.1 rfl (by omega) W.heap.size W h h2 (Nat.le_refl _)
  rw [show stageE (nmP.to A c) ⟨9, 0, 17⟩ 2 [tx 97, tx 98] 6 = 322 from nm_ev.2.2.2.1] at h0
  exact h0
theorem nmI_is (W : World) (A : Option Addr) (c : Nat) (A2 : Option Addr) (h : Rd W W.heap.size A (sv nmP.l)) (h2 : Rd W W.heap.size A2 (sv [tx 97, tx 98])) :
    Calls Try.prog 29 #[.agg #[.int .i32 nmP.nd, .int .i32 nmP.nu, .int .u8 nmP.st, .int .i64 nmP.at_.wall, .int .i32 nmP.at_.logic, .int .i32 nmP.at_.tag, .slice A nmP.n c, .int .i64 nmP.beat, .int .i64 nmP.pu.wall, .int .i32 nmP.pu.logic, .int .i32 nmP.pu.tag], .agg #[.int .i64 9, .int .i32 1, .int .i32 17], .slice A2 2 2, .int .i64 6] W (OutR nmI 0 W) := by
  have h0 := stage_any (nmP.to A c) ⟨9, 1, 17⟩ A2 2 2 [tx 97, tx 98] 6 nm_fits.2.1 rfl (by omega) W.heap.size W h h2 (Nat.le_refl _)
  rw [show stageE (nmP.to A c) ⟨9, 1, 17⟩ 2 [tx 97, tx 98] 6 = 0 from nm_ev.2.2.2.2.1] at h0
  exact h0
theorem nmJ_is (W : World) (A : Option Addr) (c : Nat) (h : Rd W W.heap.size A (sv exS.l)) :
    Calls Try.prog 40 #[.agg #[.int .i32 exS.nd, .int .i32 exS.nu, .int .u8 exS.st, .int .i64 exS.at_.wall, .int .i32 exS.at_.logic, .int .i32 exS.at_.tag, .slice A exS.n c, .int .i64 exS.beat, .int .i64 exS.pu.wall, .int .i32 exS.pu.logic, .int .i32 exS.pu.tag]] W (OutR nmJ 321 W) := by
  have h0 := kill_any (exS.to A c) rfl W.heap.size W h (Nat.le_refl _) (by show 2 * 16 ≤ _; omega)
  rw [show killE (exS.to A c) = 321 from nm_ev.2.2.2.2.2.1] at h0
  exact h0
theorem nmC_is (W : World) (A : Option Addr) (c : Nat) (h : Rd W W.heap.size A (sv exS.l)) :
    Calls Try.prog 27 #[.agg #[.int .i32 exS.nd, .int .i32 exS.nu, .int .u8 exS.st, .int .i64 exS.at_.wall, .int .i32 exS.at_.logic, .int .i32 exS.at_.tag, .slice A exS.n c, .int .i64 exS.beat, .int .i64 exS.pu.wall, .int .i32 exS.pu.logic, .int .i32 exS.pu.tag], .agg #[.int .i64 9, .int .i32 0, .int .i32 17], .bool true] W (OutR nmC 0 W) := by
  have h0 := settle_any (exS.to A c) ⟨9, 0, 17⟩ true rfl W.heap.size W h (Nat.le_refl _) (by show 2 * 16 ≤ _; omega)
  rw [show settleE (exS.to A c) ⟨9, 0, 17⟩ = 0 from nm_ev.2.2.2.2.2.2.1] at h0
  exact h0
theorem nmL_is (W : World) (A : Option Addr) (c : Nat) (h : Rd W W.heap.size A (sv exS.l)) :
    Calls Try.prog 27 #[.agg #[.int .i32 exS.nd, .int .i32 exS.nu, .int .u8 exS.st, .int .i64 exS.at_.wall, .int .i32 exS.at_.logic, .int .i32 exS.at_.tag, .slice A exS.n c, .int .i64 exS.beat, .int .i64 exS.pu.wall, .int .i32 exS.pu.logic, .int .i32 exS.pu.tag], .agg #[.int .i64 9, .int .i32 1, .int .i32 17], .bool true] W (OutR nmL 10 W) := by
  have h0 := settle_any (exS.to A c) ⟨9, 1, 17⟩ true rfl W.heap.size W h (Nat.le_refl _) (by show 2 * 16 ≤ _; omega)
  rw [show settleE (exS.to A c) ⟨9, 1, 17⟩ = 10 from nm_ev.2.2.2.2.2.2.2.1] at h0
  exact h0
theorem nmD_is (W : World) (A : Option Addr) (c : Nat) (A2 : Option Addr) (h : Rd W W.heap.size A (sv exS.l)) (h2 : Rd W W.heap.size A2 (sv [tx 97, tx 98])) :
    Calls Try.prog 30 #[.agg #[.int .i32 exS.nd, .int .i32 exS.nu, .int .u8 exS.st, .int .i64 exS.at_.wall, .int .i32 exS.at_.logic, .int .i32 exS.at_.tag, .slice A exS.n c, .int .i64 exS.beat, .int .i64 exS.pu.wall, .int .i32 exS.pu.logic, .int .i32 exS.pu.tag], .agg #[.int .i64 9, .int .i32 1, .int .i32 17], .slice A2 2 2] W (OutR nmD 0 W) := by
  have h0 := commit_any (exS.to A c) ⟨9, 1, 17⟩ A2 2 2 [tx 97, tx 98] rfl rfl (by omega) W.heap.size W h h2 (Nat.le_refl _)
  rw [show commitE (exS.to A c) ⟨9, 1, 17⟩ 2 [tx 97, tx 98] = 0 from nm_ev.2.2.2.2.2.2.2.2.1] at h0
  exact h0
theorem nmN_is (W : World) (A : Option Addr) (c : Nat) (h : Rd W W.heap.size A (sv nmD.l)) :
    Calls Try.prog 41 #[.agg #[.int .i32 nmD.nd, .int .i32 nmD.nu, .int .u8 nmD.st, .int .i64 nmD.at_.wall, .int .i32 nmD.at_.logic, .int .i32 nmD.at_.tag, .slice A nmD.n c, .int .i64 nmD.beat, .int .i64 nmD.pu.wall, .int .i32 nmD.pu.logic, .int .i32 nmD.pu.tag]] W (OutR nmN 320 W) := by
  have h0 := abort_any (nmD.to A c) nm_fits.2.2.1 W.heap.size W h (Nat.le_refl _) (by have := nm_fits.2.2.2.2.2; show nmD.n * 16 ≤ _; omega)
  rw [show abortE (nmD.to A c) = 320 from nm_ev.2.2.2.2.2.2.2.2.2] at h0
  exact h0
/-- The code behind a region, as far as it stands in one row with it. -/
def codeAfterN (i : Nat) : Code → Option Code
  | .seq (.region j ops d) b => if j = i then some b else codeAfterN i b
  | .seq a b => match codeAfterN i a with
    | some c => some c
    | none => codeAfterN i b
  | .block _ c => codeAfterN i c
  | .scope c => codeAfterN i c
  | .loop c => codeAfterN i c
  | .cond _ a b => match codeAfterN i a with
    | some c => some c
    | none => codeAfterN i b
  | _ => none
noncomputable def nmBody12 : Code := (Try.f8.body.bind (codeAfterN 12)).getD .skip
set_option maxHeartbeats 3200000 in
theorem nm_p12 {u4 u7 u9 u11 u13 u15 u19 u23 u24 u25 u26 u27 u28 u29 u30 u31 u32 u33 u34 u35 u36 u37 u38 u39 u40 u41 u42 u43 u44 u45 u46 u47 u48 u49 u50 u51 u52 u53 u54 u55 u56 u57 u58 u59 u60 u61 u62 u63 u64 u65 u66 u67 u68 u69 u70 u71 u72 u73 u74 u75 u76 u77 u78 u79 u80 u81 u82 u83 u84 u85 u86 u87 u88 u89 u90 u91 u92 u93 u94 u95 u96 u97 u98 u99 u100 u101 u102 u103 u104 u105 u106 u107 u108 u109 u110 u111 u112 u113 u114 u115 u116 u117 u118 u119 u120 u121 u122 u123 u124 u125 u126 u127 u128 u129 u130 u131 u132 u133 u134 u135 u136 u137 u138 u139 u140 u141 u142 u143 u144 u145 u146 u147 u148 u149 u150 u151 u152 u153 u154 u155 u156 u157 u158 : Value} {w w12 : World} {c10 c12 cb cs db hi10 hi12 hi4 hiT kb lo10 lo12 loT tb xb : Nat} {A10 A12 As : Option Addr} (Xtb_12 : Hid (BxQ w12 tb (exS.to As cs))) (Ktb_12 : Hid (RdB w12 loT hiT As (sv exS.l))) (P12 : Hid (Below w.heap.size w w12)) (Kky_12 : Hid (RdB w12 0 hi4 (some ⟨kb, 0, none⟩) (sv [tx 97, tx 98]))) (Xcb_12 : Hid (BxQ w12 cb (nmC.to A10 c10))) (Kcb_12 : Hid (RdB w12 lo10 hi10 A10 (sv nmC.l))) (Xdb_12 : Hid (BxQ w12 db (nmD.to A12 c12))) (Kdb_12 : Hid (RdB w12 lo12 hi12 A12 (sv nmD.l))) :
    Code.wp Try.prog nmBody12 (bodyPost Try.prog Try.f8 fun e w' => e = .returned (.bool true) ∧ Below w.heap.size w w') ⟨#[.bool false, .bool true, .pointer (some ⟨xb, 0, none⟩), .pointer (some ⟨tb, 0, none⟩), u4, .int .i64 0, .slice (some ⟨kb, 0, none⟩) 2 2, u7, .int .i64 2, u9, .int .i64 0, u11, .int .i64 322, u13, .int .i64 0, u15, .int .i64 321, .pointer (some ⟨cb, 0, none⟩), .int .i64 0, u19, .int .i64 10, .pointer (some ⟨db, 0, none⟩), .int .i64 0, u23, u24, u25, u26, u27, u28, u29, u30, u31, u32, u33, u34, u35, u36, u37, u38, u39, u40, u41, u42, u43, u44, u45, u46, u47, u48, u49, u50, u51, u52, u53, u54, u55, u56, u57, u58, u59, u60, u61, u62, u63, u64, u65, u66, u67, u68, u69, u70, u71, u72, u73, u74, u75, u76, u77, u78, u79, u80, u81, u82, u83, u84, u85, u86, u87, u88, u89, u90, u91, u92, u93, u94, u95, u96, u97, u98, u99, u100, u101, u102, u103, u104, u105, u106, u107, u108, u109, u110, u111, u112, u113, u114, u115, u116, u117, u118, u119, u120, u121, u122, u123, u124, u125, u126, u127, u128, u129, u130, u131, u132, u133, u134, u135, u136, u137, u138, u139, u140, u141, u142, u143, u144, u145, u146, u147, u148, u149, u150, u151, u152, u153, u154, u155, u156, u157, u158], []⟩ w12 := by
  conv => arg 2; whnf
  dsimp only
  go_upto_region 13 with (fail)
  obtain ⟨x0, x1, x2, x3, x4, x5, x6, x7, x8, x9, x10, x11, x12⟩ := Xdb_12.out
  try dsimp only [Rec.to] at x2 x3 x4 x5 x6 x7 x8 x9 x10 x11 x12
  go_wp2_with fail
  refine (nmN_is w12 A12 c12 (rd_of Kdb_12.out)).mono ?_
  rintro e v13 ⟨A13, c13, rfl, hk, hb⟩
  dsimp only [Rec.v, Rec.to]
  replace hk := hk.rdb
  clear x0 x1 x2 x3 x4 x5 x6 x7 x8 x9 x10 x11 x12
  have Xtb__13 := Lib.hid (Xtb_12.out.next hb); clear Xtb_12
  have Ktb__13 := Lib.hid (Ktb_12.out.next hb); clear Ktb_12
  have P_13 := Lib.hid (P12.out.trans ((hb).mono P12.out.size)); clear P12
  have Kky__13 := Lib.hid (Kky_12.out.next hb); clear Kky_12
  have Xcb__13 := Lib.hid (Xcb_12.out.next hb); clear Xcb_12
  have Kcb__13 := Lib.hid (Kcb_12.out.next hb); clear Kcb_12
  have Xdb__13 := Lib.hid (Xdb_12.out.next hb); clear Xdb_12
  have Kdb__13 := Lib.hid (Kdb_12.out.next hb); clear Kdb_12
  clear hb
  go_upto_region 14 with (fail)
  have Xtb_13 := Lib.hid (Xtb__13.out.next ((Below.refl v13.heap.size v13).alloc (Nat.le_refl _) (.cells #[.int .i32 nmN.nd, .int .i32 nmN.nu, .int .u8 nmN.st, .int .i64 nmN.at_.wall, .int .i32 nmN.at_.logic, .int .i32 nmN.at_.tag, .slice A13 nmN.n c13, .int .i64 nmN.beat, .int .i64 nmN.pu.wall, .int .i32 nmN.pu.logic, .int .i32 nmN.pu.tag] 30))); clear Xtb__13
  have Ktb_13 := Lib.hid (Ktb__13.out.next ((Below.refl v13.heap.size v13).alloc (Nat.le_refl _) (.cells #[.int .i32 nmN.nd, .int .i32 nmN.nu, .int .u8 nmN.st, .int .i64 nmN.at_.wall, .int .i32 nmN.at_.logic, .int .i32 nmN.at_.tag, .slice A13 nmN.n c13, .int .i64 nmN.beat, .int .i64 nmN.pu.wall, .int .i32 nmN.pu.logic, .int .i32 nmN.pu.tag] 30))); clear Ktb__13
  have P13 := Lib.hid (P_13.out.trans ((((Below.refl v13.heap.size v13).alloc (Nat.le_refl _) (.cells #[.int .i32 nmN.nd, .int .i32 nmN.nu, .int .u8 nmN.st, .int .i64 nmN.at_.wall, .int .i32 nmN.at_.logic, .int .i32 nmN.at_.tag, .slice A13 nmN.n c13, .int .i64 nmN.beat, .int .i64 nmN.pu.wall, .int .i32 nmN.pu.logic, .int .i32 nmN.pu.tag] 30))).mono P_13.out.size)); clear P_13
  have Kky_13 := Lib.hid (Kky__13.out.next ((Below.refl v13.heap.size v13).alloc (Nat.le_refl _) (.cells #[.int .i32 nmN.nd, .int .i32 nmN.nu, .int .u8 nmN.st, .int .i64 nmN.at_.wall, .int .i32 nmN.at_.logic, .int .i32 nmN.at_.tag, .slice A13 nmN.n c13, .int .i64 nmN.beat, .int .i64 nmN.pu.wall, .int .i32 nmN.pu.logic, .int .i32 nmN.pu.tag] 30))); clear Kky__13
  have Xcb_13 := Lib.hid (Xcb__13.out.next ((Below.refl v13.heap.size v13).alloc (Nat.le_refl _) (.cells #[.int .i32 nmN.nd, .int .i32 nmN.nu, .int .u8 nmN.st, .int .i64 nmN.at_.wall, .int .i32 nmN.at_.logic, .int .i32 nmN.at_.tag, .slice A13 nmN.n c13, .int .i64 nmN.beat, .int .i64 nmN.pu.wall, .int .i32 nmN.pu.logic, .int .i32 nmN.pu.tag] 30))); clear Xcb__13
  have Kcb_13 := Lib.hid (Kcb__13.out.next ((Below.refl v13.heap.size v13).alloc (Nat.le_refl _) (.cells #[.int .i32 nmN.nd, .int .i32 nmN.nu, .int .u8 nmN.st, .int .i64 nmN.at_.wall, .int .i32 nmN.at_.logic, .int .i32 nmN.at_.tag, .slice A13 nmN.n c13, .int .i64 nmN.beat, .int .i64 nmN.pu.wall, .int .i32 nmN.pu.logic, .int .i32 nmN.pu.tag] 30))); clear Kcb__13
  have Xdb_13 := Lib.hid (Xdb__13.out.next ((Below.refl v13.heap.size v13).alloc (Nat.le_refl _) (.cells #[.int .i32 nmN.nd, .int .i32 nmN.nu, .int .u8 nmN.st, .int .i64 nmN.at_.wall, .int .i32 nmN.at_.logic, .int .i32 nmN.at_.tag, .slice A13 nmN.n c13, .int .i64 nmN.beat, .int .i64 nmN.pu.wall, .int .i32 nmN.pu.logic, .int .i32 nmN.pu.tag] 30))); clear Xdb__13
  have Kdb_13 := Lib.hid (Kdb__13.out.next ((Below.refl v13.heap.size v13).alloc (Nat.le_refl _) (.cells #[.int .i32 nmN.nd, .int .i32 nmN.nu, .int .u8 nmN.st, .int .i64 nmN.at_.wall, .int .i32 nmN.at_.logic, .int .i32 nmN.at_.tag, .slice A13 nmN.n c13, .int .i64 nmN.beat, .int .i64 nmN.pu.wall, .int .i32 nmN.pu.logic, .int .i32 nmN.pu.tag] 30))); clear Kdb__13
  have Xnb9_13 : Hid (BxQ (v13.alloc (.cells #[.int .i32 nmN.nd, .int .i32 nmN.nu, .int .u8 nmN.st, .int .i64 nmN.at_.wall, .int .i32 nmN.at_.logic, .int .i32 nmN.at_.tag, .slice A13 nmN.n c13, .int .i64 nmN.beat, .int .i64 nmN.pu.wall, .int .i32 nmN.pu.logic, .int .i32 nmN.pu.tag] 30)) v13.heap.size (nmN.to A13 c13)) := Lib.hid (BxQ.new v13 (nmN.to A13 c13) 30)
  have Knb9_13 := Lib.hid (hk.next ((Below.refl v13.heap.size v13).alloc (Nat.le_refl _) (.cells #[.int .i32 nmN.nd, .int .i32 nmN.nu, .int .u8 nmN.st, .int .i64 nmN.at_.wall, .int .i32 nmN.at_.logic, .int .i32 nmN.at_.tag, .slice A13 nmN.n c13, .int .i64 nmN.beat, .int .i64 nmN.pu.wall, .int .i32 nmN.pu.logic, .int .i32 nmN.pu.tag] 30)))
  clear hk
  generalize hw13 : (v13.alloc (.cells #[.int .i32 nmN.nd, .int .i32 nmN.nu, .int .u8 nmN.st, .int .i64 nmN.at_.wall, .int .i32 nmN.at_.logic, .int .i32 nmN.at_.tag, .slice A13 nmN.n c13, .int .i64 nmN.beat, .int .i64 nmN.pu.wall, .int .i32 nmN.pu.logic, .int .i32 nmN.pu.tag] 30)) = w13 at *
  generalize hv13 : v13.heap.size = nb9 at *
  clear hw13 hv13
  clear Xnb9_13 Knb9_13
  obtain ⟨cd0, cd1, cd2, cd3, cd4, cd5, cd6, cd7⟩ := nm_cd
  obtain ⟨x0, x1, x2, x3, x4, x5, x6, x7, x8, x9, x10, x11, x12⟩ := Xcb_13.out
  try dsimp only [Rec.to] at x2 x3 x4 x5 x6 x7 x8 x9 x10 x11 x12
  rw [cd0] at x4; rw [cd1] at x5; rw [cd2] at x6; rw [cd3] at x7
  refine wp_qall (by kernel_rfl) (by kernel_rfl) ?_
  intro hcg
  repeat (first | go_big_quiet_step (first | with_reducible exact Calls.reg (st22_any _ _ _ _) | with_reducible exact Calls.reg (lives22_any _)) | quiet_step (first | with_reducible exact Calls.reg (st22_any _ _ _ _) | with_reducible exact Calls.reg (lives22_any _)))
  refine wpQuiet_nil ?_
  intro w14 hbw14 hcw14 hfw14
  clear hcg
  clear x0 x1 x2 x3 x4 x5 x6 x7 x8 x9 x10 x11 x12 hcw14 hfw14
  have Xtb_14 := Lib.hid (Xtb_13.out.next hbw14); clear Xtb_13
  have Ktb_14 := Lib.hid (Ktb_13.out.next hbw14); clear Ktb_13
  have P14 := Lib.hid (P13.out.trans ((hbw14).mono P13.out.size)); clear P13
  have Kky_14 := Lib.hid (Kky_13.out.next hbw14); clear Kky_13
  have Xcb_14 := Lib.hid (Xcb_13.out.next hbw14); clear Xcb_13
  have Kcb_14 := Lib.hid (Kcb_13.out.next hbw14); clear Kcb_13
  have Xdb_14 := Lib.hid (Xdb_13.out.next hbw14); clear Xdb_13
  have Kdb_14 := Lib.hid (Kdb_13.out.next hbw14); clear Kdb_13
  clear hbw14
  go_upto_region 15 with (fail)
  obtain ⟨x0, x1, x2, x3, x4, x5, x6, x7, x8, x9, x10, x11, x12⟩ := Xdb_14.out
  try dsimp only [Rec.to] at x2 x3 x4 x5 x6 x7 x8 x9 x10 x11 x12
  rw [cd4] at x4; rw [cd5] at x5; rw [cd6] at x6; rw [cd7] at x7
  refine wp_qall (by kernel_rfl) (by kernel_rfl) ?_
  intro hcg
  repeat (first | go_big_quiet_step (first | with_reducible exact Calls.reg (st22_any _ _ _ _) | with_reducible exact Calls.reg (lives22_any _)) | quiet_step (first | with_reducible exact Calls.reg (st22_any _ _ _ _) | with_reducible exact Calls.reg (lives22_any _)))
  refine wpQuiet_nil ?_
  intro w15 hbw15 hcw15 hfw15
  clear hcg
  clear x0 x1 x2 x3 x4 x5 x6 x7 x8 x9 x10 x11 x12 hcw15 hfw15
  have Xtb_15 := Lib.hid (Xtb_14.out.next hbw15); clear Xtb_14
  have Ktb_15 := Lib.hid (Ktb_14.out.next hbw15); clear Ktb_14
  have P15 := Lib.hid (P14.out.trans ((hbw15).mono P14.out.size)); clear P14
  have Kky_15 := Lib.hid (Kky_14.out.next hbw15); clear Kky_14
  have Xcb_15 := Lib.hid (Xcb_14.out.next hbw15); clear Xcb_14
  have Kcb_15 := Lib.hid (Kcb_14.out.next hbw15); clear Kcb_14
  have Xdb_15 := Lib.hid (Xdb_14.out.next hbw15); clear Xdb_14
  have Kdb_15 := Lib.hid (Kdb_14.out.next hbw15); clear Kdb_14
  clear hbw15
  go_wp2
  go_ret
  exact ⟨rfl, P15.out⟩
noncomputable def nmBody11 : Code := (Try.f8.body.bind (codeAfterN 11)).getD .skip
set_option maxHeartbeats 3200000 in
theorem nm_p11 {u4 u7 u9 u11 u13 u15 u21 u22 u23 u24 u25 u26 u27 u28 u29 u30 u31 u32 u33 u34 u35 u36 u37 u38 u39 u40 u41 u42 u43 u44 u45 u46 u47 u48 u49 u50 u51 u52 u53 u54 u55 u56 u57 u58 u59 u60 u61 u62 u63 u64 u65 u66 u67 u68 u69 u70 u71 u72 u73 u74 u75 u76 u77 u78 u79 u80 u81 u82 u83 u84 u85 u86 u87 u88 u89 u90 u91 u92 u93 u94 u95 u96 u97 u98 u99 u100 u101 u102 u103 u104 u105 u106 u107 u108 u109 u110 u111 u112 u113 u114 u115 u116 u117 u118 u119 u120 u121 u122 u123 u124 u125 u126 u127 u128 u129 u130 u131 u132 u133 u134 u135 u136 u137 u138 u139 u140 u141 u142 u143 u144 u145 u146 u147 u148 u149 u150 u151 u152 u153 u154 u155 u156 u157 u158 : Value} {w w11 : World} {c10 c11 cb cs hi10 hi11 hi4 hiT kb lb lo10 lo11 loT tb xb : Nat} {A10 A11 As : Option Addr} (Xtb_11 : Hid (BxQ w11 tb (exS.to As cs))) (Ktb_11 : Hid (RdB w11 loT hiT As (sv exS.l))) (P11 : Hid (Below w.heap.size w w11)) (Kky_11 : Hid (RdB w11 0 hi4 (some ⟨kb, 0, none⟩) (sv [tx 97, tx 98]))) (Xcb_11 : Hid (BxQ w11 cb (nmC.to A10 c10))) (Kcb_11 : Hid (RdB w11 lo10 hi10 A10 (sv nmC.l))) (Xlb_11 : Hid (BxQ w11 lb (nmL.to A11 c11))) (Klb_11 : Hid (RdB w11 lo11 hi11 A11 (sv nmL.l))) :
    Code.wp Try.prog nmBody11 (bodyPost Try.prog Try.f8 fun e w' => e = .returned (.bool true) ∧ Below w.heap.size w w') ⟨#[.bool false, .bool true, .pointer (some ⟨xb, 0, none⟩), .pointer (some ⟨tb, 0, none⟩), u4, .int .i64 0, .slice (some ⟨kb, 0, none⟩) 2 2, u7, .int .i64 2, u9, .int .i64 0, u11, .int .i64 322, u13, .int .i64 0, u15, .int .i64 321, .pointer (some ⟨cb, 0, none⟩), .int .i64 0, .pointer (some ⟨lb, 0, none⟩), .int .i64 10, u21, u22, u23, u24, u25, u26, u27, u28, u29, u30, u31, u32, u33, u34, u35, u36, u37, u38, u39, u40, u41, u42, u43, u44, u45, u46, u47, u48, u49, u50, u51, u52, u53, u54, u55, u56, u57, u58, u59, u60, u61, u62, u63, u64, u65, u66, u67, u68, u69, u70, u71, u72, u73, u74, u75, u76, u77, u78, u79, u80, u81, u82, u83, u84, u85, u86, u87, u88, u89, u90, u91, u92, u93, u94, u95, u96, u97, u98, u99, u100, u101, u102, u103, u104, u105, u106, u107, u108, u109, u110, u111, u112, u113, u114, u115, u116, u117, u118, u119, u120, u121, u122, u123, u124, u125, u126, u127, u128, u129, u130, u131, u132, u133, u134, u135, u136, u137, u138, u139, u140, u141, u142, u143, u144, u145, u146, u147, u148, u149, u150, u151, u152, u153, u154, u155, u156, u157, u158], []⟩ w11 := by
  conv => arg 2; whnf
  dsimp only
  go_upto_region 12 with (fail)
  clear Xlb_11 Klb_11
  go_cut [21, 22] from 23 (fun s7 s8 wc => ∃ b A c lo hi, s7 = .pointer (some ⟨b, 0, none⟩) ∧ s8 = .int .i64 0 ∧ Hid (BxQ wc b (nmD.to A c) ∧ RdB wc lo hi A (sv nmD.l) ∧ Below w11.heap.size w11 wc))
  case first =>
    refine wp_heldall (S := fun W => BxQ W tb (exS.to As cs)) 10 (by kernel_rfl) rfl (Xtb_11.out.next (Below.drew (Below.refl _ _))) (fun hHeld => ?_)
    have hxl : tb < w11.heap.size := Xtb_11.out.lt
    refine takeL (i := 0) (v := ?_) rfl (by kernel_rfl) (by kernel_rfl) (by kernel_rfl) (fun _ _ _ h => h) ⟨by rfl, ?_⟩ (by assumption) ?_
    rotate_left
    · intro W9 hSw
      (try dsimp only at hSw)
      obtain ⟨s0, s1, s2, s3, s4, s5, s6, s7, s8, s9, s10, s11, s12⟩ := hSw
      try dsimp only [Rec.to] at s2 s3 s4 s5 s6 s7 s8 s9 s10 s11 s12
      go_simp
      try with_reducible rfl
    (try simp only [Act.put, List.setIfInBounds_toArray, List.set_cons_zero, List.set_cons_succ])
    refine takeL (i := 2) (v := ?_) rfl (by kernel_rfl) (by kernel_rfl) (by kernel_rfl) (fun _ _ _ h => h) ⟨by rfl, ?_⟩ (by assumption) ?_
    rotate_left
    · intro W9 hSw
      (try dsimp only at hSw)
      obtain ⟨s0, s1, s2, s3, s4, s5, s6, s7, s8, s9, s10, s11, s12⟩ := hSw
      try dsimp only [Rec.to] at s2 s3 s4 s5 s6 s7 s8 s9 s10 s11 s12
      go_simp
      try with_reducible rfl
    (try simp only [Act.put, List.setIfInBounds_toArray, List.set_cons_zero, List.set_cons_succ])
    have kX : Below w11.heap.size w11 w11.drew := Below.drew (Below.refl _ _)
    have hX := hHeld
    clear hHeld
    generalize w11.drew = X at *
    refine wpAnyH_ready (rs := [1, 7]) (by kernel_rfl) (by simp) ?_
    refine consL rfl (by rfl) (fun K hK => ?_) ?_
    · skip
      go_simp
      go_at_call 38
      refine (st22_any _ _ _ _).mono ?_
      rintro e X2 ⟨rfl, hb⟩
      refine hK.out _ _ (hX.next hb) (fun hX' => ?_)
      clear hK K
      have kX2 : Below w11.heap.size w11 X2 := kX.trans (hb.mono kX.size)
      clear kX hX hb
      clear X
      obtain ⟨X, rfl⟩ : ∃ x, x = X2 := ⟨_, rfl⟩
      have kX := kX2; have hX := hX'; clear kX2 hX'
      refine wpAnyH_ready (rs := [3, 7]) (by kernel_rfl) (by simp) ?_
      refine consL rfl (by rfl) (fun K hK => ?_) ?_
      · skip
        go_simp
        go_at_call 30
        refine (nmD_is X As cs _ (rd_of (Ktb_11.out.next kX)) (rd_of (Kky_11.out.next kX))).mono ?_
        rintro e X2 ⟨A9, c9, rfl, hk9, hb⟩
        dsimp only [Rec.v, Rec.to]
        refine hK.out _ _ (hX.next hb) (fun hX' => ?_)
        clear hK K
        have kX2 : Below w11.heap.size w11 X2 := kX.trans (hb.mono kX.size)
        have hr2 := hk9.rdb
        obtain ⟨lo, hlo9⟩ : ∃ l, l = X.heap.size := ⟨_, rfl⟩
        obtain ⟨hi, hhi9⟩ : ∃ l, l = X2.heap.size := ⟨_, rfl⟩
        rw [← hlo9, ← hhi9] at hr2
        clear kX hX hb hk9 hlo9 hhi9
        clear X
        obtain ⟨X, rfl⟩ : ∃ x, x = X2 := ⟨_, rfl⟩
        have kX := kX2; have hX := hX'; have hr := hr2; clear kX2 hX' hr2
        refine takeL (i := 4) (v := ?_) rfl (by kernel_rfl) (by kernel_rfl) (by kernel_rfl) (fun _ _ _ h => h) ⟨by rfl, ?_⟩ (by assumption) ?_
        rotate_left
        · intro W9 hSw
          (try dsimp only at hSw)
          go_simp
          try with_reducible rfl
        (try simp only [Act.put, List.setIfInBounds_toArray, List.set_cons_zero, List.set_cons_succ])
        refine takeL (i := 5) (v := ?_) rfl (by kernel_rfl) (by kernel_rfl) (by kernel_rfl) (fun _ _ _ h => h) ⟨by rfl, ?_⟩ (by assumption) ?_
        rotate_left
        · intro W9 hSw
          (try dsimp only at hSw)
          go_simp
          try with_reducible rfl
        (try simp only [Act.put, List.setIfInBounds_toArray, List.set_cons_zero, List.set_cons_succ])
        refine takeL (i := 6) (v := ?_) rfl (by kernel_rfl) (by kernel_rfl) (by kernel_rfl) (fun _ _ _ h => h) ⟨by rfl, ?_⟩ (by assumption) ?_
        rotate_left
        · intro W9 hSw
          (try dsimp only at hSw)
          go_simp
          try with_reducible rfl
        (try simp only [Act.put, List.setIfInBounds_toArray, List.set_cons_zero, List.set_cons_succ])
        refine wpAnyH_ready (rs := [7]) (by kernel_rfl) (by simp) ?_
        refine consL rfl (by rfl) (fun K hK => ?_) ?_
        · skip
          go_simp
          refine hK.out _ _ (hX.alloc _) (fun hX' => ?_)
          clear hK K
          have kX2 : Below w11.heap.size w11 (X.alloc (.cells #[.int .i32 0, .int .i32 0, .int .u8 0, .int .i64 0, .int .i32 0, .int .i32 0, .slice none 0 0, .int .i64 0, .int .i64 0, .int .i32 0, .int .i32 0] 30)) := kX.alloc kX.size _
          have B2 : BxQ (X.alloc (.cells #[.int .i32 0, .int .i32 0, .int .u8 0, .int .i64 0, .int .i32 0, .int .i32 0, .slice none 0 0, .int .i64 0, .int .i64 0, .int .i32 0, .int .i32 0] 30)) X.heap.size zeR := BxQ.new X zeR 30
          have hbz : w11.heap.size ≤ X.heap.size := kX.size
          have hr2 := hr.next ((Below.refl X.heap.size X).alloc (Nat.le_refl _) (.cells #[.int .i32 0, .int .i32 0, .int .u8 0, .int .i64 0, .int .i32 0, .int .i32 0, .slice none 0 0, .int .i64 0, .int .i64 0, .int .i32 0, .int .i32 0] 30))
          have hlo : X.heap.size < lo ∨ hi ≤ X.heap.size := .inr hr.1
          clear kX hX hr
          generalize hX9 : X.alloc (.cells #[.int .i32 0, .int .i32 0, .int .u8 0, .int .i64 0, .int .i32 0, .int .i32 0, .slice none 0 0, .int .i64 0, .int .i64 0, .int .i32 0, .int .i32 0] 30) = X2 at *
          generalize hX8 : X.heap.size = nb at *
          clear hX9 hX8 X
          obtain ⟨X, rfl⟩ : ∃ x, x = X2 := ⟨_, rfl⟩
          have kX := kX2; have hX := hX'; have B := B2; clear kX2 hX' B2
          have hr := hr2; clear hr2
          refine wpAnyH_ready (rs := [8]) (by kernel_rfl) (by simp) ?_
          refine consL rfl (by rfl) (fun K hK => ?_) ?_
          · skip
            have BB := Lib.hid B; have KX := Lib.hid kX; have HRR := Lib.hid hr; clear B kX hr
            obtain ⟨z0, z1, z2, z3, z4, z5, z6, z7, z8, z9, z10, z11, z12⟩ := BB.out
            try dsimp only [Rec.to] at z2 z3 z4 z5 z6 z7 z8 z9 z10 z11 z12
            go_simp
            refine hK.out _ (setR X nb (nmD.to A9 c9)) (hX.setO nb (by omega) (nmD.to A9 c9)) (fun hX' => ?_)
            clear hK K z0 z1 z2 z3 z4 z5 z6 z7 z8 z9 z10 z11 z12
            refine takeL (i := 9) (v := ?_) rfl (by kernel_rfl) (by kernel_rfl) (by kernel_rfl) (fun _ _ _ h => h) ⟨by rfl, ?_⟩ (by assumption) ?_
            rotate_left
            · intro W9 hSw
              (try dsimp only at hSw)
              go_simp
              try with_reducible rfl
            (try simp only [Act.put, List.setIfInBounds_toArray, List.set_cons_zero, List.set_cons_succ])
            refine wpAnyH_done (by kernel_rfl) ?_ _
            clear hX hX'
            go_wp2_with fail
            go_meet
            case rel =>
              exact ⟨nb, A9, c9, lo, hi, rfl, rfl, Lib.hid ⟨BxQ.setR BB.out (nmD.to A9 c9), RdB.setR HRR.out hlo (nmD.to A9 c9), bel_setR KX.out hbz (nmD.to A9 c9)⟩⟩
          exact AllReadyH.nil
        exact AllReadyH.nil
      refine consL rfl (by rfl) (fun K hK => ?_) ?_
      · skip
        go_simp
        refine hK.out _ _ (hX.alloc _) (fun hX' => ?_)
        clear hK K
        have kX2 : Below w11.heap.size w11 (X.alloc (.cells #[.int .i32 0, .int .i32 0, .int .u8 0, .int .i64 0, .int .i32 0, .int .i32 0, .slice none 0 0, .int .i64 0, .int .i64 0, .int .i32 0, .int .i32 0] 30)) := kX.alloc kX.size _
        have B2 : BxQ (X.alloc (.cells #[.int .i32 0, .int .i32 0, .int .u8 0, .int .i64 0, .int .i32 0, .int .i32 0, .slice none 0 0, .int .i64 0, .int .i64 0, .int .i32 0, .int .i32 0] 30)) X.heap.size zeR := BxQ.new X zeR 30
        have hbz : w11.heap.size ≤ X.heap.size := kX.size
        clear kX hX
        generalize hX9 : X.alloc (.cells #[.int .i32 0, .int .i32 0, .int .u8 0, .int .i64 0, .int .i32 0, .int .i32 0, .slice none 0 0, .int .i64 0, .int .i64 0, .int .i32 0, .int .i32 0] 30) = X2 at *
        generalize hX8 : X.heap.size = nb at *
        clear hX9 hX8 X
        obtain ⟨X, rfl⟩ : ∃ x, x = X2 := ⟨_, rfl⟩
        have kX := kX2; have hX := hX'; have B := B2; clear kX2 hX' B2
        refine wpAnyH_ready (rs := [3]) (by kernel_rfl) (by simp) ?_
        refine consL rfl (by rfl) (fun K hK => ?_) ?_
        · skip
          go_simp
          go_at_call 30
          refine (nmD_is X As cs _ (rd_of (Ktb_11.out.next kX)) (rd_of (Kky_11.out.next kX))).mono ?_
          rintro e X2 ⟨A9, c9, rfl, hk9, hb⟩
          dsimp only [Rec.v, Rec.to]
          refine hK.out _ _ (hX.next hb) (fun hX' => ?_)
          clear hK K
          have kX2 : Below w11.heap.size w11 X2 := kX.trans (hb.mono kX.size)
          have hr2 := hk9.rdb
          obtain ⟨lo, hlo9⟩ : ∃ l, l = X.heap.size := ⟨_, rfl⟩
          obtain ⟨hi, hhi9⟩ : ∃ l, l = X2.heap.size := ⟨_, rfl⟩
          rw [← hlo9, ← hhi9] at hr2
          have B2 := B.next hb
          have hlo : nb < lo ∨ hi ≤ nb := .inl (by rw [hlo9]; exact B.lt)
          clear kX hX hb hk9 hlo9 hhi9 B
          clear X
          obtain ⟨X, rfl⟩ : ∃ x, x = X2 := ⟨_, rfl⟩
          have kX := kX2; have hX := hX'; have hr := hr2; clear kX2 hX' hr2
          have B := B2; clear B2
          refine takeL (i := 4) (v := ?_) rfl (by kernel_rfl) (by kernel_rfl) (by kernel_rfl) (fun _ _ _ h => h) ⟨by rfl, ?_⟩ (by assumption) ?_
          rotate_left
          · intro W9 hSw
            (try dsimp only at hSw)
            go_simp
            try with_reducible rfl
          (try simp only [Act.put, List.setIfInBounds_toArray, List.set_cons_zero, List.set_cons_succ])
          refine takeL (i := 5) (v := ?_) rfl (by kernel_rfl) (by kernel_rfl) (by kernel_rfl) (fun _ _ _ h => h) ⟨by rfl, ?_⟩ (by assumption) ?_
          rotate_left
          · intro W9 hSw
            (try dsimp only at hSw)
            go_simp
            try with_reducible rfl
          (try simp only [Act.put, List.setIfInBounds_toArray, List.set_cons_zero, List.set_cons_succ])
          refine takeL (i := 6) (v := ?_) rfl (by kernel_rfl) (by kernel_rfl) (by kernel_rfl) (fun _ _ _ h => h) ⟨by rfl, ?_⟩ (by assumption) ?_
          rotate_left
          · intro W9 hSw
            (try dsimp only at hSw)
            go_simp
            try with_reducible rfl
          (try simp only [Act.put, List.setIfInBounds_toArray, List.set_cons_zero, List.set_cons_succ])
          refine wpAnyH_ready (rs := [8]) (by kernel_rfl) (by simp) ?_
          refine consL rfl (by rfl) (fun K hK => ?_) ?_
          · skip
            have BB := Lib.hid B; have KX := Lib.hid kX; have HRR := Lib.hid hr; clear B kX hr
            obtain ⟨z0, z1, z2, z3, z4, z5, z6, z7, z8, z9, z10, z11, z12⟩ := BB.out
            try dsimp only [Rec.to] at z2 z3 z4 z5 z6 z7 z8 z9 z10 z11 z12
            go_simp
            refine hK.out _ (setR X nb (nmD.to A9 c9)) (hX.setO nb (by omega) (nmD.to A9 c9)) (fun hX' => ?_)
            clear hK K z0 z1 z2 z3 z4 z5 z6 z7 z8 z9 z10 z11 z12
            refine takeL (i := 9) (v := ?_) rfl (by kernel_rfl) (by kernel_rfl) (by kernel_rfl) (fun _ _ _ h => h) ⟨by rfl, ?_⟩ (by assumption) ?_
            rotate_left
            · intro W9 hSw
              (try dsimp only at hSw)
              go_simp
              try with_reducible rfl
            (try simp only [Act.put, List.setIfInBounds_toArray, List.set_cons_zero, List.set_cons_succ])
            refine wpAnyH_done (by kernel_rfl) ?_ _
            clear hX hX'
            go_wp2_with fail
            go_meet
            case rel =>
              exact ⟨nb, A9, c9, lo, hi, rfl, rfl, Lib.hid ⟨BxQ.setR BB.out (nmD.to A9 c9), RdB.setR HRR.out hlo (nmD.to A9 c9), bel_setR KX.out hbz (nmD.to A9 c9)⟩⟩
          exact AllReadyH.nil
        exact AllReadyH.nil
      exact AllReadyH.nil
    refine consL rfl (by rfl) (fun K hK => ?_) ?_
    · skip
      go_simp
      refine hK.out _ _ (hX.alloc _) (fun hX' => ?_)
      clear hK K
      have kX2 : Below w11.heap.size w11 (X.alloc (.cells #[.int .i32 0, .int .i32 0, .int .u8 0, .int .i64 0, .int .i32 0, .int .i32 0, .slice none 0 0, .int .i64 0, .int .i64 0, .int .i32 0, .int .i32 0] 30)) := kX.alloc kX.size _
      have B2 : BxQ (X.alloc (.cells #[.int .i32 0, .int .i32 0, .int .u8 0, .int .i64 0, .int .i32 0, .int .i32 0, .slice none 0 0, .int .i64 0, .int .i64 0, .int .i32 0, .int .i32 0] 30)) X.heap.size zeR := BxQ.new X zeR 30
      have hbz : w11.heap.size ≤ X.heap.size := kX.size
      clear kX hX
      generalize hX9 : X.alloc (.cells #[.int .i32 0, .int .i32 0, .int .u8 0, .int .i64 0, .int .i32 0, .int .i32 0, .slice none 0 0, .int .i64 0, .int .i64 0, .int .i32 0, .int .i32 0] 30) = X2 at *
      generalize hX8 : X.heap.size = nb at *
      clear hX9 hX8 X
      obtain ⟨X, rfl⟩ : ∃ x, x = X2 := ⟨_, rfl⟩
      have kX := kX2; have hX := hX'; have B := B2; clear kX2 hX' B2
      refine wpAnyH_ready (rs := [1]) (by kernel_rfl) (by simp) ?_
      refine consL rfl (by rfl) (fun K hK => ?_) ?_
      · skip
        go_simp
        go_at_call 38
        refine (st22_any _ _ _ _).mono ?_
        rintro e X2 ⟨rfl, hb⟩
        refine hK.out _ _ (hX.next hb) (fun hX' => ?_)
        clear hK K
        have kX2 : Below w11.heap.size w11 X2 := kX.trans (hb.mono kX.size)
        have B2 := B.next hb
        clear kX hX hb B
        clear X
        obtain ⟨X, rfl⟩ : ∃ x, x = X2 := ⟨_, rfl⟩
        have kX := kX2; have hX := hX'; clear kX2 hX'
        have B := B2; clear B2
        refine wpAnyH_ready (rs := [3]) (by kernel_rfl) (by simp) ?_
        refine consL rfl (by rfl) (fun K hK => ?_) ?_
        · skip
          go_simp
          go_at_call 30
          refine (nmD_is X As cs _ (rd_of (Ktb_11.out.next kX)) (rd_of (Kky_11.out.next kX))).mono ?_
          rintro e X2 ⟨A9, c9, rfl, hk9, hb⟩
          dsimp only [Rec.v, Rec.to]
          refine hK.out _ _ (hX.next hb) (fun hX' => ?_)
          clear hK K
          have kX2 : Below w11.heap.size w11 X2 := kX.trans (hb.mono kX.size)
          have hr2 := hk9.rdb
          obtain ⟨lo, hlo9⟩ : ∃ l, l = X.heap.size := ⟨_, rfl⟩
          obtain ⟨hi, hhi9⟩ : ∃ l, l = X2.heap.size := ⟨_, rfl⟩
          rw [← hlo9, ← hhi9] at hr2
          have B2 := B.next hb
          have hlo : nb < lo ∨ hi ≤ nb := .inl (by rw [hlo9]; exact B.lt)
          clear kX hX hb hk9 hlo9 hhi9 B
          clear X
          obtain ⟨X, rfl⟩ : ∃ x, x = X2 := ⟨_, rfl⟩
          have kX := kX2; have hX := hX'; have hr := hr2; clear kX2 hX' hr2
          have B := B2; clear B2
          refine takeL (i := 4) (v := ?_) rfl (by kernel_rfl) (by kernel_rfl) (by kernel_rfl) (fun _ _ _ h => h) ⟨by rfl, ?_⟩ (by assumption) ?_
          rotate_left
          · intro W9 hSw
            (try dsimp only at hSw)
            go_simp
            try with_reducible rfl
          (try simp only [Act.put, List.setIfInBounds_toArray, List.set_cons_zero, List.set_cons_succ])
          refine takeL (i := 5) (v := ?_) rfl (by kernel_rfl) (by kernel_rfl) (by kernel_rfl) (fun _ _ _ h => h) ⟨by rfl, ?_⟩ (by assumption) ?_
          rotate_left
          · intro W9 hSw
            (try dsimp only at hSw)
            go_simp
            try with_reducible rfl
          (try simp only [Act.put, List.setIfInBounds_toArray, List.set_cons_zero, List.set_cons_succ])
          refine takeL (i := 6) (v := ?_) rfl (by kernel_rfl) (by kernel_rfl) (by kernel_rfl) (fun _ _ _ h => h) ⟨by rfl, ?_⟩ (by assumption) ?_
          rotate_left
          · intro W9 hSw
            (try dsimp only at hSw)
            go_simp
            try with_reducible rfl
          (try simp only [Act.put, List.setIfInBounds_toArray, List.set_cons_zero, List.set_cons_succ])
          refine wpAnyH_ready (rs := [8]) (by kernel_rfl) (by simp) ?_
          refine consL rfl (by rfl) (fun K hK => ?_) ?_
          · skip
            have BB := Lib.hid B; have KX := Lib.hid kX; have HRR := Lib.hid hr; clear B kX hr
            obtain ⟨z0, z1, z2, z3, z4, z5, z6, z7, z8, z9, z10, z11, z12⟩ := BB.out
            try dsimp only [Rec.to] at z2 z3 z4 z5 z6 z7 z8 z9 z10 z11 z12
            go_simp
            refine hK.out _ (setR X nb (nmD.to A9 c9)) (hX.setO nb (by omega) (nmD.to A9 c9)) (fun hX' => ?_)
            clear hK K z0 z1 z2 z3 z4 z5 z6 z7 z8 z9 z10 z11 z12
            refine takeL (i := 9) (v := ?_) rfl (by kernel_rfl) (by kernel_rfl) (by kernel_rfl) (fun _ _ _ h => h) ⟨by rfl, ?_⟩ (by assumption) ?_
            rotate_left
            · intro W9 hSw
              (try dsimp only at hSw)
              go_simp
              try with_reducible rfl
            (try simp only [Act.put, List.setIfInBounds_toArray, List.set_cons_zero, List.set_cons_succ])
            refine wpAnyH_done (by kernel_rfl) ?_ _
            clear hX hX'
            go_wp2_with fail
            go_meet
            case rel =>
              exact ⟨nb, A9, c9, lo, hi, rfl, rfl, Lib.hid ⟨BxQ.setR BB.out (nmD.to A9 c9), RdB.setR HRR.out hlo (nmD.to A9 c9), bel_setR KX.out hbz (nmD.to A9 c9)⟩⟩
          exact AllReadyH.nil
        exact AllReadyH.nil
      exact AllReadyH.nil
    exact AllReadyH.nil
  case rest =>
    rename_i K9 HK9
    obtain ⟨db, A12, c12, lo12, hi12, rfl, rfl, hh⟩ := hcut
    obtain ⟨hX, hR, hB⟩ := hh.out
    obtain ⟨w12, rfl⟩ : ∃ x, x = wc := ⟨_, rfl⟩
    have Xtb_12 := Lib.hid (Xtb_11.out.next hB); clear Xtb_11
    have Ktb_12 := Lib.hid (Ktb_11.out.next hB); clear Ktb_11
    have P12 := Lib.hid (P11.out.trans ((hB).mono P11.out.size)); clear P11
    have Kky_12 := Lib.hid (Kky_11.out.next hB); clear Kky_11
    have Xcb_12 := Lib.hid (Xcb_11.out.next hB); clear Xcb_11
    have Kcb_12 := Lib.hid (Kcb_11.out.next hB); clear Kcb_11
    have Xdb_12 := Lib.hid hX; have Kdb_12 := Lib.hid hR; clear hh hX hR hB
    apply HK9
    exact nm_p12 Xtb_12 Ktb_12 P12 Kky_12 Xcb_12 Kcb_12 Xdb_12 Kdb_12
noncomputable def nmBody10 : Code := (Try.f8.body.bind (codeAfterN 10)).getD .skip
set_option maxHeartbeats 3200000 in
theorem nm_p10 {u4 u7 u9 u11 u13 u15 u19 u20 u21 u22 u23 u24 u25 u26 u27 u28 u29 u30 u31 u32 u33 u34 u35 u36 u37 u38 u39 u40 u41 u42 u43 u44 u45 u46 u47 u48 u49 u50 u51 u52 u53 u54 u55 u56 u57 u58 u59 u60 u61 u62 u63 u64 u65 u66 u67 u68 u69 u70 u71 u72 u73 u74 u75 u76 u77 u78 u79 u80 u81 u82 u83 u84 u85 u86 u87 u88 u89 u90 u91 u92 u93 u94 u95 u96 u97 u98 u99 u100 u101 u102 u103 u104 u105 u106 u107 u108 u109 u110 u111 u112 u113 u114 u115 u116 u117 u118 u119 u120 u121 u122 u123 u124 u125 u126 u127 u128 u129 u130 u131 u132 u133 u134 u135 u136 u137 u138 u139 u140 u141 u142 u143 u144 u145 u146 u147 u148 u149 u150 u151 u152 u153 u154 u155 u156 u157 u158 : Value} {w w10 : World} {c10 cb cs hi10 hi4 hiT kb lo10 loT tb xb : Nat} {A10 As : Option Addr} (Xtb_10 : Hid (BxQ w10 tb (exS.to As cs))) (Ktb_10 : Hid (RdB w10 loT hiT As (sv exS.l))) (P10 : Hid (Below w.heap.size w w10)) (Kky_10 : Hid (RdB w10 0 hi4 (some ⟨kb, 0, none⟩) (sv [tx 97, tx 98]))) (Xcb_10 : Hid (BxQ w10 cb (nmC.to A10 c10))) (Kcb_10 : Hid (RdB w10 lo10 hi10 A10 (sv nmC.l))) :
    Code.wp Try.prog nmBody10 (bodyPost Try.prog Try.f8 fun e w' => e = .returned (.bool true) ∧ Below w.heap.size w w') ⟨#[.bool false, .bool true, .pointer (some ⟨xb, 0, none⟩), .pointer (some ⟨tb, 0, none⟩), u4, .int .i64 0, .slice (some ⟨kb, 0, none⟩) 2 2, u7, .int .i64 2, u9, .int .i64 0, u11, .int .i64 322, u13, .int .i64 0, u15, .int .i64 321, .pointer (some ⟨cb, 0, none⟩), .int .i64 0, u19, u20, u21, u22, u23, u24, u25, u26, u27, u28, u29, u30, u31, u32, u33, u34, u35, u36, u37, u38, u39, u40, u41, u42, u43, u44, u45, u46, u47, u48, u49, u50, u51, u52, u53, u54, u55, u56, u57, u58, u59, u60, u61, u62, u63, u64, u65, u66, u67, u68, u69, u70, u71, u72, u73, u74, u75, u76, u77, u78, u79, u80, u81, u82, u83, u84, u85, u86, u87, u88, u89, u90, u91, u92, u93, u94, u95, u96, u97, u98, u99, u100, u101, u102, u103, u104, u105, u106, u107, u108, u109, u110, u111, u112, u113, u114, u115, u116, u117, u118, u119, u120, u121, u122, u123, u124, u125, u126, u127, u128, u129, u130, u131, u132, u133, u134, u135, u136, u137, u138, u139, u140, u141, u142, u143, u144, u145, u146, u147, u148, u149, u150, u151, u152, u153, u154, u155, u156, u157, u158], []⟩ w10 := by
  conv => arg 2; whnf
  dsimp only
  go_upto_region 11 with (fail)
  go_cut [19, 20] from 21 (fun s7 s8 wc => ∃ b A c lo hi, s7 = .pointer (some ⟨b, 0, none⟩) ∧ s8 = .int .i64 10 ∧ Hid (BxQ wc b (nmL.to A c) ∧ RdB wc lo hi A (sv nmL.l) ∧ Below w10.heap.size w10 wc))
  case first =>
    refine wp_heldall (S := fun W => BxQ W tb (exS.to As cs)) 9 (by kernel_rfl) rfl (Xtb_10.out.next (Below.drew (Below.refl _ _))) (fun hHeld => ?_)
    have hxl : tb < w10.heap.size := Xtb_10.out.lt
    refine takeL (i := 0) (v := ?_) rfl (by kernel_rfl) (by kernel_rfl) (by kernel_rfl) (fun _ _ _ h => h) ⟨by rfl, ?_⟩ (by assumption) ?_
    rotate_left
    · intro W9 hSw
      (try dsimp only at hSw)
      obtain ⟨s0, s1, s2, s3, s4, s5, s6, s7, s8, s9, s10, s11, s12⟩ := hSw
      try dsimp only [Rec.to] at s2 s3 s4 s5 s6 s7 s8 s9 s10 s11 s12
      go_simp
      try with_reducible rfl
    (try simp only [Act.put, List.setIfInBounds_toArray, List.set_cons_zero, List.set_cons_succ])
    have kX : Below w10.heap.size w10 w10.drew := Below.drew (Below.refl _ _)
    have hX := hHeld
    clear hHeld
    generalize w10.drew = X at *
    refine wpAnyH_ready (rs := [1, 6]) (by kernel_rfl) (by simp) ?_
    refine consL rfl (by rfl) (fun K hK => ?_) ?_
    · skip
      go_simp
      go_at_call 38
      refine (st22_any _ _ _ _).mono ?_
      rintro e X2 ⟨rfl, hb⟩
      refine hK.out _ _ (hX.next hb) (fun hX' => ?_)
      clear hK K
      have kX2 : Below w10.heap.size w10 X2 := kX.trans (hb.mono kX.size)
      clear kX hX hb
      clear X
      obtain ⟨X, rfl⟩ : ∃ x, x = X2 := ⟨_, rfl⟩
      have kX := kX2; have hX := hX'; clear kX2 hX'
      refine wpAnyH_ready (rs := [2, 6]) (by kernel_rfl) (by simp) ?_
      refine consL rfl (by rfl) (fun K hK => ?_) ?_
      · skip
        go_simp
        go_at_call 27
        refine (nmL_is X As cs (rd_of (Ktb_10.out.next kX))).mono ?_
        rintro e X2 ⟨A9, c9, rfl, hk9, hb⟩
        dsimp only [Rec.v, Rec.to]
        refine hK.out _ _ (hX.next hb) (fun hX' => ?_)
        clear hK K
        have kX2 : Below w10.heap.size w10 X2 := kX.trans (hb.mono kX.size)
        have hr2 := hk9.rdb
        obtain ⟨lo, hlo9⟩ : ∃ l, l = X.heap.size := ⟨_, rfl⟩
        obtain ⟨hi, hhi9⟩ : ∃ l, l = X2.heap.size := ⟨_, rfl⟩
        rw [← hlo9, ← hhi9] at hr2
        clear kX hX hb hk9 hlo9 hhi9
        clear X
        obtain ⟨X, rfl⟩ : ∃ x, x = X2 := ⟨_, rfl⟩
        have kX := kX2; have hX := hX'; have hr := hr2; clear kX2 hX' hr2
        refine takeL (i := 3) (v := ?_) rfl (by kernel_rfl) (by kernel_rfl) (by kernel_rfl) (fun _ _ _ h => h) ⟨by rfl, ?_⟩ (by assumption) ?_
        rotate_left
        · intro W9 hSw
          (try dsimp only at hSw)
          go_simp
          try with_reducible rfl
        (try simp only [Act.put, List.setIfInBounds_toArray, List.set_cons_zero, List.set_cons_succ])
        refine takeL (i := 4) (v := ?_) rfl (by kernel_rfl) (by kernel_rfl) (by kernel_rfl) (fun _ _ _ h => h) ⟨by rfl, ?_⟩ (by assumption) ?_
        rotate_left
        · intro W9 hSw
          (try dsimp only at hSw)
          go_simp
          try with_reducible rfl
        (try simp only [Act.put, List.setIfInBounds_toArray, List.set_cons_zero, List.set_cons_succ])
        refine takeL (i := 5) (v := ?_) rfl (by kernel_rfl) (by kernel_rfl) (by kernel_rfl) (fun _ _ _ h => h) ⟨by rfl, ?_⟩ (by assumption) ?_
        rotate_left
        · intro W9 hSw
          (try dsimp only at hSw)
          go_simp
          try with_reducible rfl
        (try simp only [Act.put, List.setIfInBounds_toArray, List.set_cons_zero, List.set_cons_succ])
        refine wpAnyH_ready (rs := [6]) (by kernel_rfl) (by simp) ?_
        refine consL rfl (by rfl) (fun K hK => ?_) ?_
        · skip
          go_simp
          refine hK.out _ _ (hX.alloc _) (fun hX' => ?_)
          clear hK K
          have kX2 : Below w10.heap.size w10 (X.alloc (.cells #[.int .i32 0, .int .i32 0, .int .u8 0, .int .i64 0, .int .i32 0, .int .i32 0, .slice none 0 0, .int .i64 0, .int .i64 0, .int .i32 0, .int .i32 0] 30)) := kX.alloc kX.size _
          have B2 : BxQ (X.alloc (.cells #[.int .i32 0, .int .i32 0, .int .u8 0, .int .i64 0, .int .i32 0, .int .i32 0, .slice none 0 0, .int .i64 0, .int .i64 0, .int .i32 0, .int .i32 0] 30)) X.heap.size zeR := BxQ.new X zeR 30
          have hbz : w10.heap.size ≤ X.heap.size := kX.size
          have hr2 := hr.next ((Below.refl X.heap.size X).alloc (Nat.le_refl _) (.cells #[.int .i32 0, .int .i32 0, .int .u8 0, .int .i64 0, .int .i32 0, .int .i32 0, .slice none 0 0, .int .i64 0, .int .i64 0, .int .i32 0, .int .i32 0] 30))
          have hlo : X.heap.size < lo ∨ hi ≤ X.heap.size := .inr hr.1
          clear kX hX hr
          generalize hX9 : X.alloc (.cells #[.int .i32 0, .int .i32 0, .int .u8 0, .int .i64 0, .int .i32 0, .int .i32 0, .slice none 0 0, .int .i64 0, .int .i64 0, .int .i32 0, .int .i32 0] 30) = X2 at *
          generalize hX8 : X.heap.size = nb at *
          clear hX9 hX8 X
          obtain ⟨X, rfl⟩ : ∃ x, x = X2 := ⟨_, rfl⟩
          have kX := kX2; have hX := hX'; have B := B2; clear kX2 hX' B2
          have hr := hr2; clear hr2
          refine wpAnyH_ready (rs := [7]) (by kernel_rfl) (by simp) ?_
          refine consL rfl (by rfl) (fun K hK => ?_) ?_
          · skip
            have BB := Lib.hid B; have KX := Lib.hid kX; have HRR := Lib.hid hr; clear B kX hr
            obtain ⟨z0, z1, z2, z3, z4, z5, z6, z7, z8, z9, z10, z11, z12⟩ := BB.out
            try dsimp only [Rec.to] at z2 z3 z4 z5 z6 z7 z8 z9 z10 z11 z12
            go_simp
            refine hK.out _ (setR X nb (nmL.to A9 c9)) (hX.setO nb (by omega) (nmL.to A9 c9)) (fun hX' => ?_)
            clear hK K z0 z1 z2 z3 z4 z5 z6 z7 z8 z9 z10 z11 z12
            refine takeL (i := 8) (v := ?_) rfl (by kernel_rfl) (by kernel_rfl) (by kernel_rfl) (fun _ _ _ h => h) ⟨by rfl, ?_⟩ (by assumption) ?_
            rotate_left
            · intro W9 hSw
              (try dsimp only at hSw)
              go_simp
              try with_reducible rfl
            (try simp only [Act.put, List.setIfInBounds_toArray, List.set_cons_zero, List.set_cons_succ])
            refine wpAnyH_done (by kernel_rfl) ?_ _
            clear hX hX'
            go_wp2_with fail
            go_meet
            case rel =>
              exact ⟨nb, A9, c9, lo, hi, rfl, rfl, Lib.hid ⟨BxQ.setR BB.out (nmL.to A9 c9), RdB.setR HRR.out hlo (nmL.to A9 c9), bel_setR KX.out hbz (nmL.to A9 c9)⟩⟩
          exact AllReadyH.nil
        exact AllReadyH.nil
      refine consL rfl (by rfl) (fun K hK => ?_) ?_
      · skip
        go_simp
        refine hK.out _ _ (hX.alloc _) (fun hX' => ?_)
        clear hK K
        have kX2 : Below w10.heap.size w10 (X.alloc (.cells #[.int .i32 0, .int .i32 0, .int .u8 0, .int .i64 0, .int .i32 0, .int .i32 0, .slice none 0 0, .int .i64 0, .int .i64 0, .int .i32 0, .int .i32 0] 30)) := kX.alloc kX.size _
        have B2 : BxQ (X.alloc (.cells #[.int .i32 0, .int .i32 0, .int .u8 0, .int .i64 0, .int .i32 0, .int .i32 0, .slice none 0 0, .int .i64 0, .int .i64 0, .int .i32 0, .int .i32 0] 30)) X.heap.size zeR := BxQ.new X zeR 30
        have hbz : w10.heap.size ≤ X.heap.size := kX.size
        clear kX hX
        generalize hX9 : X.alloc (.cells #[.int .i32 0, .int .i32 0, .int .u8 0, .int .i64 0, .int .i32 0, .int .i32 0, .slice none 0 0, .int .i64 0, .int .i64 0, .int .i32 0, .int .i32 0] 30) = X2 at *
        generalize hX8 : X.heap.size = nb at *
        clear hX9 hX8 X
        obtain ⟨X, rfl⟩ : ∃ x, x = X2 := ⟨_, rfl⟩
        have kX := kX2; have hX := hX'; have B := B2; clear kX2 hX' B2
        refine wpAnyH_ready (rs := [2]) (by kernel_rfl) (by simp) ?_
        refine consL rfl (by rfl) (fun K hK => ?_) ?_
        · skip
          go_simp
          go_at_call 27
          refine (nmL_is X As cs (rd_of (Ktb_10.out.next kX))).mono ?_
          rintro e X2 ⟨A9, c9, rfl, hk9, hb⟩
          dsimp only [Rec.v, Rec.to]
          refine hK.out _ _ (hX.next hb) (fun hX' => ?_)
          clear hK K
          have kX2 : Below w10.heap.size w10 X2 := kX.trans (hb.mono kX.size)
          have hr2 := hk9.rdb
          obtain ⟨lo, hlo9⟩ : ∃ l, l = X.heap.size := ⟨_, rfl⟩
          obtain ⟨hi, hhi9⟩ : ∃ l, l = X2.heap.size := ⟨_, rfl⟩
          rw [← hlo9, ← hhi9] at hr2
          have B2 := B.next hb
          have hlo : nb < lo ∨ hi ≤ nb := .inl (by rw [hlo9]; exact B.lt)
          clear kX hX hb hk9 hlo9 hhi9 B
          clear X
          obtain ⟨X, rfl⟩ : ∃ x, x = X2 := ⟨_, rfl⟩
          have kX := kX2; have hX := hX'; have hr := hr2; clear kX2 hX' hr2
          have B := B2; clear B2
          refine takeL (i := 3) (v := ?_) rfl (by kernel_rfl) (by kernel_rfl) (by kernel_rfl) (fun _ _ _ h => h) ⟨by rfl, ?_⟩ (by assumption) ?_
          rotate_left
          · intro W9 hSw
            (try dsimp only at hSw)
            go_simp
            try with_reducible rfl
          (try simp only [Act.put, List.setIfInBounds_toArray, List.set_cons_zero, List.set_cons_succ])
          refine takeL (i := 4) (v := ?_) rfl (by kernel_rfl) (by kernel_rfl) (by kernel_rfl) (fun _ _ _ h => h) ⟨by rfl, ?_⟩ (by assumption) ?_
          rotate_left
          · intro W9 hSw
            (try dsimp only at hSw)
            go_simp
            try with_reducible rfl
          (try simp only [Act.put, List.setIfInBounds_toArray, List.set_cons_zero, List.set_cons_succ])
          refine takeL (i := 5) (v := ?_) rfl (by kernel_rfl) (by kernel_rfl) (by kernel_rfl) (fun _ _ _ h => h) ⟨by rfl, ?_⟩ (by assumption) ?_
          rotate_left
          · intro W9 hSw
            (try dsimp only at hSw)
            go_simp
            try with_reducible rfl
          (try simp only [Act.put, List.setIfInBounds_toArray, List.set_cons_zero, List.set_cons_succ])
          refine wpAnyH_ready (rs := [7]) (by kernel_rfl) (by simp) ?_
          refine consL rfl (by rfl) (fun K hK => ?_) ?_
          · skip
            have BB := Lib.hid B; have KX := Lib.hid kX; have HRR := Lib.hid hr; clear B kX hr
            obtain ⟨z0, z1, z2, z3, z4, z5, z6, z7, z8, z9, z10, z11, z12⟩ := BB.out
            try dsimp only [Rec.to] at z2 z3 z4 z5 z6 z7 z8 z9 z10 z11 z12
            go_simp
            refine hK.out _ (setR X nb (nmL.to A9 c9)) (hX.setO nb (by omega) (nmL.to A9 c9)) (fun hX' => ?_)
            clear hK K z0 z1 z2 z3 z4 z5 z6 z7 z8 z9 z10 z11 z12
            refine takeL (i := 8) (v := ?_) rfl (by kernel_rfl) (by kernel_rfl) (by kernel_rfl) (fun _ _ _ h => h) ⟨by rfl, ?_⟩ (by assumption) ?_
            rotate_left
            · intro W9 hSw
              (try dsimp only at hSw)
              go_simp
              try with_reducible rfl
            (try simp only [Act.put, List.setIfInBounds_toArray, List.set_cons_zero, List.set_cons_succ])
            refine wpAnyH_done (by kernel_rfl) ?_ _
            clear hX hX'
            go_wp2_with fail
            go_meet
            case rel =>
              exact ⟨nb, A9, c9, lo, hi, rfl, rfl, Lib.hid ⟨BxQ.setR BB.out (nmL.to A9 c9), RdB.setR HRR.out hlo (nmL.to A9 c9), bel_setR KX.out hbz (nmL.to A9 c9)⟩⟩
          exact AllReadyH.nil
        exact AllReadyH.nil
      exact AllReadyH.nil
    refine consL rfl (by rfl) (fun K hK => ?_) ?_
    · skip
      go_simp
      refine hK.out _ _ (hX.alloc _) (fun hX' => ?_)
      clear hK K
      have kX2 : Below w10.heap.size w10 (X.alloc (.cells #[.int .i32 0, .int .i32 0, .int .u8 0, .int .i64 0, .int .i32 0, .int .i32 0, .slice none 0 0, .int .i64 0, .int .i64 0, .int .i32 0, .int .i32 0] 30)) := kX.alloc kX.size _
      have B2 : BxQ (X.alloc (.cells #[.int .i32 0, .int .i32 0, .int .u8 0, .int .i64 0, .int .i32 0, .int .i32 0, .slice none 0 0, .int .i64 0, .int .i64 0, .int .i32 0, .int .i32 0] 30)) X.heap.size zeR := BxQ.new X zeR 30
      have hbz : w10.heap.size ≤ X.heap.size := kX.size
      clear kX hX
      generalize hX9 : X.alloc (.cells #[.int .i32 0, .int .i32 0, .int .u8 0, .int .i64 0, .int .i32 0, .int .i32 0, .slice none 0 0, .int .i64 0, .int .i64 0, .int .i32 0, .int .i32 0] 30) = X2 at *
      generalize hX8 : X.heap.size = nb at *
      clear hX9 hX8 X
      obtain ⟨X, rfl⟩ : ∃ x, x = X2 := ⟨_, rfl⟩
      have kX := kX2; have hX := hX'; have B := B2; clear kX2 hX' B2
      refine wpAnyH_ready (rs := [1]) (by kernel_rfl) (by simp) ?_
      refine consL rfl (by rfl) (fun K hK => ?_) ?_
      · skip
        go_simp
        go_at_call 38
        refine (st22_any _ _ _ _).mono ?_
        rintro e X2 ⟨rfl, hb⟩
        refine hK.out _ _ (hX.next hb) (fun hX' => ?_)
        clear hK K
        have kX2 : Below w10.heap.size w10 X2 := kX.trans (hb.mono kX.size)
        have B2 := B.next hb
        clear kX hX hb B
        clear X
        obtain ⟨X, rfl⟩ : ∃ x, x = X2 := ⟨_, rfl⟩
        have kX := kX2; have hX := hX'; clear kX2 hX'
        have B := B2; clear B2
        refine wpAnyH_ready (rs := [2]) (by kernel_rfl) (by simp) ?_
        refine consL rfl (by rfl) (fun K hK => ?_) ?_
        · skip
          go_simp
          go_at_call 27
          refine (nmL_is X As cs (rd_of (Ktb_10.out.next kX))).mono ?_
          rintro e X2 ⟨A9, c9, rfl, hk9, hb⟩
          dsimp only [Rec.v, Rec.to]
          refine hK.out _ _ (hX.next hb) (fun hX' => ?_)
          clear hK K
          have kX2 : Below w10.heap.size w10 X2 := kX.trans (hb.mono kX.size)
          have hr2 := hk9.rdb
          obtain ⟨lo, hlo9⟩ : ∃ l, l = X.heap.size := ⟨_, rfl⟩
          obtain ⟨hi, hhi9⟩ : ∃ l, l = X2.heap.size := ⟨_, rfl⟩
          rw [← hlo9, ← hhi9] at hr2
          have B2 := B.next hb
          have hlo : nb < lo ∨ hi ≤ nb := .inl (by rw [hlo9]; exact B.lt)
          clear kX hX hb hk9 hlo9 hhi9 B
          clear X
          obtain ⟨X, rfl⟩ : ∃ x, x = X2 := ⟨_, rfl⟩
          have kX := kX2; have hX := hX'; have hr := hr2; clear kX2 hX' hr2
          have B := B2; clear B2
          refine takeL (i := 3) (v := ?_) rfl (by kernel_rfl) (by kernel_rfl) (by kernel_rfl) (fun _ _ _ h => h) ⟨by rfl, ?_⟩ (by assumption) ?_
          rotate_left
          · intro W9 hSw
            (try dsimp only at hSw)
            go_simp
            try with_reducible rfl
          (try simp only [Act.put, List.setIfInBounds_toArray, List.set_cons_zero, List.set_cons_succ])
          refine takeL (i := 4) (v := ?_) rfl (by kernel_rfl) (by kernel_rfl) (by kernel_rfl) (fun _ _ _ h => h) ⟨by rfl, ?_⟩ (by assumption) ?_
          rotate_left
          · intro W9 hSw
            (try dsimp only at hSw)
            go_simp
            try with_reducible rfl
          (try simp only [Act.put, List.setIfInBounds_toArray, List.set_cons_zero, List.set_cons_succ])
          refine takeL (i := 5) (v := ?_) rfl (by kernel_rfl) (by kernel_rfl) (by kernel_rfl) (fun _ _ _ h => h) ⟨by rfl, ?_⟩ (by assumption) ?_
          rotate_left
          · intro W9 hSw
            (try dsimp only at hSw)
            go_simp
            try with_reducible rfl
          (try simp only [Act.put, List.setIfInBounds_toArray, List.set_cons_zero, List.set_cons_succ])
          refine wpAnyH_ready (rs := [7]) (by kernel_rfl) (by simp) ?_
          refine consL rfl (by rfl) (fun K hK => ?_) ?_
          · skip
            have BB := Lib.hid B; have KX := Lib.hid kX; have HRR := Lib.hid hr; clear B kX hr
            obtain ⟨z0, z1, z2, z3, z4, z5, z6, z7, z8, z9, z10, z11, z12⟩ := BB.out
            try dsimp only [Rec.to] at z2 z3 z4 z5 z6 z7 z8 z9 z10 z11 z12
            go_simp
            refine hK.out _ (setR X nb (nmL.to A9 c9)) (hX.setO nb (by omega) (nmL.to A9 c9)) (fun hX' => ?_)
            clear hK K z0 z1 z2 z3 z4 z5 z6 z7 z8 z9 z10 z11 z12
            refine takeL (i := 8) (v := ?_) rfl (by kernel_rfl) (by kernel_rfl) (by kernel_rfl) (fun _ _ _ h => h) ⟨by rfl, ?_⟩ (by assumption) ?_
            rotate_left
            · intro W9 hSw
              (try dsimp only at hSw)
              go_simp
              try with_reducible rfl
            (try simp only [Act.put, List.setIfInBounds_toArray, List.set_cons_zero, List.set_cons_succ])
            refine wpAnyH_done (by kernel_rfl) ?_ _
            clear hX hX'
            go_wp2_with fail
            go_meet
            case rel =>
              exact ⟨nb, A9, c9, lo, hi, rfl, rfl, Lib.hid ⟨BxQ.setR BB.out (nmL.to A9 c9), RdB.setR HRR.out hlo (nmL.to A9 c9), bel_setR KX.out hbz (nmL.to A9 c9)⟩⟩
          exact AllReadyH.nil
        exact AllReadyH.nil
      exact AllReadyH.nil
    exact AllReadyH.nil
  case rest =>
    rename_i K9 HK9
    obtain ⟨lb, A11, c11, lo11, hi11, rfl, rfl, hh⟩ := hcut
    obtain ⟨hX, hR, hB⟩ := hh.out
    obtain ⟨w11, rfl⟩ : ∃ x, x = wc := ⟨_, rfl⟩
    have Xtb_11 := Lib.hid (Xtb_10.out.next hB); clear Xtb_10
    have Ktb_11 := Lib.hid (Ktb_10.out.next hB); clear Ktb_10
    have P11 := Lib.hid (P10.out.trans ((hB).mono P10.out.size)); clear P10
    have Kky_11 := Lib.hid (Kky_10.out.next hB); clear Kky_10
    have Xcb_11 := Lib.hid (Xcb_10.out.next hB); clear Xcb_10
    have Kcb_11 := Lib.hid (Kcb_10.out.next hB); clear Kcb_10
    have Xlb_11 := Lib.hid hX; have Klb_11 := Lib.hid hR; clear hh hX hR hB
    apply HK9
    exact nm_p11 Xtb_11 Ktb_11 P11 Kky_11 Xcb_11 Kcb_11 Xlb_11 Klb_11
noncomputable def nmBody8 : Code := (Try.f8.body.bind (codeAfterN 8)).getD .skip
set_option maxHeartbeats 3200000 in
theorem nm_p8 {u4 u7 u11 u15 u16 u17 u18 u19 u20 u21 u22 u23 u24 u25 u26 u27 u28 u29 u30 u31 u32 u33 u34 u35 u36 u37 u38 u39 u40 u41 u42 u43 u44 u45 u46 u47 u48 u49 u50 u51 u52 u53 u54 u55 u56 u57 u58 u59 u60 u61 u62 u63 u64 u65 u66 u67 u68 u69 u70 u71 u72 u73 u74 u75 u76 u77 u78 u79 u80 u81 u82 u83 u84 u85 u86 u87 u88 u89 u90 u91 u92 u93 u94 u95 u96 u97 u98 u99 u100 u101 u102 u103 u104 u105 u106 u107 u108 u109 u110 u111 u112 u113 u114 u115 u116 u117 u118 u119 u120 u121 u122 u123 u124 u125 u126 u127 u128 u129 u130 u131 u132 u133 u134 u135 u136 u137 u138 u139 u140 u141 u142 u143 u144 u145 u146 u147 u148 u149 u150 u151 u152 u153 u154 u155 u156 u157 u158 : Value} {w w8 : World} {c6 c8 cs hi4 hi6 hi8 hiT ib kb lo6 lo8 loT pb tb xb : Nat} {A6 A8 As : Option Addr} (Xtb_8 : Hid (BxQ w8 tb (exS.to As cs))) (Ktb_8 : Hid (RdB w8 loT hiT As (sv exS.l))) (P8 : Hid (Below w.heap.size w w8)) (Kky_8 : Hid (RdB w8 0 hi4 (some ⟨kb, 0, none⟩) (sv [tx 97, tx 98]))) (Xpb_8 : Hid (BxQ w8 pb (nmP.to A6 c6))) (Kpb_8 : Hid (RdB w8 lo6 hi6 A6 (sv nmP.l))) (Xib_8 : Hid (BxQ w8 ib (nmI.to A8 c8))) (Kib_8 : Hid (RdB w8 lo8 hi8 A8 (sv nmI.l))) :
    Code.wp Try.prog nmBody8 (bodyPost Try.prog Try.f8 fun e w' => e = .returned (.bool true) ∧ Below w.heap.size w w') ⟨#[.bool false, .bool true, .pointer (some ⟨xb, 0, none⟩), .pointer (some ⟨tb, 0, none⟩), u4, .int .i64 0, .slice (some ⟨kb, 0, none⟩) 2 2, u7, .int .i64 2, .pointer (some ⟨pb, 0, none⟩), .int .i64 0, u11, .int .i64 322, .pointer (some ⟨ib, 0, none⟩), .int .i64 0, u15, u16, u17, u18, u19, u20, u21, u22, u23, u24, u25, u26, u27, u28, u29, u30, u31, u32, u33, u34, u35, u36, u37, u38, u39, u40, u41, u42, u43, u44, u45, u46, u47, u48, u49, u50, u51, u52, u53, u54, u55, u56, u57, u58, u59, u60, u61, u62, u63, u64, u65, u66, u67, u68, u69, u70, u71, u72, u73, u74, u75, u76, u77, u78, u79, u80, u81, u82, u83, u84, u85, u86, u87, u88, u89, u90, u91, u92, u93, u94, u95, u96, u97, u98, u99, u100, u101, u102, u103, u104, u105, u106, u107, u108, u109, u110, u111, u112, u113, u114, u115, u116, u117, u118, u119, u120, u121, u122, u123, u124, u125, u126, u127, u128, u129, u130, u131, u132, u133, u134, u135, u136, u137, u138, u139, u140, u141, u142, u143, u144, u145, u146, u147, u148, u149, u150, u151, u152, u153, u154, u155, u156, u157, u158], []⟩ w8 := by
  conv => arg 2; whnf
  dsimp only
  go_upto_region 9 with (fail)
  clear Xib_8 Kib_8
  clear Xpb_8 Kpb_8
  obtain ⟨x0, x1, x2, x3, x4, x5, x6, x7, x8, x9, x10, x11, x12⟩ := Xtb_8.out
  try dsimp only [Rec.to] at x2 x3 x4 x5 x6 x7 x8 x9 x10 x11 x12
  go_wp2_with fail
  refine (nmJ_is w8 As cs (rd_of Ktb_8.out)).mono ?_
  rintro e v9 ⟨A9, c9, rfl, hk, hb⟩
  dsimp only [Rec.v, Rec.to]
  replace hk := hk.rdb
  clear x0 x1 x2 x3 x4 x5 x6 x7 x8 x9 x10 x11 x12
  have Xtb__9 := Lib.hid (Xtb_8.out.next hb); clear Xtb_8
  have Ktb__9 := Lib.hid (Ktb_8.out.next hb); clear Ktb_8
  have P_9 := Lib.hid (P8.out.trans ((hb).mono P8.out.size)); clear P8
  have Kky__9 := Lib.hid (Kky_8.out.next hb); clear Kky_8
  clear hb
  go_upto_region 10 with (fail)
  have Xtb_9 := Lib.hid (Xtb__9.out.next ((Below.refl v9.heap.size v9).alloc (Nat.le_refl _) (.cells #[.int .i32 nmJ.nd, .int .i32 nmJ.nu, .int .u8 nmJ.st, .int .i64 nmJ.at_.wall, .int .i32 nmJ.at_.logic, .int .i32 nmJ.at_.tag, .slice A9 nmJ.n c9, .int .i64 nmJ.beat, .int .i64 nmJ.pu.wall, .int .i32 nmJ.pu.logic, .int .i32 nmJ.pu.tag] 30))); clear Xtb__9
  have Ktb_9 := Lib.hid (Ktb__9.out.next ((Below.refl v9.heap.size v9).alloc (Nat.le_refl _) (.cells #[.int .i32 nmJ.nd, .int .i32 nmJ.nu, .int .u8 nmJ.st, .int .i64 nmJ.at_.wall, .int .i32 nmJ.at_.logic, .int .i32 nmJ.at_.tag, .slice A9 nmJ.n c9, .int .i64 nmJ.beat, .int .i64 nmJ.pu.wall, .int .i32 nmJ.pu.logic, .int .i32 nmJ.pu.tag] 30))); clear Ktb__9
  have P9 := Lib.hid (P_9.out.trans ((((Below.refl v9.heap.size v9).alloc (Nat.le_refl _) (.cells #[.int .i32 nmJ.nd, .int .i32 nmJ.nu, .int .u8 nmJ.st, .int .i64 nmJ.at_.wall, .int .i32 nmJ.at_.logic, .int .i32 nmJ.at_.tag, .slice A9 nmJ.n c9, .int .i64 nmJ.beat, .int .i64 nmJ.pu.wall, .int .i32 nmJ.pu.logic, .int .i32 nmJ.pu.tag] 30))).mono P_9.out.size)); clear P_9
  have Kky_9 := Lib.hid (Kky__9.out.next ((Below.refl v9.heap.size v9).alloc (Nat.le_refl _) (.cells #[.int .i32 nmJ.nd, .int .i32 nmJ.nu, .int .u8 nmJ.st, .int .i64 nmJ.at_.wall, .int .i32 nmJ.at_.logic, .int .i32 nmJ.at_.tag, .slice A9 nmJ.n c9, .int .i64 nmJ.beat, .int .i64 nmJ.pu.wall, .int .i32 nmJ.pu.logic, .int .i32 nmJ.pu.tag] 30))); clear Kky__9
  have Xjb_9 : Hid (BxQ (v9.alloc (.cells #[.int .i32 nmJ.nd, .int .i32 nmJ.nu, .int .u8 nmJ.st, .int .i64 nmJ.at_.wall, .int .i32 nmJ.at_.logic, .int .i32 nmJ.at_.tag, .slice A9 nmJ.n c9, .int .i64 nmJ.beat, .int .i64 nmJ.pu.wall, .int .i32 nmJ.pu.logic, .int .i32 nmJ.pu.tag] 30)) v9.heap.size (nmJ.to A9 c9)) := Lib.hid (BxQ.new v9 (nmJ.to A9 c9) 30)
  have Kjb_9 := Lib.hid (hk.next ((Below.refl v9.heap.size v9).alloc (Nat.le_refl _) (.cells #[.int .i32 nmJ.nd, .int .i32 nmJ.nu, .int .u8 nmJ.st, .int .i64 nmJ.at_.wall, .int .i32 nmJ.at_.logic, .int .i32 nmJ.at_.tag, .slice A9 nmJ.n c9, .int .i64 nmJ.beat, .int .i64 nmJ.pu.wall, .int .i32 nmJ.pu.logic, .int .i32 nmJ.pu.tag] 30)))
  clear hk
  generalize hw9 : (v9.alloc (.cells #[.int .i32 nmJ.nd, .int .i32 nmJ.nu, .int .u8 nmJ.st, .int .i64 nmJ.at_.wall, .int .i32 nmJ.at_.logic, .int .i32 nmJ.at_.tag, .slice A9 nmJ.n c9, .int .i64 nmJ.beat, .int .i64 nmJ.pu.wall, .int .i32 nmJ.pu.logic, .int .i32 nmJ.pu.tag] 30)) = w9 at *
  generalize hv9 : v9.heap.size = jb at *
  clear hw9 hv9
  clear Xjb_9 Kjb_9
  go_cut [17, 18] from 19 (fun s7 s8 wc => ∃ b A c lo hi, s7 = .pointer (some ⟨b, 0, none⟩) ∧ s8 = .int .i64 0 ∧ Hid (BxQ wc b (nmC.to A c) ∧ RdB wc lo hi A (sv nmC.l) ∧ Below w9.heap.size w9 wc))
  case first =>
    refine wp_heldall (S := fun W => BxQ W tb (exS.to As cs)) 9 (by kernel_rfl) rfl (Xtb_9.out.next (Below.drew (Below.refl _ _))) (fun hHeld => ?_)
    have hxl : tb < w9.heap.size := Xtb_9.out.lt
    refine takeL (i := 0) (v := ?_) rfl (by kernel_rfl) (by kernel_rfl) (by kernel_rfl) (fun _ _ _ h => h) ⟨by rfl, ?_⟩ (by assumption) ?_
    rotate_left
    · intro W9 hSw
      (try dsimp only at hSw)
      obtain ⟨s0, s1, s2, s3, s4, s5, s6, s7, s8, s9, s10, s11, s12⟩ := hSw
      try dsimp only [Rec.to] at s2 s3 s4 s5 s6 s7 s8 s9 s10 s11 s12
      go_simp
      try with_reducible rfl
    (try simp only [Act.put, List.setIfInBounds_toArray, List.set_cons_zero, List.set_cons_succ])
    have kX : Below w9.heap.size w9 w9.drew := Below.drew (Below.refl _ _)
    have hX := hHeld
    clear hHeld
    generalize w9.drew = X at *
    refine wpAnyH_ready (rs := [1, 6]) (by kernel_rfl) (by simp) ?_
    refine consL rfl (by rfl) (fun K hK => ?_) ?_
    · skip
      go_simp
      go_at_call 38
      refine (st22_any _ _ _ _).mono ?_
      rintro e X2 ⟨rfl, hb⟩
      refine hK.out _ _ (hX.next hb) (fun hX' => ?_)
      clear hK K
      have kX2 : Below w9.heap.size w9 X2 := kX.trans (hb.mono kX.size)
      clear kX hX hb
      clear X
      obtain ⟨X, rfl⟩ : ∃ x, x = X2 := ⟨_, rfl⟩
      have kX := kX2; have hX := hX'; clear kX2 hX'
      refine wpAnyH_ready (rs := [2, 6]) (by kernel_rfl) (by simp) ?_
      refine consL rfl (by rfl) (fun K hK => ?_) ?_
      · skip
        go_simp
        go_at_call 27
        refine (nmC_is X As cs (rd_of (Ktb_9.out.next kX))).mono ?_
        rintro e X2 ⟨A9, c9, rfl, hk9, hb⟩
        dsimp only [Rec.v, Rec.to]
        refine hK.out _ _ (hX.next hb) (fun hX' => ?_)
        clear hK K
        have kX2 : Below w9.heap.size w9 X2 := kX.trans (hb.mono kX.size)
        have hr2 := hk9.rdb
        obtain ⟨lo, hlo9⟩ : ∃ l, l = X.heap.size := ⟨_, rfl⟩
        obtain ⟨hi, hhi9⟩ : ∃ l, l = X2.heap.size := ⟨_, rfl⟩
        rw [← hlo9, ← hhi9] at hr2
        clear kX hX hb hk9 hlo9 hhi9
        clear X
        obtain ⟨X, rfl⟩ : ∃ x, x = X2 := ⟨_, rfl⟩
        have kX := kX2; have hX := hX'; have hr := hr2; clear kX2 hX' hr2
        refine takeL (i := 3) (v := ?_) rfl (by kernel_rfl) (by kernel_rfl) (by kernel_rfl) (fun _ _ _ h => h) ⟨by rfl, ?_⟩ (by assumption) ?_
        rotate_left
        · intro W9 hSw
          (try dsimp only at hSw)
          go_simp
          try with_reducible rfl
        (try simp only [Act.put, List.setIfInBounds_toArray, List.set_cons_zero, List.set_cons_succ])
        refine takeL (i := 4) (v := ?_) rfl (by kernel_rfl) (by kernel_rfl) (by kernel_rfl) (fun _ _ _ h => h) ⟨by rfl, ?_⟩ (by assumption) ?_
        rotate_left
        · intro W9 hSw
          (try dsimp only at hSw)
          go_simp
          try with_reducible rfl
        (try simp only [Act.put, List.setIfInBounds_toArray, List.set_cons_zero, List.set_cons_succ])
        refine takeL (i := 5) (v := ?_) rfl (by kernel_rfl) (by kernel_rfl) (by kernel_rfl) (fun _ _ _ h => h) ⟨by rfl, ?_⟩ (by assumption) ?_
        rotate_left
        · intro W9 hSw
          (try dsimp only at hSw)
          go_simp
          try with_reducible rfl
        (try simp only [Act.put, List.setIfInBounds_toArray, List.set_cons_zero, List.set_cons_succ])
        refine wpAnyH_ready (rs := [6]) (by kernel_rfl) (by simp) ?_
        refine consL rfl (by rfl) (fun K hK => ?_) ?_
        · skip
          go_simp
          refine hK.out _ _ (hX.alloc _) (fun hX' => ?_)
          clear hK K
          have kX2 : Below w9.heap.size w9 (X.alloc (.cells #[.int .i32 0, .int .i32 0, .int .u8 0, .int .i64 0, .int .i32 0, .int .i32 0, .slice none 0 0, .int .i64 0, .int .i64 0, .int .i32 0, .int .i32 0] 30)) := kX.alloc kX.size _
          have B2 : BxQ (X.alloc (.cells #[.int .i32 0, .int .i32 0, .int .u8 0, .int .i64 0, .int .i32 0, .int .i32 0, .slice none 0 0, .int .i64 0, .int .i64 0, .int .i32 0, .int .i32 0] 30)) X.heap.size zeR := BxQ.new X zeR 30
          have hbz : w9.heap.size ≤ X.heap.size := kX.size
          have hr2 := hr.next ((Below.refl X.heap.size X).alloc (Nat.le_refl _) (.cells #[.int .i32 0, .int .i32 0, .int .u8 0, .int .i64 0, .int .i32 0, .int .i32 0, .slice none 0 0, .int .i64 0, .int .i64 0, .int .i32 0, .int .i32 0] 30))
          have hlo : X.heap.size < lo ∨ hi ≤ X.heap.size := .inr hr.1
          clear kX hX hr
          generalize hX9 : X.alloc (.cells #[.int .i32 0, .int .i32 0, .int .u8 0, .int .i64 0, .int .i32 0, .int .i32 0, .slice none 0 0, .int .i64 0, .int .i64 0, .int .i32 0, .int .i32 0] 30) = X2 at *
          generalize hX8 : X.heap.size = nb at *
          clear hX9 hX8 X
          obtain ⟨X, rfl⟩ : ∃ x, x = X2 := ⟨_, rfl⟩
          have kX := kX2; have hX := hX'; have B := B2; clear kX2 hX' B2
          have hr := hr2; clear hr2
          refine wpAnyH_ready (rs := [7]) (by kernel_rfl) (by simp) ?_
          refine consL rfl (by rfl) (fun K hK => ?_) ?_
          · skip
            have BB := Lib.hid B; have KX := Lib.hid kX; have HRR := Lib.hid hr; clear B kX hr
            obtain ⟨z0, z1, z2, z3, z4, z5, z6, z7, z8, z9, z10, z11, z12⟩ := BB.out
            try dsimp only [Rec.to] at z2 z3 z4 z5 z6 z7 z8 z9 z10 z11 z12
            go_simp
            refine hK.out _ (setR X nb (nmC.to A9 c9)) (hX.setO nb (by omega) (nmC.to A9 c9)) (fun hX' => ?_)
            clear hK K z0 z1 z2 z3 z4 z5 z6 z7 z8 z9 z10 z11 z12
            refine takeL (i := 8) (v := ?_) rfl (by kernel_rfl) (by kernel_rfl) (by kernel_rfl) (fun _ _ _ h => h) ⟨by rfl, ?_⟩ (by assumption) ?_
            rotate_left
            · intro W9 hSw
              (try dsimp only at hSw)
              go_simp
              try with_reducible rfl
            (try simp only [Act.put, List.setIfInBounds_toArray, List.set_cons_zero, List.set_cons_succ])
            refine wpAnyH_done (by kernel_rfl) ?_ _
            clear hX hX'
            go_wp2_with fail
            go_meet
            case rel =>
              exact ⟨nb, A9, c9, lo, hi, rfl, rfl, Lib.hid ⟨BxQ.setR BB.out (nmC.to A9 c9), RdB.setR HRR.out hlo (nmC.to A9 c9), bel_setR KX.out hbz (nmC.to A9 c9)⟩⟩
          exact AllReadyH.nil
        exact AllReadyH.nil
      refine consL rfl (by rfl) (fun K hK => ?_) ?_
      · skip
        go_simp
        refine hK.out _ _ (hX.alloc _) (fun hX' => ?_)
        clear hK K
        have kX2 : Below w9.heap.size w9 (X.alloc (.cells #[.int .i32 0, .int .i32 0, .int .u8 0, .int .i64 0, .int .i32 0, .int .i32 0, .slice none 0 0, .int .i64 0, .int .i64 0, .int .i32 0, .int .i32 0] 30)) := kX.alloc kX.size _
        have B2 : BxQ (X.alloc (.cells #[.int .i32 0, .int .i32 0, .int .u8 0, .int .i64 0, .int .i32 0, .int .i32 0, .slice none 0 0, .int .i64 0, .int .i64 0, .int .i32 0, .int .i32 0] 30)) X.heap.size zeR := BxQ.new X zeR 30
        have hbz : w9.heap.size ≤ X.heap.size := kX.size
        clear kX hX
        generalize hX9 : X.alloc (.cells #[.int .i32 0, .int .i32 0, .int .u8 0, .int .i64 0, .int .i32 0, .int .i32 0, .slice none 0 0, .int .i64 0, .int .i64 0, .int .i32 0, .int .i32 0] 30) = X2 at *
        generalize hX8 : X.heap.size = nb at *
        clear hX9 hX8 X
        obtain ⟨X, rfl⟩ : ∃ x, x = X2 := ⟨_, rfl⟩
        have kX := kX2; have hX := hX'; have B := B2; clear kX2 hX' B2
        refine wpAnyH_ready (rs := [2]) (by kernel_rfl) (by simp) ?_
        refine consL rfl (by rfl) (fun K hK => ?_) ?_
        · skip
          go_simp
          go_at_call 27
          refine (nmC_is X As cs (rd_of (Ktb_9.out.next kX))).mono ?_
          rintro e X2 ⟨A9, c9, rfl, hk9, hb⟩
          dsimp only [Rec.v, Rec.to]
          refine hK.out _ _ (hX.next hb) (fun hX' => ?_)
          clear hK K
          have kX2 : Below w9.heap.size w9 X2 := kX.trans (hb.mono kX.size)
          have hr2 := hk9.rdb
          obtain ⟨lo, hlo9⟩ : ∃ l, l = X.heap.size := ⟨_, rfl⟩
          obtain ⟨hi, hhi9⟩ : ∃ l, l = X2.heap.size := ⟨_, rfl⟩
          rw [← hlo9, ← hhi9] at hr2
          have B2 := B.next hb
          have hlo : nb < lo ∨ hi ≤ nb := .inl (by rw [hlo9]; exact B.lt)
          clear kX hX hb hk9 hlo9 hhi9 B
          clear X
          obtain ⟨X, rfl⟩ : ∃ x, x = X2 := ⟨_, rfl⟩
          have kX := kX2; have hX := hX'; have hr := hr2; clear kX2 hX' hr2
          have B := B2; clear B2
          refine takeL (i := 3) (v := ?_) rfl (by kernel_rfl) (by kernel_rfl) (by kernel_rfl) (fun _ _ _ h => h) ⟨by rfl, ?_⟩ (by assumption) ?_
          rotate_left
          · intro W9 hSw
            (try dsimp only at hSw)
            go_simp
            try with_reducible rfl
          (try simp only [Act.put, List.setIfInBounds_toArray, List.set_cons_zero, List.set_cons_succ])
          refine takeL (i := 4) (v := ?_) rfl (by kernel_rfl) (by kernel_rfl) (by kernel_rfl) (fun _ _ _ h => h) ⟨by rfl, ?_⟩ (by assumption) ?_
          rotate_left
          · intro W9 hSw
            (try dsimp only at hSw)
            go_simp
            try with_reducible rfl
          (try simp only [Act.put, List.setIfInBounds_toArray, List.set_cons_zero, List.set_cons_succ])
          refine takeL (i := 5) (v := ?_) rfl (by kernel_rfl) (by kernel_rfl) (by kernel_rfl) (fun _ _ _ h => h) ⟨by rfl, ?_⟩ (by assumption) ?_
          rotate_left
          · intro W9 hSw
            (try dsimp only at hSw)
            go_simp
            try with_reducible rfl
          (try simp only [Act.put, List.setIfInBounds_toArray, List.set_cons_zero, List.set_cons_succ])
          refine wpAnyH_ready (rs := [7]) (by kernel_rfl) (by simp) ?_
          refine consL rfl (by rfl) (fun K hK => ?_) ?_
          · skip
            have BB := Lib.hid B; have KX := Lib.hid kX; have HRR := Lib.hid hr; clear B kX hr
            obtain ⟨z0, z1, z2, z3, z4, z5, z6, z7, z8, z9, z10, z11, z12⟩ := BB.out
            try dsimp only [Rec.to] at z2 z3 z4 z5 z6 z7 z8 z9 z10 z11 z12
            go_simp
            refine hK.out _ (setR X nb (nmC.to A9 c9)) (hX.setO nb (by omega) (nmC.to A9 c9)) (fun hX' => ?_)
            clear hK K z0 z1 z2 z3 z4 z5 z6 z7 z8 z9 z10 z11 z12
            refine takeL (i := 8) (v := ?_) rfl (by kernel_rfl) (by kernel_rfl) (by kernel_rfl) (fun _ _ _ h => h) ⟨by rfl, ?_⟩ (by assumption) ?_
            rotate_left
            · intro W9 hSw
              (try dsimp only at hSw)
              go_simp
              try with_reducible rfl
            (try simp only [Act.put, List.setIfInBounds_toArray, List.set_cons_zero, List.set_cons_succ])
            refine wpAnyH_done (by kernel_rfl) ?_ _
            clear hX hX'
            go_wp2_with fail
            go_meet
            case rel =>
              exact ⟨nb, A9, c9, lo, hi, rfl, rfl, Lib.hid ⟨BxQ.setR BB.out (nmC.to A9 c9), RdB.setR HRR.out hlo (nmC.to A9 c9), bel_setR KX.out hbz (nmC.to A9 c9)⟩⟩
          exact AllReadyH.nil
        exact AllReadyH.nil
      exact AllReadyH.nil
    refine consL rfl (by rfl) (fun K hK => ?_) ?_
    · skip
      go_simp
      refine hK.out _ _ (hX.alloc _) (fun hX' => ?_)
      clear hK K
      have kX2 : Below w9.heap.size w9 (X.alloc (.cells #[.int .i32 0, .int .i32 0, .int .u8 0, .int .i64 0, .int .i32 0, .int .i32 0, .slice none 0 0, .int .i64 0, .int .i64 0, .int .i32 0, .int .i32 0] 30)) := kX.alloc kX.size _
      have B2 : BxQ (X.alloc (.cells #[.int .i32 0, .int .i32 0, .int .u8 0, .int .i64 0, .int .i32 0, .int .i32 0, .slice none 0 0, .int .i64 0, .int .i64 0, .int .i32 0, .int .i32 0] 30)) X.heap.size zeR := BxQ.new X zeR 30
      have hbz : w9.heap.size ≤ X.heap.size := kX.size
      clear kX hX
      generalize hX9 : X.alloc (.cells #[.int .i32 0, .int .i32 0, .int .u8 0, .int .i64 0, .int .i32 0, .int .i32 0, .slice none 0 0, .int .i64 0, .int .i64 0, .int .i32 0, .int .i32 0] 30) = X2 at *
      generalize hX8 : X.heap.size = nb at *
      clear hX9 hX8 X
      obtain ⟨X, rfl⟩ : ∃ x, x = X2 := ⟨_, rfl⟩
      have kX := kX2; have hX := hX'; have B := B2; clear kX2 hX' B2
      refine wpAnyH_ready (rs := [1]) (by kernel_rfl) (by simp) ?_
      refine consL rfl (by rfl) (fun K hK => ?_) ?_
      · skip
        go_simp
        go_at_call 38
        refine (st22_any _ _ _ _).mono ?_
        rintro e X2 ⟨rfl, hb⟩
        refine hK.out _ _ (hX.next hb) (fun hX' => ?_)
        clear hK K
        have kX2 : Below w9.heap.size w9 X2 := kX.trans (hb.mono kX.size)
        have B2 := B.next hb
        clear kX hX hb B
        clear X
        obtain ⟨X, rfl⟩ : ∃ x, x = X2 := ⟨_, rfl⟩
        have kX := kX2; have hX := hX'; clear kX2 hX'
        have B := B2; clear B2
        refine wpAnyH_ready (rs := [2]) (by kernel_rfl) (by simp) ?_
        refine consL rfl (by rfl) (fun K hK => ?_) ?_
        · skip
          go_simp
          go_at_call 27
          refine (nmC_is X As cs (rd_of (Ktb_9.out.next kX))).mono ?_
          rintro e X2 ⟨A9, c9, rfl, hk9, hb⟩
          dsimp only [Rec.v, Rec.to]
          refine hK.out _ _ (hX.next hb) (fun hX' => ?_)
          clear hK K
          have kX2 : Below w9.heap.size w9 X2 := kX.trans (hb.mono kX.size)
          have hr2 := hk9.rdb
          obtain ⟨lo, hlo9⟩ : ∃ l, l = X.heap.size := ⟨_, rfl⟩
          obtain ⟨hi, hhi9⟩ : ∃ l, l = X2.heap.size := ⟨_, rfl⟩
          rw [← hlo9, ← hhi9] at hr2
          have B2 := B.next hb
          have hlo : nb < lo ∨ hi ≤ nb := .inl (by rw [hlo9]; exact B.lt)
          clear kX hX hb hk9 hlo9 hhi9 B
          clear X
          obtain ⟨X, rfl⟩ : ∃ x, x = X2 := ⟨_, rfl⟩
          have kX := kX2; have hX := hX'; have hr := hr2; clear kX2 hX' hr2
          have B := B2; clear B2
          refine takeL (i := 3) (v := ?_) rfl (by kernel_rfl) (by kernel_rfl) (by kernel_rfl) (fun _ _ _ h => h) ⟨by rfl, ?_⟩ (by assumption) ?_
          rotate_left
          · intro W9 hSw
            (try dsimp only at hSw)
            go_simp
            try with_reducible rfl
          (try simp only [Act.put, List.setIfInBounds_toArray, List.set_cons_zero, List.set_cons_succ])
          refine takeL (i := 4) (v := ?_) rfl (by kernel_rfl) (by kernel_rfl) (by kernel_rfl) (fun _ _ _ h => h) ⟨by rfl, ?_⟩ (by assumption) ?_
          rotate_left
          · intro W9 hSw
            (try dsimp only at hSw)
            go_simp
            try with_reducible rfl
          (try simp only [Act.put, List.setIfInBounds_toArray, List.set_cons_zero, List.set_cons_succ])
          refine takeL (i := 5) (v := ?_) rfl (by kernel_rfl) (by kernel_rfl) (by kernel_rfl) (fun _ _ _ h => h) ⟨by rfl, ?_⟩ (by assumption) ?_
          rotate_left
          · intro W9 hSw
            (try dsimp only at hSw)
            go_simp
            try with_reducible rfl
          (try simp only [Act.put, List.setIfInBounds_toArray, List.set_cons_zero, List.set_cons_succ])
          refine wpAnyH_ready (rs := [7]) (by kernel_rfl) (by simp) ?_
          refine consL rfl (by rfl) (fun K hK => ?_) ?_
          · skip
            have BB := Lib.hid B; have KX := Lib.hid kX; have HRR := Lib.hid hr; clear B kX hr
            obtain ⟨z0, z1, z2, z3, z4, z5, z6, z7, z8, z9, z10, z11, z12⟩ := BB.out
            try dsimp only [Rec.to] at z2 z3 z4 z5 z6 z7 z8 z9 z10 z11 z12
            go_simp
            refine hK.out _ (setR X nb (nmC.to A9 c9)) (hX.setO nb (by omega) (nmC.to A9 c9)) (fun hX' => ?_)
            clear hK K z0 z1 z2 z3 z4 z5 z6 z7 z8 z9 z10 z11 z12
            refine takeL (i := 8) (v := ?_) rfl (by kernel_rfl) (by kernel_rfl) (by kernel_rfl) (fun _ _ _ h => h) ⟨by rfl, ?_⟩ (by assumption) ?_
            rotate_left
            · intro W9 hSw
              (try dsimp only at hSw)
              go_simp
              try with_reducible rfl
            (try simp only [Act.put, List.setIfInBounds_toArray, List.set_cons_zero, List.set_cons_succ])
            refine wpAnyH_done (by kernel_rfl) ?_ _
            clear hX hX'
            go_wp2_with fail
            go_meet
            case rel =>
              exact ⟨nb, A9, c9, lo, hi, rfl, rfl, Lib.hid ⟨BxQ.setR BB.out (nmC.to A9 c9), RdB.setR HRR.out hlo (nmC.to A9 c9), bel_setR KX.out hbz (nmC.to A9 c9)⟩⟩
          exact AllReadyH.nil
        exact AllReadyH.nil
      exact AllReadyH.nil
    exact AllReadyH.nil
  case rest =>
    rename_i K9 HK9
    obtain ⟨cb, A10, c10, lo10, hi10, rfl, rfl, hh⟩ := hcut
    obtain ⟨hX, hR, hB⟩ := hh.out
    obtain ⟨w10, rfl⟩ : ∃ x, x = wc := ⟨_, rfl⟩
    have Xtb_10 := Lib.hid (Xtb_9.out.next hB); clear Xtb_9
    have Ktb_10 := Lib.hid (Ktb_9.out.next hB); clear Ktb_9
    have P10 := Lib.hid (P9.out.trans ((hB).mono P9.out.size)); clear P9
    have Kky_10 := Lib.hid (Kky_9.out.next hB); clear Kky_9
    have Xcb_10 := Lib.hid hX; have Kcb_10 := Lib.hid hR; clear hh hX hR hB
    apply HK9
    exact nm_p10 Xtb_10 Ktb_10 P10 Kky_10 Xcb_10 Kcb_10
noncomputable def nmBody7 : Code := (Try.f8.body.bind (codeAfterN 7)).getD .skip
set_option maxHeartbeats 3200000 in
theorem nm_p7 {u4 u7 u13 u14 u15 u16 u17 u18 u19 u20 u21 u22 u23 u24 u25 u26 u27 u28 u29 u30 u31 u32 u33 u34 u35 u36 u37 u38 u39 u40 u41 u42 u43 u44 u45 u46 u47 u48 u49 u50 u51 u52 u53 u54 u55 u56 u57 u58 u59 u60 u61 u62 u63 u64 u65 u66 u67 u68 u69 u70 u71 u72 u73 u74 u75 u76 u77 u78 u79 u80 u81 u82 u83 u84 u85 u86 u87 u88 u89 u90 u91 u92 u93 u94 u95 u96 u97 u98 u99 u100 u101 u102 u103 u104 u105 u106 u107 u108 u109 u110 u111 u112 u113 u114 u115 u116 u117 u118 u119 u120 u121 u122 u123 u124 u125 u126 u127 u128 u129 u130 u131 u132 u133 u134 u135 u136 u137 u138 u139 u140 u141 u142 u143 u144 u145 u146 u147 u148 u149 u150 u151 u152 u153 u154 u155 u156 u157 u158 : Value} {w w7 : World} {c6 c7 cs hb2 hi4 hi6 hi7 hiT kb lo6 lo7 loT pb tb xb : Nat} {A6 A7 As : Option Addr} (Xtb_7 : Hid (BxQ w7 tb (exS.to As cs))) (Ktb_7 : Hid (RdB w7 loT hiT As (sv exS.l))) (P7 : Hid (Below w.heap.size w w7)) (Kky_7 : Hid (RdB w7 0 hi4 (some ⟨kb, 0, none⟩) (sv [tx 97, tx 98]))) (Xpb_7 : Hid (BxQ w7 pb (nmP.to A6 c6))) (Kpb_7 : Hid (RdB w7 lo6 hi6 A6 (sv nmP.l))) (Xhb2_7 : Hid (BxQ w7 hb2 (nmH.to A7 c7))) (Khb2_7 : Hid (RdB w7 lo7 hi7 A7 (sv nmH.l))) :
    Code.wp Try.prog nmBody7 (bodyPost Try.prog Try.f8 fun e w' => e = .returned (.bool true) ∧ Below w.heap.size w w') ⟨#[.bool false, .bool true, .pointer (some ⟨xb, 0, none⟩), .pointer (some ⟨tb, 0, none⟩), u4, .int .i64 0, .slice (some ⟨kb, 0, none⟩) 2 2, u7, .int .i64 2, .pointer (some ⟨pb, 0, none⟩), .int .i64 0, .pointer (some ⟨hb2, 0, none⟩), .int .i64 322, u13, u14, u15, u16, u17, u18, u19, u20, u21, u22, u23, u24, u25, u26, u27, u28, u29, u30, u31, u32, u33, u34, u35, u36, u37, u38, u39, u40, u41, u42, u43, u44, u45, u46, u47, u48, u49, u50, u51, u52, u53, u54, u55, u56, u57, u58, u59, u60, u61, u62, u63, u64, u65, u66, u67, u68, u69, u70, u71, u72, u73, u74, u75, u76, u77, u78, u79, u80, u81, u82, u83, u84, u85, u86, u87, u88, u89, u90, u91, u92, u93, u94, u95, u96, u97, u98, u99, u100, u101, u102, u103, u104, u105, u106, u107, u108, u109, u110, u111, u112, u113, u114, u115, u116, u117, u118, u119, u120, u121, u122, u123, u124, u125, u126, u127, u128, u129, u130, u131, u132, u133, u134, u135, u136, u137, u138, u139, u140, u141, u142, u143, u144, u145, u146, u147, u148, u149, u150, u151, u152, u153, u154, u155, u156, u157, u158], []⟩ w7 := by
  conv => arg 2; whnf
  dsimp only
  go_upto_region 8 with (fail)
  clear Xhb2_7 Khb2_7
  go_cut [13, 14] from 15 (fun s7 s8 wc => ∃ b A c lo hi, s7 = .pointer (some ⟨b, 0, none⟩) ∧ s8 = .int .i64 0 ∧ Hid (BxQ wc b (nmI.to A c) ∧ RdB wc lo hi A (sv nmI.l) ∧ Below w7.heap.size w7 wc))
  case first =>
    refine wp_heldall (S := fun W => BxQ W pb (nmP.to A6 c6)) 10 (by kernel_rfl) rfl (Xpb_7.out.next (Below.drew (Below.refl _ _))) (fun hHeld => ?_)
    have hxl : pb < w7.heap.size := Xpb_7.out.lt
    refine takeL (i := 0) (v := ?_) rfl (by kernel_rfl) (by kernel_rfl) (by kernel_rfl) (fun _ _ _ h => h) ⟨by rfl, ?_⟩ (by assumption) ?_
    rotate_left
    · intro W9 hSw
      (try dsimp only at hSw)
      obtain ⟨s0, s1, s2, s3, s4, s5, s6, s7, s8, s9, s10, s11, s12⟩ := hSw
      try dsimp only [Rec.to] at s2 s3 s4 s5 s6 s7 s8 s9 s10 s11 s12
      go_simp
      try with_reducible rfl
    (try simp only [Act.put, List.setIfInBounds_toArray, List.set_cons_zero, List.set_cons_succ])
    refine takeL (i := 2) (v := ?_) rfl (by kernel_rfl) (by kernel_rfl) (by kernel_rfl) (fun _ _ _ h => h) ⟨by rfl, ?_⟩ (by assumption) ?_
    rotate_left
    · intro W9 hSw
      (try dsimp only at hSw)
      obtain ⟨s0, s1, s2, s3, s4, s5, s6, s7, s8, s9, s10, s11, s12⟩ := hSw
      try dsimp only [Rec.to] at s2 s3 s4 s5 s6 s7 s8 s9 s10 s11 s12
      go_simp
      try with_reducible rfl
    (try simp only [Act.put, List.setIfInBounds_toArray, List.set_cons_zero, List.set_cons_succ])
    have kX : Below w7.heap.size w7 w7.drew := Below.drew (Below.refl _ _)
    have hX := hHeld
    clear hHeld
    generalize w7.drew = X at *
    refine wpAnyH_ready (rs := [1, 7]) (by kernel_rfl) (by simp) ?_
    refine consL rfl (by rfl) (fun K hK => ?_) ?_
    · skip
      go_simp
      go_at_call 38
      refine (st22_any _ _ _ _).mono ?_
      rintro e X2 ⟨rfl, hb⟩
      refine hK.out _ _ (hX.next hb) (fun hX' => ?_)
      clear hK K
      have kX2 : Below w7.heap.size w7 X2 := kX.trans (hb.mono kX.size)
      clear kX hX hb
      clear X
      obtain ⟨X, rfl⟩ : ∃ x, x = X2 := ⟨_, rfl⟩
      have kX := kX2; have hX := hX'; clear kX2 hX'
      refine wpAnyH_ready (rs := [3, 7]) (by kernel_rfl) (by simp) ?_
      refine consL rfl (by rfl) (fun K hK => ?_) ?_
      · skip
        go_simp
        go_at_call 29
        refine (nmI_is X A6 c6 _ (rd_of (Kpb_7.out.next kX)) (rd_of (Kky_7.out.next kX))).mono ?_
        rintro e X2 ⟨A9, c9, rfl, hk9, hb⟩
        dsimp only [Rec.v, Rec.to]
        refine hK.out _ _ (hX.next hb) (fun hX' => ?_)
        clear hK K
        have kX2 : Below w7.heap.size w7 X2 := kX.trans (hb.mono kX.size)
        have hr2 := hk9.rdb
        obtain ⟨lo, hlo9⟩ : ∃ l, l = X.heap.size := ⟨_, rfl⟩
        obtain ⟨hi, hhi9⟩ : ∃ l, l = X2.heap.size := ⟨_, rfl⟩
        rw [← hlo9, ← hhi9] at hr2
        clear kX hX hb hk9 hlo9 hhi9
        clear X
        obtain ⟨X, rfl⟩ : ∃ x, x = X2 := ⟨_, rfl⟩
        have kX := kX2; have hX := hX'; have hr := hr2; clear kX2 hX' hr2
        refine takeL (i := 4) (v := ?_) rfl (by kernel_rfl) (by kernel_rfl) (by kernel_rfl) (fun _ _ _ h => h) ⟨by rfl, ?_⟩ (by assumption) ?_
        rotate_left
        · intro W9 hSw
          (try dsimp only at hSw)
          go_simp
          try with_reducible rfl
        (try simp only [Act.put, List.setIfInBounds_toArray, List.set_cons_zero, List.set_cons_succ])
        refine takeL (i := 5) (v := ?_) rfl (by kernel_rfl) (by kernel_rfl) (by kernel_rfl) (fun _ _ _ h => h) ⟨by rfl, ?_⟩ (by assumption) ?_
        rotate_left
        · intro W9 hSw
          (try dsimp only at hSw)
          go_simp
          try with_reducible rfl
        (try simp only [Act.put, List.setIfInBounds_toArray, List.set_cons_zero, List.set_cons_succ])
        refine takeL (i := 6) (v := ?_) rfl (by kernel_rfl) (by kernel_rfl) (by kernel_rfl) (fun _ _ _ h => h) ⟨by rfl, ?_⟩ (by assumption) ?_
        rotate_left
        · intro W9 hSw
          (try dsimp only at hSw)
          go_simp
          try with_reducible rfl
        (try simp only [Act.put, List.setIfInBounds_toArray, List.set_cons_zero, List.set_cons_succ])
        refine wpAnyH_ready (rs := [7]) (by kernel_rfl) (by simp) ?_
        refine consL rfl (by rfl) (fun K hK => ?_) ?_
        · skip
          go_simp
          refine hK.out _ _ (hX.alloc _) (fun hX' => ?_)
          clear hK K
          have kX2 : Below w7.heap.size w7 (X.alloc (.cells #[.int .i32 0, .int .i32 0, .int .u8 0, .int .i64 0, .int .i32 0, .int .i32 0, .slice none 0 0, .int .i64 0, .int .i64 0, .int .i32 0, .int .i32 0] 30)) := kX.alloc kX.size _
          have B2 : BxQ (X.alloc (.cells #[.int .i32 0, .int .i32 0, .int .u8 0, .int .i64 0, .int .i32 0, .int .i32 0, .slice none 0 0, .int .i64 0, .int .i64 0, .int .i32 0, .int .i32 0] 30)) X.heap.size zeR := BxQ.new X zeR 30
          have hbz : w7.heap.size ≤ X.heap.size := kX.size
          have hr2 := hr.next ((Below.refl X.heap.size X).alloc (Nat.le_refl _) (.cells #[.int .i32 0, .int .i32 0, .int .u8 0, .int .i64 0, .int .i32 0, .int .i32 0, .slice none 0 0, .int .i64 0, .int .i64 0, .int .i32 0, .int .i32 0] 30))
          have hlo : X.heap.size < lo ∨ hi ≤ X.heap.size := .inr hr.1
          clear kX hX hr
          generalize hX9 : X.alloc (.cells #[.int .i32 0, .int .i32 0, .int .u8 0, .int .i64 0, .int .i32 0, .int .i32 0, .slice none 0 0, .int .i64 0, .int .i64 0, .int .i32 0, .int .i32 0] 30) = X2 at *
          generalize hX8 : X.heap.size = nb at *
          clear hX9 hX8 X
          obtain ⟨X, rfl⟩ : ∃ x, x = X2 := ⟨_, rfl⟩
          have kX := kX2; have hX := hX'; have B := B2; clear kX2 hX' B2
          have hr := hr2; clear hr2
          refine wpAnyH_ready (rs := [8]) (by kernel_rfl) (by simp) ?_
          refine consL rfl (by rfl) (fun K hK => ?_) ?_
          · skip
            have BB := Lib.hid B; have KX := Lib.hid kX; have HRR := Lib.hid hr; clear B kX hr
            obtain ⟨z0, z1, z2, z3, z4, z5, z6, z7, z8, z9, z10, z11, z12⟩ := BB.out
            try dsimp only [Rec.to] at z2 z3 z4 z5 z6 z7 z8 z9 z10 z11 z12
            go_simp
            refine hK.out _ (setR X nb (nmI.to A9 c9)) (hX.setO nb (by omega) (nmI.to A9 c9)) (fun hX' => ?_)
            clear hK K z0 z1 z2 z3 z4 z5 z6 z7 z8 z9 z10 z11 z12
            refine takeL (i := 9) (v := ?_) rfl (by kernel_rfl) (by kernel_rfl) (by kernel_rfl) (fun _ _ _ h => h) ⟨by rfl, ?_⟩ (by assumption) ?_
            rotate_left
            · intro W9 hSw
              (try dsimp only at hSw)
              go_simp
              try with_reducible rfl
            (try simp only [Act.put, List.setIfInBounds_toArray, List.set_cons_zero, List.set_cons_succ])
            refine wpAnyH_done (by kernel_rfl) ?_ _
            clear hX hX'
            go_wp2_with fail
            go_meet
            case rel =>
              exact ⟨nb, A9, c9, lo, hi, rfl, rfl, Lib.hid ⟨BxQ.setR BB.out (nmI.to A9 c9), RdB.setR HRR.out hlo (nmI.to A9 c9), bel_setR KX.out hbz (nmI.to A9 c9)⟩⟩
          exact AllReadyH.nil
        exact AllReadyH.nil
      refine consL rfl (by rfl) (fun K hK => ?_) ?_
      · skip
        go_simp
        refine hK.out _ _ (hX.alloc _) (fun hX' => ?_)
        clear hK K
        have kX2 : Below w7.heap.size w7 (X.alloc (.cells #[.int .i32 0, .int .i32 0, .int .u8 0, .int .i64 0, .int .i32 0, .int .i32 0, .slice none 0 0, .int .i64 0, .int .i64 0, .int .i32 0, .int .i32 0] 30)) := kX.alloc kX.size _
        have B2 : BxQ (X.alloc (.cells #[.int .i32 0, .int .i32 0, .int .u8 0, .int .i64 0, .int .i32 0, .int .i32 0, .slice none 0 0, .int .i64 0, .int .i64 0, .int .i32 0, .int .i32 0] 30)) X.heap.size zeR := BxQ.new X zeR 30
        have hbz : w7.heap.size ≤ X.heap.size := kX.size
        clear kX hX
        generalize hX9 : X.alloc (.cells #[.int .i32 0, .int .i32 0, .int .u8 0, .int .i64 0, .int .i32 0, .int .i32 0, .slice none 0 0, .int .i64 0, .int .i64 0, .int .i32 0, .int .i32 0] 30) = X2 at *
        generalize hX8 : X.heap.size = nb at *
        clear hX9 hX8 X
        obtain ⟨X, rfl⟩ : ∃ x, x = X2 := ⟨_, rfl⟩
        have kX := kX2; have hX := hX'; have B := B2; clear kX2 hX' B2
        refine wpAnyH_ready (rs := [3]) (by kernel_rfl) (by simp) ?_
        refine consL rfl (by rfl) (fun K hK => ?_) ?_
        · skip
          go_simp
          go_at_call 29
          refine (nmI_is X A6 c6 _ (rd_of (Kpb_7.out.next kX)) (rd_of (Kky_7.out.next kX))).mono ?_
          rintro e X2 ⟨A9, c9, rfl, hk9, hb⟩
          dsimp only [Rec.v, Rec.to]
          refine hK.out _ _ (hX.next hb) (fun hX' => ?_)
          clear hK K
          have kX2 : Below w7.heap.size w7 X2 := kX.trans (hb.mono kX.size)
          have hr2 := hk9.rdb
          obtain ⟨lo, hlo9⟩ : ∃ l, l = X.heap.size := ⟨_, rfl⟩
          obtain ⟨hi, hhi9⟩ : ∃ l, l = X2.heap.size := ⟨_, rfl⟩
          rw [← hlo9, ← hhi9] at hr2
          have B2 := B.next hb
          have hlo : nb < lo ∨ hi ≤ nb := .inl (by rw [hlo9]; exact B.lt)
          clear kX hX hb hk9 hlo9 hhi9 B
          clear X
          obtain ⟨X, rfl⟩ : ∃ x, x = X2 := ⟨_, rfl⟩
          have kX := kX2; have hX := hX'; have hr := hr2; clear kX2 hX' hr2
          have B := B2; clear B2
          refine takeL (i := 4) (v := ?_) rfl (by kernel_rfl) (by kernel_rfl) (by kernel_rfl) (fun _ _ _ h => h) ⟨by rfl, ?_⟩ (by assumption) ?_
          rotate_left
          · intro W9 hSw
            (try dsimp only at hSw)
            go_simp
            try with_reducible rfl
          (try simp only [Act.put, List.setIfInBounds_toArray, List.set_cons_zero, List.set_cons_succ])
          refine takeL (i := 5) (v := ?_) rfl (by kernel_rfl) (by kernel_rfl) (by kernel_rfl) (fun _ _ _ h => h) ⟨by rfl, ?_⟩ (by assumption) ?_
          rotate_left
          · intro W9 hSw
            (try dsimp only at hSw)
            go_simp
            try with_reducible rfl
          (try simp only [Act.put, List.setIfInBounds_toArray, List.set_cons_zero, List.set_cons_succ])
          refine takeL (i := 6) (v := ?_) rfl (by kernel_rfl) (by kernel_rfl) (by kernel_rfl) (fun _ _ _ h => h) ⟨by rfl, ?_⟩ (by assumption) ?_
          rotate_left
          · intro W9 hSw
            (try dsimp only at hSw)
            go_simp
            try with_reducible rfl
          (try simp only [Act.put, List.setIfInBounds_toArray, List.set_cons_zero, List.set_cons_succ])
          refine wpAnyH_ready (rs := [8]) (by kernel_rfl) (by simp) ?_
          refine consL rfl (by rfl) (fun K hK => ?_) ?_
          · skip
            have BB := Lib.hid B; have KX := Lib.hid kX; have HRR := Lib.hid hr; clear B kX hr
            obtain ⟨z0, z1, z2, z3, z4, z5, z6, z7, z8, z9, z10, z11, z12⟩ := BB.out
            try dsimp only [Rec.to] at z2 z3 z4 z5 z6 z7 z8 z9 z10 z11 z12
            go_simp
            refine hK.out _ (setR X nb (nmI.to A9 c9)) (hX.setO nb (by omega) (nmI.to A9 c9)) (fun hX' => ?_)
            clear hK K z0 z1 z2 z3 z4 z5 z6 z7 z8 z9 z10 z11 z12
            refine takeL (i := 9) (v := ?_) rfl (by kernel_rfl) (by kernel_rfl) (by kernel_rfl) (fun _ _ _ h => h) ⟨by rfl, ?_⟩ (by assumption) ?_
            rotate_left
            · intro W9 hSw
              (try dsimp only at hSw)
              go_simp
              try with_reducible rfl
            (try simp only [Act.put, List.setIfInBounds_toArray, List.set_cons_zero, List.set_cons_succ])
            refine wpAnyH_done (by kernel_rfl) ?_ _
            clear hX hX'
            go_wp2_with fail
            go_meet
            case rel =>
              exact ⟨nb, A9, c9, lo, hi, rfl, rfl, Lib.hid ⟨BxQ.setR BB.out (nmI.to A9 c9), RdB.setR HRR.out hlo (nmI.to A9 c9), bel_setR KX.out hbz (nmI.to A9 c9)⟩⟩
          exact AllReadyH.nil
        exact AllReadyH.nil
      exact AllReadyH.nil
    refine consL rfl (by rfl) (fun K hK => ?_) ?_
    · skip
      go_simp
      refine hK.out _ _ (hX.alloc _) (fun hX' => ?_)
      clear hK K
      have kX2 : Below w7.heap.size w7 (X.alloc (.cells #[.int .i32 0, .int .i32 0, .int .u8 0, .int .i64 0, .int .i32 0, .int .i32 0, .slice none 0 0, .int .i64 0, .int .i64 0, .int .i32 0, .int .i32 0] 30)) := kX.alloc kX.size _
      have B2 : BxQ (X.alloc (.cells #[.int .i32 0, .int .i32 0, .int .u8 0, .int .i64 0, .int .i32 0, .int .i32 0, .slice none 0 0, .int .i64 0, .int .i64 0, .int .i32 0, .int .i32 0] 30)) X.heap.size zeR := BxQ.new X zeR 30
      have hbz : w7.heap.size ≤ X.heap.size := kX.size
      clear kX hX
      generalize hX9 : X.alloc (.cells #[.int .i32 0, .int .i32 0, .int .u8 0, .int .i64 0, .int .i32 0, .int .i32 0, .slice none 0 0, .int .i64 0, .int .i64 0, .int .i32 0, .int .i32 0] 30) = X2 at *
      generalize hX8 : X.heap.size = nb at *
      clear hX9 hX8 X
      obtain ⟨X, rfl⟩ : ∃ x, x = X2 := ⟨_, rfl⟩
      have kX := kX2; have hX := hX'; have B := B2; clear kX2 hX' B2
      refine wpAnyH_ready (rs := [1]) (by kernel_rfl) (by simp) ?_
      refine consL rfl (by rfl) (fun K hK => ?_) ?_
      · skip
        go_simp
        go_at_call 38
        refine (st22_any _ _ _ _).mono ?_
        rintro e X2 ⟨rfl, hb⟩
        refine hK.out _ _ (hX.next hb) (fun hX' => ?_)
        clear hK K
        have kX2 : Below w7.heap.size w7 X2 := kX.trans (hb.mono kX.size)
        have B2 := B.next hb
        clear kX hX hb B
        clear X
        obtain ⟨X, rfl⟩ : ∃ x, x = X2 := ⟨_, rfl⟩
        have kX := kX2; have hX := hX'; clear kX2 hX'
        have B := B2; clear B2
        refine wpAnyH_ready (rs := [3]) (by kernel_rfl) (by simp) ?_
        refine consL rfl (by rfl) (fun K hK => ?_) ?_
        · skip
          go_simp
          go_at_call 29
          refine (nmI_is X A6 c6 _ (rd_of (Kpb_7.out.next kX)) (rd_of (Kky_7.out.next kX))).mono ?_
          rintro e X2 ⟨A9, c9, rfl, hk9, hb⟩
          dsimp only [Rec.v, Rec.to]
          refine hK.out _ _ (hX.next hb) (fun hX' => ?_)
          clear hK K
          have kX2 : Below w7.heap.size w7 X2 := kX.trans (hb.mono kX.size)
          have hr2 := hk9.rdb
          obtain ⟨lo, hlo9⟩ : ∃ l, l = X.heap.size := ⟨_, rfl⟩
          obtain ⟨hi, hhi9⟩ : ∃ l, l = X2.heap.size := ⟨_, rfl⟩
          rw [← hlo9, ← hhi9] at hr2
          have B2 := B.next hb
          have hlo : nb < lo ∨ hi ≤ nb := .inl (by rw [hlo9]; exact B.lt)
          clear kX hX hb hk9 hlo9 hhi9 B
          clear X
          obtain ⟨X, rfl⟩ : ∃ x, x = X2 := ⟨_, rfl⟩
          have kX := kX2; have hX := hX'; have hr := hr2; clear kX2 hX' hr2
          have B := B2; clear B2
          refine takeL (i := 4) (v := ?_) rfl (by kernel_rfl) (by kernel_rfl) (by kernel_rfl) (fun _ _ _ h => h) ⟨by rfl, ?_⟩ (by assumption) ?_
          rotate_left
          · intro W9 hSw
            (try dsimp only at hSw)
            go_simp
            try with_reducible rfl
          (try simp only [Act.put, List.setIfInBounds_toArray, List.set_cons_zero, List.set_cons_succ])
          refine takeL (i := 5) (v := ?_) rfl (by kernel_rfl) (by kernel_rfl) (by kernel_rfl) (fun _ _ _ h => h) ⟨by rfl, ?_⟩ (by assumption) ?_
          rotate_left
          · intro W9 hSw
            (try dsimp only at hSw)
            go_simp
            try with_reducible rfl
          (try simp only [Act.put, List.setIfInBounds_toArray, List.set_cons_zero, List.set_cons_succ])
          refine takeL (i := 6) (v := ?_) rfl (by kernel_rfl) (by kernel_rfl) (by kernel_rfl) (fun _ _ _ h => h) ⟨by rfl, ?_⟩ (by assumption) ?_
          rotate_left
          · intro W9 hSw
            (try dsimp only at hSw)
            go_simp
            try with_reducible rfl
          (try simp only [Act.put, List.setIfInBounds_toArray, List.set_cons_zero, List.set_cons_succ])
          refine wpAnyH_ready (rs := [8]) (by kernel_rfl) (by simp) ?_
          refine consL rfl (by rfl) (fun K hK => ?_) ?_
          · skip
            have BB := Lib.hid B; have KX := Lib.hid kX; have HRR := Lib.hid hr; clear B kX hr
            obtain ⟨z0, z1, z2, z3, z4, z5, z6, z7, z8, z9, z10, z11, z12⟩ := BB.out
            try dsimp only [Rec.to] at z2 z3 z4 z5 z6 z7 z8 z9 z10 z11 z12
            go_simp
            refine hK.out _ (setR X nb (nmI.to A9 c9)) (hX.setO nb (by omega) (nmI.to A9 c9)) (fun hX' => ?_)
            clear hK K z0 z1 z2 z3 z4 z5 z6 z7 z8 z9 z10 z11 z12
            refine takeL (i := 9) (v := ?_) rfl (by kernel_rfl) (by kernel_rfl) (by kernel_rfl) (fun _ _ _ h => h) ⟨by rfl, ?_⟩ (by assumption) ?_
            rotate_left
            · intro W9 hSw
              (try dsimp only at hSw)
              go_simp
              try with_reducible rfl
            (try simp only [Act.put, List.setIfInBounds_toArray, List.set_cons_zero, List.set_cons_succ])
            refine wpAnyH_done (by kernel_rfl) ?_ _
            clear hX hX'
            go_wp2_with fail
            go_meet
            case rel =>
              exact ⟨nb, A9, c9, lo, hi, rfl, rfl, Lib.hid ⟨BxQ.setR BB.out (nmI.to A9 c9), RdB.setR HRR.out hlo (nmI.to A9 c9), bel_setR KX.out hbz (nmI.to A9 c9)⟩⟩
          exact AllReadyH.nil
        exact AllReadyH.nil
      exact AllReadyH.nil
    exact AllReadyH.nil
  case rest =>
    rename_i K9 HK9
    obtain ⟨ib, A8, c8, lo8, hi8, rfl, rfl, hh⟩ := hcut
    obtain ⟨hX, hR, hB⟩ := hh.out
    obtain ⟨w8, rfl⟩ : ∃ x, x = wc := ⟨_, rfl⟩
    have Xtb_8 := Lib.hid (Xtb_7.out.next hB); clear Xtb_7
    have Ktb_8 := Lib.hid (Ktb_7.out.next hB); clear Ktb_7
    have P8 := Lib.hid (P7.out.trans ((hB).mono P7.out.size)); clear P7
    have Kky_8 := Lib.hid (Kky_7.out.next hB); clear Kky_7
    have Xpb_8 := Lib.hid (Xpb_7.out.next hB); clear Xpb_7
    have Kpb_8 := Lib.hid (Kpb_7.out.next hB); clear Kpb_7
    have Xib_8 := Lib.hid hX; have Kib_8 := Lib.hid hR; clear hh hX hR hB
    apply HK9
    exact nm_p8 Xtb_8 Ktb_8 P8 Kky_8 Xpb_8 Kpb_8 Xib_8 Kib_8
noncomputable def nmBody6 : Code := (Try.f8.body.bind (codeAfterN 6)).getD .skip
set_option maxHeartbeats 3200000 in
theorem nm_p6 {u7 u11 u12 u13 u14 u15 u16 u17 u18 u19 u20 u21 u22 u23 u24 u25 u26 u27 u28 u29 u30 u31 u32 u33 u34 u35 u36 u37 u38 u39 u40 u41 u42 u43 u44 u45 u46 u47 u48 u49 u50 u51 u52 u53 u54 u55 u56 u57 u58 u59 u60 u61 u62 u63 u64 u65 u66 u67 u68 u69 u70 u71 u72 u73 u74 u75 u76 u77 u78 u79 u80 u81 u82 u83 u84 u85 u86 u87 u88 u89 u90 u91 u92 u93 u94 u95 u96 u97 u98 u99 u100 u101 u102 u103 u104 u105 u106 u107 u108 u109 u110 u111 u112 u113 u114 u115 u116 u117 u118 u119 u120 u121 u122 u123 u124 u125 u126 u127 u128 u129 u130 u131 u132 u133 u134 u135 u136 u137 u138 u139 u140 u141 u142 u143 u144 u145 u146 u147 u148 u149 u150 u151 u152 u153 u154 u155 u156 u157 u158 : Value} {w w6 : World} {c3 c6 cs hi3 hi4 hi6 hiT kb lo3 lo6 loT pb rb tb xb : Nat} {A3 A6 As : Option Addr} (Xtb_6 : Hid (BxQ w6 tb (exS.to As cs))) (Ktb_6 : Hid (RdB w6 loT hiT As (sv exS.l))) (P6 : Hid (Below w.heap.size w w6)) (Xrb_6 : Hid (BxQ w6 rb (nmR.to A3 c3))) (Krb_6 : Hid (RdB w6 lo3 hi3 A3 (sv nmR.l))) (Kky_6 : Hid (RdB w6 0 hi4 (some ⟨kb, 0, none⟩) (sv [tx 97, tx 98]))) (Xpb_6 : Hid (BxQ w6 pb (nmP.to A6 c6))) (Kpb_6 : Hid (RdB w6 lo6 hi6 A6 (sv nmP.l))) :
    Code.wp Try.prog nmBody6 (bodyPost Try.prog Try.f8 fun e w' => e = .returned (.bool true) ∧ Below w.heap.size w w') ⟨#[.bool false, .bool true, .pointer (some ⟨xb, 0, none⟩), .pointer (some ⟨tb, 0, none⟩), .pointer (some ⟨rb, 0, none⟩), .int .i64 0, .slice (some ⟨kb, 0, none⟩) 2 2, u7, .int .i64 2, .pointer (some ⟨pb, 0, none⟩), .int .i64 0, u11, u12, u13, u14, u15, u16, u17, u18, u19, u20, u21, u22, u23, u24, u25, u26, u27, u28, u29, u30, u31, u32, u33, u34, u35, u36, u37, u38, u39, u40, u41, u42, u43, u44, u45, u46, u47, u48, u49, u50, u51, u52, u53, u54, u55, u56, u57, u58, u59, u60, u61, u62, u63, u64, u65, u66, u67, u68, u69, u70, u71, u72, u73, u74, u75, u76, u77, u78, u79, u80, u81, u82, u83, u84, u85, u86, u87, u88, u89, u90, u91, u92, u93, u94, u95, u96, u97, u98, u99, u100, u101, u102, u103, u104, u105, u106, u107, u108, u109, u110, u111, u112, u113, u114, u115, u116, u117, u118, u119, u120, u121, u122, u123, u124, u125, u126, u127, u128, u129, u130, u131, u132, u133, u134, u135, u136, u137, u138, u139, u140, u141, u142, u143, u144, u145, u146, u147, u148, u149, u150, u151, u152, u153, u154, u155, u156, u157, u158], []⟩ w6 := by
  conv => arg 2; whnf
  dsimp only
  go_upto_region 7 with (fail)
  clear Xrb_6 Krb_6
  go_cut [11, 12] from 13 (fun s7 s8 wc => ∃ b A c lo hi, s7 = .pointer (some ⟨b, 0, none⟩) ∧ s8 = .int .i64 322 ∧ Hid (BxQ wc b (nmH.to A c) ∧ RdB wc lo hi A (sv nmH.l) ∧ Below w6.heap.size w6 wc))
  case first =>
    refine wp_heldall (S := fun W => BxQ W pb (nmP.to A6 c6)) 10 (by kernel_rfl) rfl (Xpb_6.out.next (Below.drew (Below.refl _ _))) (fun hHeld => ?_)
    have hxl : pb < w6.heap.size := Xpb_6.out.lt
    refine takeL (i := 0) (v := ?_) rfl (by kernel_rfl) (by kernel_rfl) (by kernel_rfl) (fun _ _ _ h => h) ⟨by rfl, ?_⟩ (by assumption) ?_
    rotate_left
    · intro W9 hSw
      (try dsimp only at hSw)
      obtain ⟨s0, s1, s2, s3, s4, s5, s6, s7, s8, s9, s10, s11, s12⟩ := hSw
      try dsimp only [Rec.to] at s2 s3 s4 s5 s6 s7 s8 s9 s10 s11 s12
      go_simp
      try with_reducible rfl
    (try simp only [Act.put, List.setIfInBounds_toArray, List.set_cons_zero, List.set_cons_succ])
    refine takeL (i := 2) (v := ?_) rfl (by kernel_rfl) (by kernel_rfl) (by kernel_rfl) (fun _ _ _ h => h) ⟨by rfl, ?_⟩ (by assumption) ?_
    rotate_left
    · intro W9 hSw
      (try dsimp only at hSw)
      obtain ⟨s0, s1, s2, s3, s4, s5, s6, s7, s8, s9, s10, s11, s12⟩ := hSw
      try dsimp only [Rec.to] at s2 s3 s4 s5 s6 s7 s8 s9 s10 s11 s12
      go_simp
      try with_reducible rfl
    (try simp only [Act.put, List.setIfInBounds_toArray, List.set_cons_zero, List.set_cons_succ])
    have kX : Below w6.heap.size w6 w6.drew := Below.drew (Below.refl _ _)
    have hX := hHeld
    clear hHeld
    generalize w6.drew = X at *
    refine wpAnyH_ready (rs := [1, 7]) (by kernel_rfl) (by simp) ?_
    refine consL rfl (by rfl) (fun K hK => ?_) ?_
    · skip
      go_simp
      go_at_call 38
      refine (st22_any _ _ _ _).mono ?_
      rintro e X2 ⟨rfl, hb⟩
      refine hK.out _ _ (hX.next hb) (fun hX' => ?_)
      clear hK K
      have kX2 : Below w6.heap.size w6 X2 := kX.trans (hb.mono kX.size)
      clear kX hX hb
      clear X
      obtain ⟨X, rfl⟩ : ∃ x, x = X2 := ⟨_, rfl⟩
      have kX := kX2; have hX := hX'; clear kX2 hX'
      refine wpAnyH_ready (rs := [3, 7]) (by kernel_rfl) (by simp) ?_
      refine consL rfl (by rfl) (fun K hK => ?_) ?_
      · skip
        go_simp
        go_at_call 29
        refine (nmH_is X A6 c6 _ (rd_of (Kpb_6.out.next kX)) (rd_of (Kky_6.out.next kX))).mono ?_
        rintro e X2 ⟨A9, c9, rfl, hk9, hb⟩
        dsimp only [Rec.v, Rec.to]
        refine hK.out _ _ (hX.next hb) (fun hX' => ?_)
        clear hK K
        have kX2 : Below w6.heap.size w6 X2 := kX.trans (hb.mono kX.size)
        have hr2 := hk9.rdb
        obtain ⟨lo, hlo9⟩ : ∃ l, l = X.heap.size := ⟨_, rfl⟩
        obtain ⟨hi, hhi9⟩ : ∃ l, l = X2.heap.size := ⟨_, rfl⟩
        rw [← hlo9, ← hhi9] at hr2
        clear kX hX hb hk9 hlo9 hhi9
        clear X
        obtain ⟨X, rfl⟩ : ∃ x, x = X2 := ⟨_, rfl⟩
        have kX := kX2; have hX := hX'; have hr := hr2; clear kX2 hX' hr2
        refine takeL (i := 4) (v := ?_) rfl (by kernel_rfl) (by kernel_rfl) (by kernel_rfl) (fun _ _ _ h => h) ⟨by rfl, ?_⟩ (by assumption) ?_
        rotate_left
        · intro W9 hSw
          (try dsimp only at hSw)
          go_simp
          try with_reducible rfl
        (try simp only [Act.put, List.setIfInBounds_toArray, List.set_cons_zero, List.set_cons_succ])
        refine takeL (i := 5) (v := ?_) rfl (by kernel_rfl) (by kernel_rfl) (by kernel_rfl) (fun _ _ _ h => h) ⟨by rfl, ?_⟩ (by assumption) ?_
        rotate_left
        · intro W9 hSw
          (try dsimp only at hSw)
          go_simp
          try with_reducible rfl
        (try simp only [Act.put, List.setIfInBounds_toArray, List.set_cons_zero, List.set_cons_succ])
        refine takeL (i := 6) (v := ?_) rfl (by kernel_rfl) (by kernel_rfl) (by kernel_rfl) (fun _ _ _ h => h) ⟨by rfl, ?_⟩ (by assumption) ?_
        rotate_left
        · intro W9 hSw
          (try dsimp only at hSw)
          go_simp
          try with_reducible rfl
        (try simp only [Act.put, List.setIfInBounds_toArray, List.set_cons_zero, List.set_cons_succ])
        refine wpAnyH_ready (rs := [7]) (by kernel_rfl) (by simp) ?_
        refine consL rfl (by rfl) (fun K hK => ?_) ?_
        · skip
          go_simp
          refine hK.out _ _ (hX.alloc _) (fun hX' => ?_)
          clear hK K
          have kX2 : Below w6.heap.size w6 (X.alloc (.cells #[.int .i32 0, .int .i32 0, .int .u8 0, .int .i64 0, .int .i32 0, .int .i32 0, .slice none 0 0, .int .i64 0, .int .i64 0, .int .i32 0, .int .i32 0] 30)) := kX.alloc kX.size _
          have B2 : BxQ (X.alloc (.cells #[.int .i32 0, .int .i32 0, .int .u8 0, .int .i64 0, .int .i32 0, .int .i32 0, .slice none 0 0, .int .i64 0, .int .i64 0, .int .i32 0, .int .i32 0] 30)) X.heap.size zeR := BxQ.new X zeR 30
          have hbz : w6.heap.size ≤ X.heap.size := kX.size
          have hr2 := hr.next ((Below.refl X.heap.size X).alloc (Nat.le_refl _) (.cells #[.int .i32 0, .int .i32 0, .int .u8 0, .int .i64 0, .int .i32 0, .int .i32 0, .slice none 0 0, .int .i64 0, .int .i64 0, .int .i32 0, .int .i32 0] 30))
          have hlo : X.heap.size < lo ∨ hi ≤ X.heap.size := .inr hr.1
          clear kX hX hr
          generalize hX9 : X.alloc (.cells #[.int .i32 0, .int .i32 0, .int .u8 0, .int .i64 0, .int .i32 0, .int .i32 0, .slice none 0 0, .int .i64 0, .int .i64 0, .int .i32 0, .int .i32 0] 30) = X2 at *
          generalize hX8 : X.heap.size = nb at *
          clear hX9 hX8 X
          obtain ⟨X, rfl⟩ : ∃ x, x = X2 := ⟨_, rfl⟩
          have kX := kX2; have hX := hX'; have B := B2; clear kX2 hX' B2
          have hr := hr2; clear hr2
          refine wpAnyH_ready (rs := [8]) (by kernel_rfl) (by simp) ?_
          refine consL rfl (by rfl) (fun K hK => ?_) ?_
          · skip
            have BB := Lib.hid B; have KX := Lib.hid kX; have HRR := Lib.hid hr; clear B kX hr
            obtain ⟨z0, z1, z2, z3, z4, z5, z6, z7, z8, z9, z10, z11, z12⟩ := BB.out
            try dsimp only [Rec.to] at z2 z3 z4 z5 z6 z7 z8 z9 z10 z11 z12
            go_simp
            refine hK.out _ (setR X nb (nmH.to A9 c9)) (hX.setO nb (by omega) (nmH.to A9 c9)) (fun hX' => ?_)
            clear hK K z0 z1 z2 z3 z4 z5 z6 z7 z8 z9 z10 z11 z12
            refine takeL (i := 9) (v := ?_) rfl (by kernel_rfl) (by kernel_rfl) (by kernel_rfl) (fun _ _ _ h => h) ⟨by rfl, ?_⟩ (by assumption) ?_
            rotate_left
            · intro W9 hSw
              (try dsimp only at hSw)
              go_simp
              try with_reducible rfl
            (try simp only [Act.put, List.setIfInBounds_toArray, List.set_cons_zero, List.set_cons_succ])
            refine wpAnyH_done (by kernel_rfl) ?_ _
            clear hX hX'
            go_wp2_with fail
            go_meet
            case rel =>
              exact ⟨nb, A9, c9, lo, hi, rfl, rfl, Lib.hid ⟨BxQ.setR BB.out (nmH.to A9 c9), RdB.setR HRR.out hlo (nmH.to A9 c9), bel_setR KX.out hbz (nmH.to A9 c9)⟩⟩
          exact AllReadyH.nil
        exact AllReadyH.nil
      refine consL rfl (by rfl) (fun K hK => ?_) ?_
      · skip
        go_simp
        refine hK.out _ _ (hX.alloc _) (fun hX' => ?_)
        clear hK K
        have kX2 : Below w6.heap.size w6 (X.alloc (.cells #[.int .i32 0, .int .i32 0, .int .u8 0, .int .i64 0, .int .i32 0, .int .i32 0, .slice none 0 0, .int .i64 0, .int .i64 0, .int .i32 0, .int .i32 0] 30)) := kX.alloc kX.size _
        have B2 : BxQ (X.alloc (.cells #[.int .i32 0, .int .i32 0, .int .u8 0, .int .i64 0, .int .i32 0, .int .i32 0, .slice none 0 0, .int .i64 0, .int .i64 0, .int .i32 0, .int .i32 0] 30)) X.heap.size zeR := BxQ.new X zeR 30
        have hbz : w6.heap.size ≤ X.heap.size := kX.size
        clear kX hX
        generalize hX9 : X.alloc (.cells #[.int .i32 0, .int .i32 0, .int .u8 0, .int .i64 0, .int .i32 0, .int .i32 0, .slice none 0 0, .int .i64 0, .int .i64 0, .int .i32 0, .int .i32 0] 30) = X2 at *
        generalize hX8 : X.heap.size = nb at *
        clear hX9 hX8 X
        obtain ⟨X, rfl⟩ : ∃ x, x = X2 := ⟨_, rfl⟩
        have kX := kX2; have hX := hX'; have B := B2; clear kX2 hX' B2
        refine wpAnyH_ready (rs := [3]) (by kernel_rfl) (by simp) ?_
        refine consL rfl (by rfl) (fun K hK => ?_) ?_
        · skip
          go_simp
          go_at_call 29
          refine (nmH_is X A6 c6 _ (rd_of (Kpb_6.out.next kX)) (rd_of (Kky_6.out.next kX))).mono ?_
          rintro e X2 ⟨A9, c9, rfl, hk9, hb⟩
          dsimp only [Rec.v, Rec.to]
          refine hK.out _ _ (hX.next hb) (fun hX' => ?_)
          clear hK K
          have kX2 : Below w6.heap.size w6 X2 := kX.trans (hb.mono kX.size)
          have hr2 := hk9.rdb
          obtain ⟨lo, hlo9⟩ : ∃ l, l = X.heap.size := ⟨_, rfl⟩
          obtain ⟨hi, hhi9⟩ : ∃ l, l = X2.heap.size := ⟨_, rfl⟩
          rw [← hlo9, ← hhi9] at hr2
          have B2 := B.next hb
          have hlo : nb < lo ∨ hi ≤ nb := .inl (by rw [hlo9]; exact B.lt)
          clear kX hX hb hk9 hlo9 hhi9 B
          clear X
          obtain ⟨X, rfl⟩ : ∃ x, x = X2 := ⟨_, rfl⟩
          have kX := kX2; have hX := hX'; have hr := hr2; clear kX2 hX' hr2
          have B := B2; clear B2
          refine takeL (i := 4) (v := ?_) rfl (by kernel_rfl) (by kernel_rfl) (by kernel_rfl) (fun _ _ _ h => h) ⟨by rfl, ?_⟩ (by assumption) ?_
          rotate_left
          · intro W9 hSw
            (try dsimp only at hSw)
            go_simp
            try with_reducible rfl
          (try simp only [Act.put, List.setIfInBounds_toArray, List.set_cons_zero, List.set_cons_succ])
          refine takeL (i := 5) (v := ?_) rfl (by kernel_rfl) (by kernel_rfl) (by kernel_rfl) (fun _ _ _ h => h) ⟨by rfl, ?_⟩ (by assumption) ?_
          rotate_left
          · intro W9 hSw
            (try dsimp only at hSw)
            go_simp
            try with_reducible rfl
          (try simp only [Act.put, List.setIfInBounds_toArray, List.set_cons_zero, List.set_cons_succ])
          refine takeL (i := 6) (v := ?_) rfl (by kernel_rfl) (by kernel_rfl) (by kernel_rfl) (fun _ _ _ h => h) ⟨by rfl, ?_⟩ (by assumption) ?_
          rotate_left
          · intro W9 hSw
            (try dsimp only at hSw)
            go_simp
            try with_reducible rfl
          (try simp only [Act.put, List.setIfInBounds_toArray, List.set_cons_zero, List.set_cons_succ])
          refine wpAnyH_ready (rs := [8]) (by kernel_rfl) (by simp) ?_
          refine consL rfl (by rfl) (fun K hK => ?_) ?_
          · skip
            have BB := Lib.hid B; have KX := Lib.hid kX; have HRR := Lib.hid hr; clear B kX hr
            obtain ⟨z0, z1, z2, z3, z4, z5, z6, z7, z8, z9, z10, z11, z12⟩ := BB.out
            try dsimp only [Rec.to] at z2 z3 z4 z5 z6 z7 z8 z9 z10 z11 z12
            go_simp
            refine hK.out _ (setR X nb (nmH.to A9 c9)) (hX.setO nb (by omega) (nmH.to A9 c9)) (fun hX' => ?_)
            clear hK K z0 z1 z2 z3 z4 z5 z6 z7 z8 z9 z10 z11 z12
            refine takeL (i := 9) (v := ?_) rfl (by kernel_rfl) (by kernel_rfl) (by kernel_rfl) (fun _ _ _ h => h) ⟨by rfl, ?_⟩ (by assumption) ?_
            rotate_left
            · intro W9 hSw
              (try dsimp only at hSw)
              go_simp
              try with_reducible rfl
            (try simp only [Act.put, List.setIfInBounds_toArray, List.set_cons_zero, List.set_cons_succ])
            refine wpAnyH_done (by kernel_rfl) ?_ _
            clear hX hX'
            go_wp2_with fail
            go_meet
            case rel =>
              exact ⟨nb, A9, c9, lo, hi, rfl, rfl, Lib.hid ⟨BxQ.setR BB.out (nmH.to A9 c9), RdB.setR HRR.out hlo (nmH.to A9 c9), bel_setR KX.out hbz (nmH.to A9 c9)⟩⟩
          exact AllReadyH.nil
        exact AllReadyH.nil
      exact AllReadyH.nil
    refine consL rfl (by rfl) (fun K hK => ?_) ?_
    · skip
      go_simp
      refine hK.out _ _ (hX.alloc _) (fun hX' => ?_)
      clear hK K
      have kX2 : Below w6.heap.size w6 (X.alloc (.cells #[.int .i32 0, .int .i32 0, .int .u8 0, .int .i64 0, .int .i32 0, .int .i32 0, .slice none 0 0, .int .i64 0, .int .i64 0, .int .i32 0, .int .i32 0] 30)) := kX.alloc kX.size _
      have B2 : BxQ (X.alloc (.cells #[.int .i32 0, .int .i32 0, .int .u8 0, .int .i64 0, .int .i32 0, .int .i32 0, .slice none 0 0, .int .i64 0, .int .i64 0, .int .i32 0, .int .i32 0] 30)) X.heap.size zeR := BxQ.new X zeR 30
      have hbz : w6.heap.size ≤ X.heap.size := kX.size
      clear kX hX
      generalize hX9 : X.alloc (.cells #[.int .i32 0, .int .i32 0, .int .u8 0, .int .i64 0, .int .i32 0, .int .i32 0, .slice none 0 0, .int .i64 0, .int .i64 0, .int .i32 0, .int .i32 0] 30) = X2 at *
      generalize hX8 : X.heap.size = nb at *
      clear hX9 hX8 X
      obtain ⟨X, rfl⟩ : ∃ x, x = X2 := ⟨_, rfl⟩
      have kX := kX2; have hX := hX'; have B := B2; clear kX2 hX' B2
      refine wpAnyH_ready (rs := [1]) (by kernel_rfl) (by simp) ?_
      refine consL rfl (by rfl) (fun K hK => ?_) ?_
      · skip
        go_simp
        go_at_call 38
        refine (st22_any _ _ _ _).mono ?_
        rintro e X2 ⟨rfl, hb⟩
        refine hK.out _ _ (hX.next hb) (fun hX' => ?_)
        clear hK K
        have kX2 : Below w6.heap.size w6 X2 := kX.trans (hb.mono kX.size)
        have B2 := B.next hb
        clear kX hX hb B
        clear X
        obtain ⟨X, rfl⟩ : ∃ x, x = X2 := ⟨_, rfl⟩
        have kX := kX2; have hX := hX'; clear kX2 hX'
        have B := B2; clear B2
        refine wpAnyH_ready (rs := [3]) (by kernel_rfl) (by simp) ?_
        refine consL rfl (by rfl) (fun K hK => ?_) ?_
        · skip
          go_simp
          go_at_call 29
          refine (nmH_is X A6 c6 _ (rd_of (Kpb_6.out.next kX)) (rd_of (Kky_6.out.next kX))).mono ?_
          rintro e X2 ⟨A9, c9, rfl, hk9, hb⟩
          dsimp only [Rec.v, Rec.to]
          refine hK.out _ _ (hX.next hb) (fun hX' => ?_)
          clear hK K
          have kX2 : Below w6.heap.size w6 X2 := kX.trans (hb.mono kX.size)
          have hr2 := hk9.rdb
          obtain ⟨lo, hlo9⟩ : ∃ l, l = X.heap.size := ⟨_, rfl⟩
          obtain ⟨hi, hhi9⟩ : ∃ l, l = X2.heap.size := ⟨_, rfl⟩
          rw [← hlo9, ← hhi9] at hr2
          have B2 := B.next hb
          have hlo : nb < lo ∨ hi ≤ nb := .inl (by rw [hlo9]; exact B.lt)
          clear kX hX hb hk9 hlo9 hhi9 B
          clear X
          obtain ⟨X, rfl⟩ : ∃ x, x = X2 := ⟨_, rfl⟩
          have kX := kX2; have hX := hX'; have hr := hr2; clear kX2 hX' hr2
          have B := B2; clear B2
          refine takeL (i := 4) (v := ?_) rfl (by kernel_rfl) (by kernel_rfl) (by kernel_rfl) (fun _ _ _ h => h) ⟨by rfl, ?_⟩ (by assumption) ?_
          rotate_left
          · intro W9 hSw
            (try dsimp only at hSw)
            go_simp
            try with_reducible rfl
          (try simp only [Act.put, List.setIfInBounds_toArray, List.set_cons_zero, List.set_cons_succ])
          refine takeL (i := 5) (v := ?_) rfl (by kernel_rfl) (by kernel_rfl) (by kernel_rfl) (fun _ _ _ h => h) ⟨by rfl, ?_⟩ (by assumption) ?_
          rotate_left
          · intro W9 hSw
            (try dsimp only at hSw)
            go_simp
            try with_reducible rfl
          (try simp only [Act.put, List.setIfInBounds_toArray, List.set_cons_zero, List.set_cons_succ])
          refine takeL (i := 6) (v := ?_) rfl (by kernel_rfl) (by kernel_rfl) (by kernel_rfl) (fun _ _ _ h => h) ⟨by rfl, ?_⟩ (by assumption) ?_
          rotate_left
          · intro W9 hSw
            (try dsimp only at hSw)
            go_simp
            try with_reducible rfl
          (try simp only [Act.put, List.setIfInBounds_toArray, List.set_cons_zero, List.set_cons_succ])
          refine wpAnyH_ready (rs := [8]) (by kernel_rfl) (by simp) ?_
          refine consL rfl (by rfl) (fun K hK => ?_) ?_
          · skip
            have BB := Lib.hid B; have KX := Lib.hid kX; have HRR := Lib.hid hr; clear B kX hr
            obtain ⟨z0, z1, z2, z3, z4, z5, z6, z7, z8, z9, z10, z11, z12⟩ := BB.out
            try dsimp only [Rec.to] at z2 z3 z4 z5 z6 z7 z8 z9 z10 z11 z12
            go_simp
            refine hK.out _ (setR X nb (nmH.to A9 c9)) (hX.setO nb (by omega) (nmH.to A9 c9)) (fun hX' => ?_)
            clear hK K z0 z1 z2 z3 z4 z5 z6 z7 z8 z9 z10 z11 z12
            refine takeL (i := 9) (v := ?_) rfl (by kernel_rfl) (by kernel_rfl) (by kernel_rfl) (fun _ _ _ h => h) ⟨by rfl, ?_⟩ (by assumption) ?_
            rotate_left
            · intro W9 hSw
              (try dsimp only at hSw)
              go_simp
              try with_reducible rfl
            (try simp only [Act.put, List.setIfInBounds_toArray, List.set_cons_zero, List.set_cons_succ])
            refine wpAnyH_done (by kernel_rfl) ?_ _
            clear hX hX'
            go_wp2_with fail
            go_meet
            case rel =>
              exact ⟨nb, A9, c9, lo, hi, rfl, rfl, Lib.hid ⟨BxQ.setR BB.out (nmH.to A9 c9), RdB.setR HRR.out hlo (nmH.to A9 c9), bel_setR KX.out hbz (nmH.to A9 c9)⟩⟩
          exact AllReadyH.nil
        exact AllReadyH.nil
      exact AllReadyH.nil
    exact AllReadyH.nil
  case rest =>
    rename_i K9 HK9
    obtain ⟨hb2, A7, c7, lo7, hi7, rfl, rfl, hh⟩ := hcut
    obtain ⟨hX, hR, hB⟩ := hh.out
    obtain ⟨w7, rfl⟩ : ∃ x, x = wc := ⟨_, rfl⟩
    have Xtb_7 := Lib.hid (Xtb_6.out.next hB); clear Xtb_6
    have Ktb_7 := Lib.hid (Ktb_6.out.next hB); clear Ktb_6
    have P7 := Lib.hid (P6.out.trans ((hB).mono P6.out.size)); clear P6
    have Kky_7 := Lib.hid (Kky_6.out.next hB); clear Kky_6
    have Xpb_7 := Lib.hid (Xpb_6.out.next hB); clear Xpb_6
    have Kpb_7 := Lib.hid (Kpb_6.out.next hB); clear Kpb_6
    have Xhb2_7 := Lib.hid hX; have Khb2_7 := Lib.hid hR; clear hh hX hR hB
    apply HK9
    exact nm_p7 Xtb_7 Ktb_7 P7 Kky_7 Xpb_7 Kpb_7 Xhb2_7 Khb2_7
noncomputable def nmBody5 : Code := (Try.f8.body.bind (codeAfterN 5)).getD .skip
set_option maxHeartbeats 3200000 in
theorem nm_p5 {u9 u10 u11 u12 u13 u14 u15 u16 u17 u18 u19 u20 u21 u22 u23 u24 u25 u26 u27 u28 u29 u30 u31 u32 u33 u34 u35 u36 u37 u38 u39 u40 u41 u42 u43 u44 u45 u46 u47 u48 u49 u50 u51 u52 u53 u54 u55 u56 u57 u58 u59 u60 u61 u62 u63 u64 u65 u66 u67 u68 u69 u70 u71 u72 u73 u74 u75 u76 u77 u78 u79 u80 u81 u82 u83 u84 u85 u86 u87 u88 u89 u90 u91 u92 u93 u94 u95 u96 u97 u98 u99 u100 u101 u102 u103 u104 u105 u106 u107 u108 u109 u110 u111 u112 u113 u114 u115 u116 u117 u118 u119 u120 u121 u122 u123 u124 u125 u126 u127 u128 u129 u130 u131 u132 u133 u134 u135 u136 u137 u138 u139 u140 u141 u142 u143 u144 u145 u146 u147 u148 u149 u150 u151 u152 u153 u154 u155 u156 u157 u158 : Value} {w w5 : World} {c3 c5 cs fb hi3 hi4 hi5 hiT kb lo3 lo5 loT rb tb xb : Nat} {A3 A5 As : Option Addr} (Xtb_5 : Hid (BxQ w5 tb (exS.to As cs))) (Ktb_5 : Hid (RdB w5 loT hiT As (sv exS.l))) (P5 : Hid (Below w.heap.size w w5)) (Xrb_5 : Hid (BxQ w5 rb (nmR.to A3 c3))) (Krb_5 : Hid (RdB w5 lo3 hi3 A3 (sv nmR.l))) (Kky_5 : Hid (RdB w5 0 hi4 (some ⟨kb, 0, none⟩) (sv [tx 97, tx 98]))) (Xfb_5 : Hid (BxQ w5 fb (nmF.to A5 c5))) (Kfb_5 : Hid (RdB w5 lo5 hi5 A5 (sv nmF.l))) :
    Code.wp Try.prog nmBody5 (bodyPost Try.prog Try.f8 fun e w' => e = .returned (.bool true) ∧ Below w.heap.size w w') ⟨#[.bool false, .bool true, .pointer (some ⟨xb, 0, none⟩), .pointer (some ⟨tb, 0, none⟩), .pointer (some ⟨rb, 0, none⟩), .int .i64 0, .slice (some ⟨kb, 0, none⟩) 2 2, .pointer (some ⟨fb, 0, none⟩), .int .i64 2, u9, u10, u11, u12, u13, u14, u15, u16, u17, u18, u19, u20, u21, u22, u23, u24, u25, u26, u27, u28, u29, u30, u31, u32, u33, u34, u35, u36, u37, u38, u39, u40, u41, u42, u43, u44, u45, u46, u47, u48, u49, u50, u51, u52, u53, u54, u55, u56, u57, u58, u59, u60, u61, u62, u63, u64, u65, u66, u67, u68, u69, u70, u71, u72, u73, u74, u75, u76, u77, u78, u79, u80, u81, u82, u83, u84, u85, u86, u87, u88, u89, u90, u91, u92, u93, u94, u95, u96, u97, u98, u99, u100, u101, u102, u103, u104, u105, u106, u107, u108, u109, u110, u111, u112, u113, u114, u115, u116, u117, u118, u119, u120, u121, u122, u123, u124, u125, u126, u127, u128, u129, u130, u131, u132, u133, u134, u135, u136, u137, u138, u139, u140, u141, u142, u143, u144, u145, u146, u147, u148, u149, u150, u151, u152, u153, u154, u155, u156, u157, u158], []⟩ w5 := by
  conv => arg 2; whnf
  dsimp only
  go_upto_region 6 with (fail)
  clear Xfb_5 Kfb_5
  go_cut [9, 10] from 11 (fun s7 s8 wc => ∃ b A c lo hi, s7 = .pointer (some ⟨b, 0, none⟩) ∧ s8 = .int .i64 0 ∧ Hid (BxQ wc b (nmP.to A c) ∧ RdB wc lo hi A (sv nmP.l) ∧ Below w5.heap.size w5 wc))
  case first =>
    refine wp_heldall (S := fun W => BxQ W rb (nmR.to A3 c3)) 9 (by kernel_rfl) rfl (Xrb_5.out.next (Below.drew (Below.refl _ _))) (fun hHeld => ?_)
    have hxl : rb < w5.heap.size := Xrb_5.out.lt
    refine takeL (i := 0) (v := ?_) rfl (by kernel_rfl) (by kernel_rfl) (by kernel_rfl) (fun _ _ _ h => h) ⟨by rfl, ?_⟩ (by assumption) ?_
    rotate_left
    · intro W9 hSw
      (try dsimp only at hSw)
      obtain ⟨s0, s1, s2, s3, s4, s5, s6, s7, s8, s9, s10, s11, s12⟩ := hSw
      try dsimp only [Rec.to] at s2 s3 s4 s5 s6 s7 s8 s9 s10 s11 s12
      go_simp
      try with_reducible rfl
    (try simp only [Act.put, List.setIfInBounds_toArray, List.set_cons_zero, List.set_cons_succ])
    have kX : Below w5.heap.size w5 w5.drew := Below.drew (Below.refl _ _)
    have hX := hHeld
    clear hHeld
    generalize w5.drew = X at *
    refine wpAnyH_ready (rs := [1, 6]) (by kernel_rfl) (by simp) ?_
    refine consL rfl (by rfl) (fun K hK => ?_) ?_
    · skip
      go_simp
      go_at_call 38
      refine (st22_any _ _ _ _).mono ?_
      rintro e X2 ⟨rfl, hb⟩
      refine hK.out _ _ (hX.next hb) (fun hX' => ?_)
      clear hK K
      have kX2 : Below w5.heap.size w5 X2 := kX.trans (hb.mono kX.size)
      clear kX hX hb
      clear X
      obtain ⟨X, rfl⟩ : ∃ x, x = X2 := ⟨_, rfl⟩
      have kX := kX2; have hX := hX'; clear kX2 hX'
      refine wpAnyH_ready (rs := [2, 6]) (by kernel_rfl) (by simp) ?_
      refine consL rfl (by rfl) (fun K hK => ?_) ?_
      · skip
        go_simp
        go_at_call 39
        refine (nmP_is X A3 c3 (rd_of (Krb_5.out.next kX))).mono ?_
        rintro e X2 ⟨A9, c9, rfl, hk9, hb⟩
        dsimp only [Rec.v, Rec.to]
        refine hK.out _ _ (hX.next hb) (fun hX' => ?_)
        clear hK K
        have kX2 : Below w5.heap.size w5 X2 := kX.trans (hb.mono kX.size)
        have hr2 := hk9.rdb
        obtain ⟨lo, hlo9⟩ : ∃ l, l = X.heap.size := ⟨_, rfl⟩
        obtain ⟨hi, hhi9⟩ : ∃ l, l = X2.heap.size := ⟨_, rfl⟩
        rw [← hlo9, ← hhi9] at hr2
        clear kX hX hb hk9 hlo9 hhi9
        clear X
        obtain ⟨X, rfl⟩ : ∃ x, x = X2 := ⟨_, rfl⟩
        have kX := kX2; have hX := hX'; have hr := hr2; clear kX2 hX' hr2
        refine takeL (i := 3) (v := ?_) rfl (by kernel_rfl) (by kernel_rfl) (by kernel_rfl) (fun _ _ _ h => h) ⟨by rfl, ?_⟩ (by assumption) ?_
        rotate_left
        · intro W9 hSw
          (try dsimp only at hSw)
          go_simp
          try with_reducible rfl
        (try simp only [Act.put, List.setIfInBounds_toArray, List.set_cons_zero, List.set_cons_succ])
        refine takeL (i := 4) (v := ?_) rfl (by kernel_rfl) (by kernel_rfl) (by kernel_rfl) (fun _ _ _ h => h) ⟨by rfl, ?_⟩ (by assumption) ?_
        rotate_left
        · intro W9 hSw
          (try dsimp only at hSw)
          go_simp
          try with_reducible rfl
        (try simp only [Act.put, List.setIfInBounds_toArray, List.set_cons_zero, List.set_cons_succ])
        refine takeL (i := 5) (v := ?_) rfl (by kernel_rfl) (by kernel_rfl) (by kernel_rfl) (fun _ _ _ h => h) ⟨by rfl, ?_⟩ (by assumption) ?_
        rotate_left
        · intro W9 hSw
          (try dsimp only at hSw)
          go_simp
          try with_reducible rfl
        (try simp only [Act.put, List.setIfInBounds_toArray, List.set_cons_zero, List.set_cons_succ])
        refine wpAnyH_ready (rs := [6]) (by kernel_rfl) (by simp) ?_
        refine consL rfl (by rfl) (fun K hK => ?_) ?_
        · skip
          go_simp
          refine hK.out _ _ (hX.alloc _) (fun hX' => ?_)
          clear hK K
          have kX2 : Below w5.heap.size w5 (X.alloc (.cells #[.int .i32 0, .int .i32 0, .int .u8 0, .int .i64 0, .int .i32 0, .int .i32 0, .slice none 0 0, .int .i64 0, .int .i64 0, .int .i32 0, .int .i32 0] 30)) := kX.alloc kX.size _
          have B2 : BxQ (X.alloc (.cells #[.int .i32 0, .int .i32 0, .int .u8 0, .int .i64 0, .int .i32 0, .int .i32 0, .slice none 0 0, .int .i64 0, .int .i64 0, .int .i32 0, .int .i32 0] 30)) X.heap.size zeR := BxQ.new X zeR 30
          have hbz : w5.heap.size ≤ X.heap.size := kX.size
          have hr2 := hr.next ((Below.refl X.heap.size X).alloc (Nat.le_refl _) (.cells #[.int .i32 0, .int .i32 0, .int .u8 0, .int .i64 0, .int .i32 0, .int .i32 0, .slice none 0 0, .int .i64 0, .int .i64 0, .int .i32 0, .int .i32 0] 30))
          have hlo : X.heap.size < lo ∨ hi ≤ X.heap.size := .inr hr.1
          clear kX hX hr
          generalize hX9 : X.alloc (.cells #[.int .i32 0, .int .i32 0, .int .u8 0, .int .i64 0, .int .i32 0, .int .i32 0, .slice none 0 0, .int .i64 0, .int .i64 0, .int .i32 0, .int .i32 0] 30) = X2 at *
          generalize hX8 : X.heap.size = nb at *
          clear hX9 hX8 X
          obtain ⟨X, rfl⟩ : ∃ x, x = X2 := ⟨_, rfl⟩
          have kX := kX2; have hX := hX'; have B := B2; clear kX2 hX' B2
          have hr := hr2; clear hr2
          refine wpAnyH_ready (rs := [7]) (by kernel_rfl) (by simp) ?_
          refine consL rfl (by rfl) (fun K hK => ?_) ?_
          · skip
            have BB := Lib.hid B; have KX := Lib.hid kX; have HRR := Lib.hid hr; clear B kX hr
            obtain ⟨z0, z1, z2, z3, z4, z5, z6, z7, z8, z9, z10, z11, z12⟩ := BB.out
            try dsimp only [Rec.to] at z2 z3 z4 z5 z6 z7 z8 z9 z10 z11 z12
            go_simp
            refine hK.out _ (setR X nb (nmP.to A9 c9)) (hX.setO nb (by omega) (nmP.to A9 c9)) (fun hX' => ?_)
            clear hK K z0 z1 z2 z3 z4 z5 z6 z7 z8 z9 z10 z11 z12
            refine takeL (i := 8) (v := ?_) rfl (by kernel_rfl) (by kernel_rfl) (by kernel_rfl) (fun _ _ _ h => h) ⟨by rfl, ?_⟩ (by assumption) ?_
            rotate_left
            · intro W9 hSw
              (try dsimp only at hSw)
              go_simp
              try with_reducible rfl
            (try simp only [Act.put, List.setIfInBounds_toArray, List.set_cons_zero, List.set_cons_succ])
            refine wpAnyH_done (by kernel_rfl) ?_ _
            clear hX hX'
            go_wp2_with fail
            go_meet
            case rel =>
              exact ⟨nb, A9, c9, lo, hi, rfl, rfl, Lib.hid ⟨BxQ.setR BB.out (nmP.to A9 c9), RdB.setR HRR.out hlo (nmP.to A9 c9), bel_setR KX.out hbz (nmP.to A9 c9)⟩⟩
          exact AllReadyH.nil
        exact AllReadyH.nil
      refine consL rfl (by rfl) (fun K hK => ?_) ?_
      · skip
        go_simp
        refine hK.out _ _ (hX.alloc _) (fun hX' => ?_)
        clear hK K
        have kX2 : Below w5.heap.size w5 (X.alloc (.cells #[.int .i32 0, .int .i32 0, .int .u8 0, .int .i64 0, .int .i32 0, .int .i32 0, .slice none 0 0, .int .i64 0, .int .i64 0, .int .i32 0, .int .i32 0] 30)) := kX.alloc kX.size _
        have B2 : BxQ (X.alloc (.cells #[.int .i32 0, .int .i32 0, .int .u8 0, .int .i64 0, .int .i32 0, .int .i32 0, .slice none 0 0, .int .i64 0, .int .i64 0, .int .i32 0, .int .i32 0] 30)) X.heap.size zeR := BxQ.new X zeR 30
        have hbz : w5.heap.size ≤ X.heap.size := kX.size
        clear kX hX
        generalize hX9 : X.alloc (.cells #[.int .i32 0, .int .i32 0, .int .u8 0, .int .i64 0, .int .i32 0, .int .i32 0, .slice none 0 0, .int .i64 0, .int .i64 0, .int .i32 0, .int .i32 0] 30) = X2 at *
        generalize hX8 : X.heap.size = nb at *
        clear hX9 hX8 X
        obtain ⟨X, rfl⟩ : ∃ x, x = X2 := ⟨_, rfl⟩
        have kX := kX2; have hX := hX'; have B := B2; clear kX2 hX' B2
        refine wpAnyH_ready (rs := [2]) (by kernel_rfl) (by simp) ?_
        refine consL rfl (by rfl) (fun K hK => ?_) ?_
        · skip
          go_simp
          go_at_call 39
          refine (nmP_is X A3 c3 (rd_of (Krb_5.out.next kX))).mono ?_
          rintro e X2 ⟨A9, c9, rfl, hk9, hb⟩
          dsimp only [Rec.v, Rec.to]
          refine hK.out _ _ (hX.next hb) (fun hX' => ?_)
          clear hK K
          have kX2 : Below w5.heap.size w5 X2 := kX.trans (hb.mono kX.size)
          have hr2 := hk9.rdb
          obtain ⟨lo, hlo9⟩ : ∃ l, l = X.heap.size := ⟨_, rfl⟩
          obtain ⟨hi, hhi9⟩ : ∃ l, l = X2.heap.size := ⟨_, rfl⟩
          rw [← hlo9, ← hhi9] at hr2
          have B2 := B.next hb
          have hlo : nb < lo ∨ hi ≤ nb := .inl (by rw [hlo9]; exact B.lt)
          clear kX hX hb hk9 hlo9 hhi9 B
          clear X
          obtain ⟨X, rfl⟩ : ∃ x, x = X2 := ⟨_, rfl⟩
          have kX := kX2; have hX := hX'; have hr := hr2; clear kX2 hX' hr2
          have B := B2; clear B2
          refine takeL (i := 3) (v := ?_) rfl (by kernel_rfl) (by kernel_rfl) (by kernel_rfl) (fun _ _ _ h => h) ⟨by rfl, ?_⟩ (by assumption) ?_
          rotate_left
          · intro W9 hSw
            (try dsimp only at hSw)
            go_simp
            try with_reducible rfl
          (try simp only [Act.put, List.setIfInBounds_toArray, List.set_cons_zero, List.set_cons_succ])
          refine takeL (i := 4) (v := ?_) rfl (by kernel_rfl) (by kernel_rfl) (by kernel_rfl) (fun _ _ _ h => h) ⟨by rfl, ?_⟩ (by assumption) ?_
          rotate_left
          · intro W9 hSw
            (try dsimp only at hSw)
            go_simp
            try with_reducible rfl
          (try simp only [Act.put, List.setIfInBounds_toArray, List.set_cons_zero, List.set_cons_succ])
          refine takeL (i := 5) (v := ?_) rfl (by kernel_rfl) (by kernel_rfl) (by kernel_rfl) (fun _ _ _ h => h) ⟨by rfl, ?_⟩ (by assumption) ?_
          rotate_left
          · intro W9 hSw
            (try dsimp only at hSw)
            go_simp
            try with_reducible rfl
          (try simp only [Act.put, List.setIfInBounds_toArray, List.set_cons_zero, List.set_cons_succ])
          refine wpAnyH_ready (rs := [7]) (by kernel_rfl) (by simp) ?_
          refine consL rfl (by rfl) (fun K hK => ?_) ?_
          · skip
            have BB := Lib.hid B; have KX := Lib.hid kX; have HRR := Lib.hid hr; clear B kX hr
            obtain ⟨z0, z1, z2, z3, z4, z5, z6, z7, z8, z9, z10, z11, z12⟩ := BB.out
            try dsimp only [Rec.to] at z2 z3 z4 z5 z6 z7 z8 z9 z10 z11 z12
            go_simp
            refine hK.out _ (setR X nb (nmP.to A9 c9)) (hX.setO nb (by omega) (nmP.to A9 c9)) (fun hX' => ?_)
            clear hK K z0 z1 z2 z3 z4 z5 z6 z7 z8 z9 z10 z11 z12
            refine takeL (i := 8) (v := ?_) rfl (by kernel_rfl) (by kernel_rfl) (by kernel_rfl) (fun _ _ _ h => h) ⟨by rfl, ?_⟩ (by assumption) ?_
            rotate_left
            · intro W9 hSw
              (try dsimp only at hSw)
              go_simp
              try with_reducible rfl
            (try simp only [Act.put, List.setIfInBounds_toArray, List.set_cons_zero, List.set_cons_succ])
            refine wpAnyH_done (by kernel_rfl) ?_ _
            clear hX hX'
            go_wp2_with fail
            go_meet
            case rel =>
              exact ⟨nb, A9, c9, lo, hi, rfl, rfl, Lib.hid ⟨BxQ.setR BB.out (nmP.to A9 c9), RdB.setR HRR.out hlo (nmP.to A9 c9), bel_setR KX.out hbz (nmP.to A9 c9)⟩⟩
          exact AllReadyH.nil
        exact AllReadyH.nil
      exact AllReadyH.nil
    refine consL rfl (by rfl) (fun K hK => ?_) ?_
    · skip
      go_simp
      refine hK.out _ _ (hX.alloc _) (fun hX' => ?_)
      clear hK K
      have kX2 : Below w5.heap.size w5 (X.alloc (.cells #[.int .i32 0, .int .i32 0, .int .u8 0, .int .i64 0, .int .i32 0, .int .i32 0, .slice none 0 0, .int .i64 0, .int .i64 0, .int .i32 0, .int .i32 0] 30)) := kX.alloc kX.size _
      have B2 : BxQ (X.alloc (.cells #[.int .i32 0, .int .i32 0, .int .u8 0, .int .i64 0, .int .i32 0, .int .i32 0, .slice none 0 0, .int .i64 0, .int .i64 0, .int .i32 0, .int .i32 0] 30)) X.heap.size zeR := BxQ.new X zeR 30
      have hbz : w5.heap.size ≤ X.heap.size := kX.size
      clear kX hX
      generalize hX9 : X.alloc (.cells #[.int .i32 0, .int .i32 0, .int .u8 0, .int .i64 0, .int .i32 0, .int .i32 0, .slice none 0 0, .int .i64 0, .int .i64 0, .int .i32 0, .int .i32 0] 30) = X2 at *
      generalize hX8 : X.heap.size = nb at *
      clear hX9 hX8 X
      obtain ⟨X, rfl⟩ : ∃ x, x = X2 := ⟨_, rfl⟩
      have kX := kX2; have hX := hX'; have B := B2; clear kX2 hX' B2
      refine wpAnyH_ready (rs := [1]) (by kernel_rfl) (by simp) ?_
      refine consL rfl (by rfl) (fun K hK => ?_) ?_
      · skip
        go_simp
        go_at_call 38
        refine (st22_any _ _ _ _).mono ?_
        rintro e X2 ⟨rfl, hb⟩
        refine hK.out _ _ (hX.next hb) (fun hX' => ?_)
        clear hK K
        have kX2 : Below w5.heap.size w5 X2 := kX.trans (hb.mono kX.size)
        have B2 := B.next hb
        clear kX hX hb B
        clear X
        obtain ⟨X, rfl⟩ : ∃ x, x = X2 := ⟨_, rfl⟩
        have kX := kX2; have hX := hX'; clear kX2 hX'
        have B := B2; clear B2
        refine wpAnyH_ready (rs := [2]) (by kernel_rfl) (by simp) ?_
        refine consL rfl (by rfl) (fun K hK => ?_) ?_
        · skip
          go_simp
          go_at_call 39
          refine (nmP_is X A3 c3 (rd_of (Krb_5.out.next kX))).mono ?_
          rintro e X2 ⟨A9, c9, rfl, hk9, hb⟩
          dsimp only [Rec.v, Rec.to]
          refine hK.out _ _ (hX.next hb) (fun hX' => ?_)
          clear hK K
          have kX2 : Below w5.heap.size w5 X2 := kX.trans (hb.mono kX.size)
          have hr2 := hk9.rdb
          obtain ⟨lo, hlo9⟩ : ∃ l, l = X.heap.size := ⟨_, rfl⟩
          obtain ⟨hi, hhi9⟩ : ∃ l, l = X2.heap.size := ⟨_, rfl⟩
          rw [← hlo9, ← hhi9] at hr2
          have B2 := B.next hb
          have hlo : nb < lo ∨ hi ≤ nb := .inl (by rw [hlo9]; exact B.lt)
          clear kX hX hb hk9 hlo9 hhi9 B
          clear X
          obtain ⟨X, rfl⟩ : ∃ x, x = X2 := ⟨_, rfl⟩
          have kX := kX2; have hX := hX'; have hr := hr2; clear kX2 hX' hr2
          have B := B2; clear B2
          refine takeL (i := 3) (v := ?_) rfl (by kernel_rfl) (by kernel_rfl) (by kernel_rfl) (fun _ _ _ h => h) ⟨by rfl, ?_⟩ (by assumption) ?_
          rotate_left
          · intro W9 hSw
            (try dsimp only at hSw)
            go_simp
            try with_reducible rfl
          (try simp only [Act.put, List.setIfInBounds_toArray, List.set_cons_zero, List.set_cons_succ])
          refine takeL (i := 4) (v := ?_) rfl (by kernel_rfl) (by kernel_rfl) (by kernel_rfl) (fun _ _ _ h => h) ⟨by rfl, ?_⟩ (by assumption) ?_
          rotate_left
          · intro W9 hSw
            (try dsimp only at hSw)
            go_simp
            try with_reducible rfl
          (try simp only [Act.put, List.setIfInBounds_toArray, List.set_cons_zero, List.set_cons_succ])
          refine takeL (i := 5) (v := ?_) rfl (by kernel_rfl) (by kernel_rfl) (by kernel_rfl) (fun _ _ _ h => h) ⟨by rfl, ?_⟩ (by assumption) ?_
          rotate_left
          · intro W9 hSw
            (try dsimp only at hSw)
            go_simp
            try with_reducible rfl
          (try simp only [Act.put, List.setIfInBounds_toArray, List.set_cons_zero, List.set_cons_succ])
          refine wpAnyH_ready (rs := [7]) (by kernel_rfl) (by simp) ?_
          refine consL rfl (by rfl) (fun K hK => ?_) ?_
          · skip
            have BB := Lib.hid B; have KX := Lib.hid kX; have HRR := Lib.hid hr; clear B kX hr
            obtain ⟨z0, z1, z2, z3, z4, z5, z6, z7, z8, z9, z10, z11, z12⟩ := BB.out
            try dsimp only [Rec.to] at z2 z3 z4 z5 z6 z7 z8 z9 z10 z11 z12
            go_simp
            refine hK.out _ (setR X nb (nmP.to A9 c9)) (hX.setO nb (by omega) (nmP.to A9 c9)) (fun hX' => ?_)
            clear hK K z0 z1 z2 z3 z4 z5 z6 z7 z8 z9 z10 z11 z12
            refine takeL (i := 8) (v := ?_) rfl (by kernel_rfl) (by kernel_rfl) (by kernel_rfl) (fun _ _ _ h => h) ⟨by rfl, ?_⟩ (by assumption) ?_
            rotate_left
            · intro W9 hSw
              (try dsimp only at hSw)
              go_simp
              try with_reducible rfl
            (try simp only [Act.put, List.setIfInBounds_toArray, List.set_cons_zero, List.set_cons_succ])
            refine wpAnyH_done (by kernel_rfl) ?_ _
            clear hX hX'
            go_wp2_with fail
            go_meet
            case rel =>
              exact ⟨nb, A9, c9, lo, hi, rfl, rfl, Lib.hid ⟨BxQ.setR BB.out (nmP.to A9 c9), RdB.setR HRR.out hlo (nmP.to A9 c9), bel_setR KX.out hbz (nmP.to A9 c9)⟩⟩
          exact AllReadyH.nil
        exact AllReadyH.nil
      exact AllReadyH.nil
    exact AllReadyH.nil
  case rest =>
    rename_i K9 HK9
    obtain ⟨pb, A6, c6, lo6, hi6, rfl, rfl, hh⟩ := hcut
    obtain ⟨hX, hR, hB⟩ := hh.out
    obtain ⟨w6, rfl⟩ : ∃ x, x = wc := ⟨_, rfl⟩
    have Xtb_6 := Lib.hid (Xtb_5.out.next hB); clear Xtb_5
    have Ktb_6 := Lib.hid (Ktb_5.out.next hB); clear Ktb_5
    have P6 := Lib.hid (P5.out.trans ((hB).mono P5.out.size)); clear P5
    have Xrb_6 := Lib.hid (Xrb_5.out.next hB); clear Xrb_5
    have Krb_6 := Lib.hid (Krb_5.out.next hB); clear Krb_5
    have Kky_6 := Lib.hid (Kky_5.out.next hB); clear Kky_5
    have Xpb_6 := Lib.hid hX; have Kpb_6 := Lib.hid hR; clear hh hX hR hB
    apply HK9
    exact nm_p6 Xtb_6 Ktb_6 P6 Xrb_6 Krb_6 Kky_6 Xpb_6 Kpb_6
set_option maxHeartbeats 12800000 in
theorem recordNames_walk (w : World) : Calls Try.prog 8 #[] w fun e w' => e = .returned (.bool true) ∧ Below w.heap.size w w' := by
  go_enter Try.func8, Try.ntmps8
  go_wp2_with fail
  refine (example22_any _).mono ?_
  rintro e v1 ⟨As, cs, rfl, hk, hb⟩
  have P1 : Hid (Below w.heap.size w v1) := Lib.hid hb
  have hs1 := hb.size
  replace hk := hk.rdb
  clear hb
  go_upto_region 3 with (fail)
  have T2 := Lib.hid ((BxT.new v1 1 2 24).alloc (.cells #[.int .i32 1, .int .i32 2, .int .u8 2, .int .i64 9, .int .i32 0, .int .i32 17, .slice As 2 cs, .int .i64 6, .int .i64 0, .int .i32 0, .int .i32 0] 30))
  have X2 : BxQ ((v1.alloc (.cells #[.int .i32 1, .int .i32 2] 24)).alloc (.cells #[.int .i32 1, .int .i32 2, .int .u8 2, .int .i64 9, .int .i32 0, .int .i32 17, .slice As 2 cs, .int .i64 6, .int .i64 0, .int .i32 0, .int .i32 0] 30)) (v1.heap.size + 1) (exS.to As cs) := by
    have h := BxQ.new (v1.alloc (.cells #[.int .i32 1, .int .i32 2] 24)) (exS.to As cs) 30
    rw [World.size_alloc] at h
    exact h
  have hA2 : Below v1.heap.size v1 ((v1.alloc (.cells #[.int .i32 1, .int .i32 2] 24)).alloc (.cells #[.int .i32 1, .int .i32 2, .int .u8 2, .int .i64 9, .int .i32 0, .int .i32 17, .slice As 2 cs, .int .i64 6, .int .i64 0, .int .i32 0, .int .i32 0] 30)) := by go_grown
  have Xtb_2 := Lib.hid X2
  have Ktb_2 := Lib.hid (hk.next hA2)
  have P2 := Lib.hid (P1.out.trans (hA2.mono hs1))
  clear hk P1 hs1 hA2 X2
  generalize hw2 : ((v1.alloc (.cells #[.int .i32 1, .int .i32 2] 24)).alloc (.cells #[.int .i32 1, .int .i32 2, .int .u8 2, .int .i64 9, .int .i32 0, .int .i32 17, .slice As 2 cs, .int .i64 6, .int .i64 0, .int .i32 0, .int .i32 0] 30)) = w2 at *
  generalize htb : v1.heap.size + 1 = tb at *
  generalize hxb : v1.heap.size = xb at *
  clear hw2 htb hxb
  obtain ⟨t0, t1, t2, t3⟩ := T2.out
  go_wp2_with fail
  refine (fresh_any 1 2 5 _).mono ?_
  rintro e v3 ⟨A3, c3, rfl, hk, hb⟩
  rw [show freshE 1 2 5 = 0 from nm_ev.1, show freshO 1 2 5 = nmR from rfl]
  rw [show freshO 1 2 5 = nmR from rfl] at hk
  dsimp only [Rec.v, Rec.to]
  replace hk := hk.rdb
  clear t0 t1 t2 t3 T2
  have Xtb__3 := Lib.hid (Xtb_2.out.next hb); clear Xtb_2
  have Ktb__3 := Lib.hid (Ktb_2.out.next hb); clear Ktb_2
  have P_3 := Lib.hid (P2.out.trans ((hb).mono P2.out.size)); clear P2
  clear hb
  go_upto_region 4 with (fail)
  have Xtb_3 := Lib.hid (Xtb__3.out.next ((Below.refl v3.heap.size v3).alloc (Nat.le_refl _) (.cells #[.int .i32 nmR.nd, .int .i32 nmR.nu, .int .u8 nmR.st, .int .i64 nmR.at_.wall, .int .i32 nmR.at_.logic, .int .i32 nmR.at_.tag, .slice A3 nmR.n c3, .int .i64 nmR.beat, .int .i64 nmR.pu.wall, .int .i32 nmR.pu.logic, .int .i32 nmR.pu.tag] 30))); clear Xtb__3
  have Ktb_3 := Lib.hid (Ktb__3.out.next ((Below.refl v3.heap.size v3).alloc (Nat.le_refl _) (.cells #[.int .i32 nmR.nd, .int .i32 nmR.nu, .int .u8 nmR.st, .int .i64 nmR.at_.wall, .int .i32 nmR.at_.logic, .int .i32 nmR.at_.tag, .slice A3 nmR.n c3, .int .i64 nmR.beat, .int .i64 nmR.pu.wall, .int .i32 nmR.pu.logic, .int .i32 nmR.pu.tag] 30))); clear Ktb__3
  have P3 := Lib.hid (P_3.out.trans ((((Below.refl v3.heap.size v3).alloc (Nat.le_refl _) (.cells #[.int .i32 nmR.nd, .int .i32 nmR.nu, .int .u8 nmR.st, .int .i64 nmR.at_.wall, .int .i32 nmR.at_.logic, .int .i32 nmR.at_.tag, .slice A3 nmR.n c3, .int .i64 nmR.beat, .int .i64 nmR.pu.wall, .int .i32 nmR.pu.logic, .int .i32 nmR.pu.tag] 30))).mono P_3.out.size)); clear P_3
  have Xrb_3 : Hid (BxQ (v3.alloc (.cells #[.int .i32 nmR.nd, .int .i32 nmR.nu, .int .u8 nmR.st, .int .i64 nmR.at_.wall, .int .i32 nmR.at_.logic, .int .i32 nmR.at_.tag, .slice A3 nmR.n c3, .int .i64 nmR.beat, .int .i64 nmR.pu.wall, .int .i32 nmR.pu.logic, .int .i32 nmR.pu.tag] 30)) v3.heap.size (nmR.to A3 c3)) := Lib.hid (BxQ.new v3 (nmR.to A3 c3) 30)
  have Krb_3 := Lib.hid (hk.next ((Below.refl v3.heap.size v3).alloc (Nat.le_refl _) (.cells #[.int .i32 nmR.nd, .int .i32 nmR.nu, .int .u8 nmR.st, .int .i64 nmR.at_.wall, .int .i32 nmR.at_.logic, .int .i32 nmR.at_.tag, .slice A3 nmR.n c3, .int .i64 nmR.beat, .int .i64 nmR.pu.wall, .int .i32 nmR.pu.logic, .int .i32 nmR.pu.tag] 30)))
  clear hk
  generalize hw3 : (v3.alloc (.cells #[.int .i32 nmR.nd, .int .i32 nmR.nu, .int .u8 nmR.st, .int .i64 nmR.at_.wall, .int .i32 nmR.at_.logic, .int .i32 nmR.at_.tag, .slice A3 nmR.n c3, .int .i64 nmR.beat, .int .i64 nmR.pu.wall, .int .i32 nmR.pu.logic, .int .i32 nmR.pu.tag] 30)) = w3 at *
  generalize hv3 : v3.heap.size = rb at *
  clear hw3 hv3
  go_upto_region 5 with (fail)
  have hY4 := rdn_new w3 [tx 97, tx 98] 9 0 (Nat.zero_le _)
  have hY4 : Hid (RdB (w3.alloc (.cells #[.string ⟨#[97]⟩, .string ⟨#[98]⟩] 9)) 0 (w3.alloc (.cells #[.string ⟨#[97]⟩, .string ⟨#[98]⟩] 9)).heap.size (some ⟨w3.heap.size, 0, none⟩) (sv [tx 97, tx 98])) := Lib.hid hY4.rdb
  obtain ⟨hi4, hhi⟩ : ∃ h, h = (w3.alloc (.cells #[.string ⟨#[97]⟩, .string ⟨#[98]⟩] 9)).heap.size := ⟨_, rfl⟩
  have Kky_4 := Lib.hid hY4.out
  rw [← hhi] at Kky_4
  clear hY4 hhi
  have Xtb_4 := Lib.hid (Xtb_3.out.next ((Below.refl w3.heap.size w3).alloc (Nat.le_refl _) (.cells #[.string ⟨#[97]⟩, .string ⟨#[98]⟩] 9))); clear Xtb_3
  have Ktb_4 := Lib.hid (Ktb_3.out.next ((Below.refl w3.heap.size w3).alloc (Nat.le_refl _) (.cells #[.string ⟨#[97]⟩, .string ⟨#[98]⟩] 9))); clear Ktb_3
  have P4 := Lib.hid (P3.out.trans ((((Below.refl w3.heap.size w3).alloc (Nat.le_refl _) (.cells #[.string ⟨#[97]⟩, .string ⟨#[98]⟩] 9))).mono P3.out.size)); clear P3
  have Xrb_4 := Lib.hid (Xrb_3.out.next ((Below.refl w3.heap.size w3).alloc (Nat.le_refl _) (.cells #[.string ⟨#[97]⟩, .string ⟨#[98]⟩] 9))); clear Xrb_3
  have Krb_4 := Lib.hid (Krb_3.out.next ((Below.refl w3.heap.size w3).alloc (Nat.le_refl _) (.cells #[.string ⟨#[97]⟩, .string ⟨#[98]⟩] 9))); clear Krb_3
  generalize hw4 : (w3.alloc (.cells #[.string ⟨#[97]⟩, .string ⟨#[98]⟩] 9)) = w4 at *
  generalize hk4 : w3.heap.size = kb at *
  clear hw4 hk4
  go_cut [7, 8] from 9 (fun s7 s8 wc => ∃ b A c lo hi, s7 = .pointer (some ⟨b, 0, none⟩) ∧ s8 = .int .i64 2 ∧ Hid (BxQ wc b (nmF.to A c) ∧ RdB wc lo hi A (sv nmF.l) ∧ Below w4.heap.size w4 wc))
  case first =>
    refine wp_heldall (S := fun W => BxQ W rb (nmR.to A3 c3)) 10 (by kernel_rfl) rfl (Xrb_4.out.next (Below.drew (Below.refl _ _))) (fun hHeld => ?_)
    have hxl : rb < w4.heap.size := Xrb_4.out.lt
    refine takeL (i := 0) (v := ?_) rfl (by kernel_rfl) (by kernel_rfl) (by kernel_rfl) (fun _ _ _ h => h) ⟨by rfl, ?_⟩ (by assumption) ?_
    rotate_left
    · intro W9 hSw
      (try dsimp only at hSw)
      obtain ⟨s0, s1, s2, s3, s4, s5, s6, s7, s8, s9, s10, s11, s12⟩ := hSw
      try dsimp only [Rec.to] at s2 s3 s4 s5 s6 s7 s8 s9 s10 s11 s12
      go_simp
      try with_reducible rfl
    (try simp only [Act.put, List.setIfInBounds_toArray, List.set_cons_zero, List.set_cons_succ])
    refine takeL (i := 2) (v := ?_) rfl (by kernel_rfl) (by kernel_rfl) (by kernel_rfl) (fun _ _ _ h => h) ⟨by rfl, ?_⟩ (by assumption) ?_
    rotate_left
    · intro W9 hSw
      (try dsimp only at hSw)
      obtain ⟨s0, s1, s2, s3, s4, s5, s6, s7, s8, s9, s10, s11, s12⟩ := hSw
      try dsimp only [Rec.to] at s2 s3 s4 s5 s6 s7 s8 s9 s10 s11 s12
      go_simp
      try with_reducible rfl
    (try simp only [Act.put, List.setIfInBounds_toArray, List.set_cons_zero, List.set_cons_succ])
    have kX : Below w4.heap.size w4 w4.drew := Below.drew (Below.refl _ _)
    have hX := hHeld
    clear hHeld
    generalize w4.drew = X at *
    refine wpAnyH_ready (rs := [1, 7]) (by kernel_rfl) (by simp) ?_
    refine consL rfl (by rfl) (fun K hK => ?_) ?_
    · skip
      go_simp
      go_at_call 38
      refine (st22_any _ _ _ _).mono ?_
      rintro e X2 ⟨rfl, hb⟩
      refine hK.out _ _ (hX.next hb) (fun hX' => ?_)
      clear hK K
      have kX2 : Below w4.heap.size w4 X2 := kX.trans (hb.mono kX.size)
      clear kX hX hb
      clear X
      obtain ⟨X, rfl⟩ : ∃ x, x = X2 := ⟨_, rfl⟩
      have kX := kX2; have hX := hX'; clear kX2 hX'
      refine wpAnyH_ready (rs := [3, 7]) (by kernel_rfl) (by simp) ?_
      refine consL rfl (by rfl) (fun K hK => ?_) ?_
      · skip
        go_simp
        go_at_call 29
        refine (nmF_is X A3 c3 _ (rd_of (Krb_4.out.next kX)) (rd_of (Kky_4.out.next kX))).mono ?_
        rintro e X2 ⟨A9, c9, rfl, hk9, hb⟩
        dsimp only [Rec.v, Rec.to]
        refine hK.out _ _ (hX.next hb) (fun hX' => ?_)
        clear hK K
        have kX2 : Below w4.heap.size w4 X2 := kX.trans (hb.mono kX.size)
        have hr2 := hk9.rdb
        obtain ⟨lo, hlo9⟩ : ∃ l, l = X.heap.size := ⟨_, rfl⟩
        obtain ⟨hi, hhi9⟩ : ∃ l, l = X2.heap.size := ⟨_, rfl⟩
        rw [← hlo9, ← hhi9] at hr2
        clear kX hX hb hk9 hlo9 hhi9
        clear X
        obtain ⟨X, rfl⟩ : ∃ x, x = X2 := ⟨_, rfl⟩
        have kX := kX2; have hX := hX'; have hr := hr2; clear kX2 hX' hr2
        refine takeL (i := 4) (v := ?_) rfl (by kernel_rfl) (by kernel_rfl) (by kernel_rfl) (fun _ _ _ h => h) ⟨by rfl, ?_⟩ (by assumption) ?_
        rotate_left
        · intro W9 hSw
          (try dsimp only at hSw)
          go_simp
          try with_reducible rfl
        (try simp only [Act.put, List.setIfInBounds_toArray, List.set_cons_zero, List.set_cons_succ])
        refine takeL (i := 5) (v := ?_) rfl (by kernel_rfl) (by kernel_rfl) (by kernel_rfl) (fun _ _ _ h => h) ⟨by rfl, ?_⟩ (by assumption) ?_
        rotate_left
        · intro W9 hSw
          (try dsimp only at hSw)
          go_simp
          try with_reducible rfl
        (try simp only [Act.put, List.setIfInBounds_toArray, List.set_cons_zero, List.set_cons_succ])
        refine takeL (i := 6) (v := ?_) rfl (by kernel_rfl) (by kernel_rfl) (by kernel_rfl) (fun _ _ _ h => h) ⟨by rfl, ?_⟩ (by assumption) ?_
        rotate_left
        · intro W9 hSw
          (try dsimp only at hSw)
          go_simp
          try with_reducible rfl
        (try simp only [Act.put, List.setIfInBounds_toArray, List.set_cons_zero, List.set_cons_succ])
        refine wpAnyH_ready (rs := [7]) (by kernel_rfl) (by simp) ?_
        refine consL rfl (by rfl) (fun K hK => ?_) ?_
        · skip
          go_simp
          refine hK.out _ _ (hX.alloc _) (fun hX' => ?_)
          clear hK K
          have kX2 : Below w4.heap.size w4 (X.alloc (.cells #[.int .i32 0, .int .i32 0, .int .u8 0, .int .i64 0, .int .i32 0, .int .i32 0, .slice none 0 0, .int .i64 0, .int .i64 0, .int .i32 0, .int .i32 0] 30)) := kX.alloc kX.size _
          have B2 : BxQ (X.alloc (.cells #[.int .i32 0, .int .i32 0, .int .u8 0, .int .i64 0, .int .i32 0, .int .i32 0, .slice none 0 0, .int .i64 0, .int .i64 0, .int .i32 0, .int .i32 0] 30)) X.heap.size zeR := BxQ.new X zeR 30
          have hbz : w4.heap.size ≤ X.heap.size := kX.size
          have hr2 := hr.next ((Below.refl X.heap.size X).alloc (Nat.le_refl _) (.cells #[.int .i32 0, .int .i32 0, .int .u8 0, .int .i64 0, .int .i32 0, .int .i32 0, .slice none 0 0, .int .i64 0, .int .i64 0, .int .i32 0, .int .i32 0] 30))
          have hlo : X.heap.size < lo ∨ hi ≤ X.heap.size := .inr hr.1
          clear kX hX hr
          generalize hX9 : X.alloc (.cells #[.int .i32 0, .int .i32 0, .int .u8 0, .int .i64 0, .int .i32 0, .int .i32 0, .slice none 0 0, .int .i64 0, .int .i64 0, .int .i32 0, .int .i32 0] 30) = X2 at *
          generalize hX8 : X.heap.size = nb at *
          clear hX9 hX8 X
          obtain ⟨X, rfl⟩ : ∃ x, x = X2 := ⟨_, rfl⟩
          have kX := kX2; have hX := hX'; have B := B2; clear kX2 hX' B2
          have hr := hr2; clear hr2
          refine wpAnyH_ready (rs := [8]) (by kernel_rfl) (by simp) ?_
          refine consL rfl (by rfl) (fun K hK => ?_) ?_
          · skip
            have BB := Lib.hid B; have KX := Lib.hid kX; have HRR := Lib.hid hr; clear B kX hr
            obtain ⟨z0, z1, z2, z3, z4, z5, z6, z7, z8, z9, z10, z11, z12⟩ := BB.out
            try dsimp only [Rec.to] at z2 z3 z4 z5 z6 z7 z8 z9 z10 z11 z12
            go_simp
            refine hK.out _ (setR X nb (nmF.to A9 c9)) (hX.setO nb (by omega) (nmF.to A9 c9)) (fun hX' => ?_)
            clear hK K z0 z1 z2 z3 z4 z5 z6 z7 z8 z9 z10 z11 z12
            refine takeL (i := 9) (v := ?_) rfl (by kernel_rfl) (by kernel_rfl) (by kernel_rfl) (fun _ _ _ h => h) ⟨by rfl, ?_⟩ (by assumption) ?_
            rotate_left
            · intro W9 hSw
              (try dsimp only at hSw)
              go_simp
              try with_reducible rfl
            (try simp only [Act.put, List.setIfInBounds_toArray, List.set_cons_zero, List.set_cons_succ])
            refine wpAnyH_done (by kernel_rfl) ?_ _
            clear hX hX'
            go_wp2_with fail
            go_meet
            case rel =>
              exact ⟨nb, A9, c9, lo, hi, rfl, rfl, Lib.hid ⟨BxQ.setR BB.out (nmF.to A9 c9), RdB.setR HRR.out hlo (nmF.to A9 c9), bel_setR KX.out hbz (nmF.to A9 c9)⟩⟩
          exact AllReadyH.nil
        exact AllReadyH.nil
      refine consL rfl (by rfl) (fun K hK => ?_) ?_
      · skip
        go_simp
        refine hK.out _ _ (hX.alloc _) (fun hX' => ?_)
        clear hK K
        have kX2 : Below w4.heap.size w4 (X.alloc (.cells #[.int .i32 0, .int .i32 0, .int .u8 0, .int .i64 0, .int .i32 0, .int .i32 0, .slice none 0 0, .int .i64 0, .int .i64 0, .int .i32 0, .int .i32 0] 30)) := kX.alloc kX.size _
        have B2 : BxQ (X.alloc (.cells #[.int .i32 0, .int .i32 0, .int .u8 0, .int .i64 0, .int .i32 0, .int .i32 0, .slice none 0 0, .int .i64 0, .int .i64 0, .int .i32 0, .int .i32 0] 30)) X.heap.size zeR := BxQ.new X zeR 30
        have hbz : w4.heap.size ≤ X.heap.size := kX.size
        clear kX hX
        generalize hX9 : X.alloc (.cells #[.int .i32 0, .int .i32 0, .int .u8 0, .int .i64 0, .int .i32 0, .int .i32 0, .slice none 0 0, .int .i64 0, .int .i64 0, .int .i32 0, .int .i32 0] 30) = X2 at *
        generalize hX8 : X.heap.size = nb at *
        clear hX9 hX8 X
        obtain ⟨X, rfl⟩ : ∃ x, x = X2 := ⟨_, rfl⟩
        have kX := kX2; have hX := hX'; have B := B2; clear kX2 hX' B2
        refine wpAnyH_ready (rs := [3]) (by kernel_rfl) (by simp) ?_
        refine consL rfl (by rfl) (fun K hK => ?_) ?_
        · skip
          go_simp
          go_at_call 29
          refine (nmF_is X A3 c3 _ (rd_of (Krb_4.out.next kX)) (rd_of (Kky_4.out.next kX))).mono ?_
          rintro e X2 ⟨A9, c9, rfl, hk9, hb⟩
          dsimp only [Rec.v, Rec.to]
          refine hK.out _ _ (hX.next hb) (fun hX' => ?_)
          clear hK K
          have kX2 : Below w4.heap.size w4 X2 := kX.trans (hb.mono kX.size)
          have hr2 := hk9.rdb
          obtain ⟨lo, hlo9⟩ : ∃ l, l = X.heap.size := ⟨_, rfl⟩
          obtain ⟨hi, hhi9⟩ : ∃ l, l = X2.heap.size := ⟨_, rfl⟩
          rw [← hlo9, ← hhi9] at hr2
          have B2 := B.next hb
          have hlo : nb < lo ∨ hi ≤ nb := .inl (by rw [hlo9]; exact B.lt)
          clear kX hX hb hk9 hlo9 hhi9 B
          clear X
          obtain ⟨X, rfl⟩ : ∃ x, x = X2 := ⟨_, rfl⟩
          have kX := kX2; have hX := hX'; have hr := hr2; clear kX2 hX' hr2
          have B := B2; clear B2
          refine takeL (i := 4) (v := ?_) rfl (by kernel_rfl) (by kernel_rfl) (by kernel_rfl) (fun _ _ _ h => h) ⟨by rfl, ?_⟩ (by assumption) ?_
          rotate_left
          · intro W9 hSw
            (try dsimp only at hSw)
            go_simp
            try with_reducible rfl
          (try simp only [Act.put, List.setIfInBounds_toArray, List.set_cons_zero, List.set_cons_succ])
          refine takeL (i := 5) (v := ?_) rfl (by kernel_rfl) (by kernel_rfl) (by kernel_rfl) (fun _ _ _ h => h) ⟨by rfl, ?_⟩ (by assumption) ?_
          rotate_left
          · intro W9 hSw
            (try dsimp only at hSw)
            go_simp
            try with_reducible rfl
          (try simp only [Act.put, List.setIfInBounds_toArray, List.set_cons_zero, List.set_cons_succ])
          refine takeL (i := 6) (v := ?_) rfl (by kernel_rfl) (by kernel_rfl) (by kernel_rfl) (fun _ _ _ h => h) ⟨by rfl, ?_⟩ (by assumption) ?_
          rotate_left
          · intro W9 hSw
            (try dsimp only at hSw)
            go_simp
            try with_reducible rfl
          (try simp only [Act.put, List.setIfInBounds_toArray, List.set_cons_zero, List.set_cons_succ])
          refine wpAnyH_ready (rs := [8]) (by kernel_rfl) (by simp) ?_
          refine consL rfl (by rfl) (fun K hK => ?_) ?_
          · skip
            have BB := Lib.hid B; have KX := Lib.hid kX; have HRR := Lib.hid hr; clear B kX hr
            obtain ⟨z0, z1, z2, z3, z4, z5, z6, z7, z8, z9, z10, z11, z12⟩ := BB.out
            try dsimp only [Rec.to] at z2 z3 z4 z5 z6 z7 z8 z9 z10 z11 z12
            go_simp
            refine hK.out _ (setR X nb (nmF.to A9 c9)) (hX.setO nb (by omega) (nmF.to A9 c9)) (fun hX' => ?_)
            clear hK K z0 z1 z2 z3 z4 z5 z6 z7 z8 z9 z10 z11 z12
            refine takeL (i := 9) (v := ?_) rfl (by kernel_rfl) (by kernel_rfl) (by kernel_rfl) (fun _ _ _ h => h) ⟨by rfl, ?_⟩ (by assumption) ?_
            rotate_left
            · intro W9 hSw
              (try dsimp only at hSw)
              go_simp
              try with_reducible rfl
            (try simp only [Act.put, List.setIfInBounds_toArray, List.set_cons_zero, List.set_cons_succ])
            refine wpAnyH_done (by kernel_rfl) ?_ _
            clear hX hX'
            go_wp2_with fail
            go_meet
            case rel =>
              exact ⟨nb, A9, c9, lo, hi, rfl, rfl, Lib.hid ⟨BxQ.setR BB.out (nmF.to A9 c9), RdB.setR HRR.out hlo (nmF.to A9 c9), bel_setR KX.out hbz (nmF.to A9 c9)⟩⟩
          exact AllReadyH.nil
        exact AllReadyH.nil
      exact AllReadyH.nil
    refine consL rfl (by rfl) (fun K hK => ?_) ?_
    · skip
      go_simp
      refine hK.out _ _ (hX.alloc _) (fun hX' => ?_)
      clear hK K
      have kX2 : Below w4.heap.size w4 (X.alloc (.cells #[.int .i32 0, .int .i32 0, .int .u8 0, .int .i64 0, .int .i32 0, .int .i32 0, .slice none 0 0, .int .i64 0, .int .i64 0, .int .i32 0, .int .i32 0] 30)) := kX.alloc kX.size _
      have B2 : BxQ (X.alloc (.cells #[.int .i32 0, .int .i32 0, .int .u8 0, .int .i64 0, .int .i32 0, .int .i32 0, .slice none 0 0, .int .i64 0, .int .i64 0, .int .i32 0, .int .i32 0] 30)) X.heap.size zeR := BxQ.new X zeR 30
      have hbz : w4.heap.size ≤ X.heap.size := kX.size
      clear kX hX
      generalize hX9 : X.alloc (.cells #[.int .i32 0, .int .i32 0, .int .u8 0, .int .i64 0, .int .i32 0, .int .i32 0, .slice none 0 0, .int .i64 0, .int .i64 0, .int .i32 0, .int .i32 0] 30) = X2 at *
      generalize hX8 : X.heap.size = nb at *
      clear hX9 hX8 X
      obtain ⟨X, rfl⟩ : ∃ x, x = X2 := ⟨_, rfl⟩
      have kX := kX2; have hX := hX'; have B := B2; clear kX2 hX' B2
      refine wpAnyH_ready (rs := [1]) (by kernel_rfl) (by simp) ?_
      refine consL rfl (by rfl) (fun K hK => ?_) ?_
      · skip
        go_simp
        go_at_call 38
        refine (st22_any _ _ _ _).mono ?_
        rintro e X2 ⟨rfl, hb⟩
        refine hK.out _ _ (hX.next hb) (fun hX' => ?_)
        clear hK K
        have kX2 : Below w4.heap.size w4 X2 := kX.trans (hb.mono kX.size)
        have B2 := B.next hb
        clear kX hX hb B
        clear X
        obtain ⟨X, rfl⟩ : ∃ x, x = X2 := ⟨_, rfl⟩
        have kX := kX2; have hX := hX'; clear kX2 hX'
        have B := B2; clear B2
        refine wpAnyH_ready (rs := [3]) (by kernel_rfl) (by simp) ?_
        refine consL rfl (by rfl) (fun K hK => ?_) ?_
        · skip
          go_simp
          go_at_call 29
          refine (nmF_is X A3 c3 _ (rd_of (Krb_4.out.next kX)) (rd_of (Kky_4.out.next kX))).mono ?_
          rintro e X2 ⟨A9, c9, rfl, hk9, hb⟩
          dsimp only [Rec.v, Rec.to]
          refine hK.out _ _ (hX.next hb) (fun hX' => ?_)
          clear hK K
          have kX2 : Below w4.heap.size w4 X2 := kX.trans (hb.mono kX.size)
          have hr2 := hk9.rdb
          obtain ⟨lo, hlo9⟩ : ∃ l, l = X.heap.size := ⟨_, rfl⟩
          obtain ⟨hi, hhi9⟩ : ∃ l, l = X2.heap.size := ⟨_, rfl⟩
          rw [← hlo9, ← hhi9] at hr2
          have B2 := B.next hb
          have hlo : nb < lo ∨ hi ≤ nb := .inl (by rw [hlo9]; exact B.lt)
          clear kX hX hb hk9 hlo9 hhi9 B
          clear X
          obtain ⟨X, rfl⟩ : ∃ x, x = X2 := ⟨_, rfl⟩
          have kX := kX2; have hX := hX'; have hr := hr2; clear kX2 hX' hr2
          have B := B2; clear B2
          refine takeL (i := 4) (v := ?_) rfl (by kernel_rfl) (by kernel_rfl) (by kernel_rfl) (fun _ _ _ h => h) ⟨by rfl, ?_⟩ (by assumption) ?_
          rotate_left
          · intro W9 hSw
            (try dsimp only at hSw)
            go_simp
            try with_reducible rfl
          (try simp only [Act.put, List.setIfInBounds_toArray, List.set_cons_zero, List.set_cons_succ])
          refine takeL (i := 5) (v := ?_) rfl (by kernel_rfl) (by kernel_rfl) (by kernel_rfl) (fun _ _ _ h => h) ⟨by rfl, ?_⟩ (by assumption) ?_
          rotate_left
          · intro W9 hSw
            (try dsimp only at hSw)
            go_simp
            try with_reducible rfl
          (try simp only [Act.put, List.setIfInBounds_toArray, List.set_cons_zero, List.set_cons_succ])
          refine takeL (i := 6) (v := ?_) rfl (by kernel_rfl) (by kernel_rfl) (by kernel_rfl) (fun _ _ _ h => h) ⟨by rfl, ?_⟩ (by assumption) ?_
          rotate_left
          · intro W9 hSw
            (try dsimp only at hSw)
            go_simp
            try with_reducible rfl
          (try simp only [Act.put, List.setIfInBounds_toArray, List.set_cons_zero, List.set_cons_succ])
          refine wpAnyH_ready (rs := [8]) (by kernel_rfl) (by simp) ?_
          refine consL rfl (by rfl) (fun K hK => ?_) ?_
          · skip
            have BB := Lib.hid B; have KX := Lib.hid kX; have HRR := Lib.hid hr; clear B kX hr
            obtain ⟨z0, z1, z2, z3, z4, z5, z6, z7, z8, z9, z10, z11, z12⟩ := BB.out
            try dsimp only [Rec.to] at z2 z3 z4 z5 z6 z7 z8 z9 z10 z11 z12
            go_simp
            refine hK.out _ (setR X nb (nmF.to A9 c9)) (hX.setO nb (by omega) (nmF.to A9 c9)) (fun hX' => ?_)
            clear hK K z0 z1 z2 z3 z4 z5 z6 z7 z8 z9 z10 z11 z12
            refine takeL (i := 9) (v := ?_) rfl (by kernel_rfl) (by kernel_rfl) (by kernel_rfl) (fun _ _ _ h => h) ⟨by rfl, ?_⟩ (by assumption) ?_
            rotate_left
            · intro W9 hSw
              (try dsimp only at hSw)
              go_simp
              try with_reducible rfl
            (try simp only [Act.put, List.setIfInBounds_toArray, List.set_cons_zero, List.set_cons_succ])
            refine wpAnyH_done (by kernel_rfl) ?_ _
            clear hX hX'
            go_wp2_with fail
            go_meet
            case rel =>
              exact ⟨nb, A9, c9, lo, hi, rfl, rfl, Lib.hid ⟨BxQ.setR BB.out (nmF.to A9 c9), RdB.setR HRR.out hlo (nmF.to A9 c9), bel_setR KX.out hbz (nmF.to A9 c9)⟩⟩
          exact AllReadyH.nil
        exact AllReadyH.nil
      exact AllReadyH.nil
    exact AllReadyH.nil
  case rest =>
    rename_i K9 HK9
    obtain ⟨fb, A5, c5, lo5, hi5, rfl, rfl, hh⟩ := hcut
    obtain ⟨hX, hR, hB⟩ := hh.out
    obtain ⟨w5, rfl⟩ : ∃ x, x = wc := ⟨_, rfl⟩
    have Xtb_5 := Lib.hid (Xtb_4.out.next hB); clear Xtb_4
    have Ktb_5 := Lib.hid (Ktb_4.out.next hB); clear Ktb_4
    have P5 := Lib.hid (P4.out.trans ((hB).mono P4.out.size)); clear P4
    have Xrb_5 := Lib.hid (Xrb_4.out.next hB); clear Xrb_4
    have Krb_5 := Lib.hid (Krb_4.out.next hB); clear Krb_4
    have Kky_5 := Lib.hid (Kky_4.out.next hB); clear Kky_4
    have Xfb_5 := Lib.hid hX; have Kfb_5 := Lib.hid hR; clear hh hX hR hB
    apply HK9
    exact nm_p5 Xtb_5 Ktb_5 P5 Xrb_5 Krb_5 Kky_5 Xfb_5 Kfb_5
end Go.Proofs.Ythigmjcepbgljaa
