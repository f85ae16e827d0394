/- The walk: what is committed or aborted stays so for ever. -/
import Derived.Test.YthigmjcepbgljaaRG
import Derived.Test.YthigmjcepbgljaaCut
import Derived.Test.YthigmjcepbgljaaVu
import Derived.Deep.CutRange
import Derived.BigQuiet
namespace Go.Proofs.Ythigmjcepbgljaa
open Go.RowKit Go.St
set_option linter.unusedVariables false
set_option linter.unusedSimpArgs false
set_option maxRecDepth 100000

theorem RdB.setRo {w : World} {lo hi b : Nat} {A : Option Addr} {xs : List Value} (h : RdB w lo hi A xs) (hb : b < lo ∨ hi ≤ b) (r : Rec) : RdB (setR w b r) lo hi A xs := by
  have hc : ∀ p : Addr, b ≠ p.block → (Go.Proofs.Ythigmjcepbgljaa.setR w b r).cell? p = w.cell? p := fun p hp => by
    unfold Go.Proofs.Ythigmjcepbgljaa.setR
    simp only [World.cell?_setCell_far _ _ _ _ (show (Addr.block ⟨b, _, none⟩) ≠ p.block from hp)]
  refine ⟨by rw [size_setR]; exact h.1, fun hn => ?_⟩
  obtain ⟨b', off, e, h1, h2, h3⟩ := h.2 hn
  exact ⟨b', off, e, h1, h2, fun i v hv => (hc ⟨b', off + i, none⟩ (by show b ≠ b'; omega)).trans (h3 i v hv)⟩
theorem RdB.rdn {w : World} {lo hi B : Nat} {A : Option Addr} {xs : List Value} (h : RdB w lo hi A xs) (hB : B ≤ lo) : RdN w B A xs := fun hn => by
  obtain ⟨b, off, e, h1, h2, h3⟩ := h.2 hn
  exact ⟨b, off, e, Nat.le_trans hB h1, Nat.lt_of_lt_of_le h2 h.1, h3⟩
/-- A step's cells within its list. -/
structure StI (W : World) (b o : Nat) (s : StepL) : Prop where
  lt : b < W.heap.size
  c0 : W.cell? ⟨b, o, none⟩ = some (.int .i64 s.k)
  c1 : W.cell? ⟨b, o + 1, none⟩ = some (.int .i64 s.a.wall)
  c2 : W.cell? ⟨b, o + 2, none⟩ = some (.int .i32 s.a.logic)
  c3 : W.cell? ⟨b, o + 3, none⟩ = some (.int .i32 s.a.tag)
  c4 : W.cell? ⟨b, o + 4, none⟩ = some (.slice s.A s.n s.c)
  c5 : W.cell? ⟨b, o + 5, none⟩ = some (.int .i64 s.wl)
theorem StI.keep {W W' : World} {b o : Nat} {s : StepL} (h : StI W b o s) (hl : W.heap.size ≤ W'.heap.size) (hc : ∀ p : Addr, p.block = b → W'.cell? p = W.cell? p) : StI W' b o s :=
  ⟨Nat.lt_of_lt_of_le h.lt hl, (hc _ rfl).trans h.c0, (hc _ rfl).trans h.c1, (hc _ rfl).trans h.c2, (hc _ rfl).trans h.c3, (hc _ rfl).trans h.c4, (hc _ rfl).trans h.c5⟩
theorem StI.next {W W' : World} {b o : Nat} {s : StepL} (h : StI W b o s) (hb : Below W.heap.size W W') : StI W' b o s := h.keep hb.size (fun p hp => hb.cell (by rw [hp]; exact h.lt))
theorem StI.setR {W : World} {b o : Nat} {s : StepL} (h : StI W b o s) {b' : Nat} (hb : b < b') (r : Rec) : StI (setR W b' r) b o s := h.keep (Nat.le_of_eq (size_setR ..).symm) (fun p hp => by
  have : Below b' W (Go.Proofs.Ythigmjcepbgljaa.setR W b' r) := bel_setR (Below.refl _ _) (Nat.le_refl _) r
  exact this.cell (by rw [hp]; exact hb))
theorem step_at {w : World} {B : Nat} {A : Option Addr} {l : List StepL} (h : Rd w B A (l.map stepCells).flatten) (hB : B ≤ w.heap.size) (j : Nat) (s : StepL) (hj : l[j]? = some s) :
    ∃ b off, A = some ⟨b, off, none⟩ ∧ b < B ∧ StI w b (off + j * 6) s := by
  have hg : ∀ (i : Nat) (v : Value), (stepCells s)[i]? = some v → (l.map stepCells).flatten[j * 6 + i]? = some v := fun i v hv =>
    flatten_get (n := 6) (l.map stepCells) (step_len l) j i (stepCells s) v (by rw [List.getElem?_map, hj]; rfl) hv
  obtain ⟨b, off, e, hb, h0⟩ := h.at_ (hg 0 _ rfl)
  subst e
  have hc : ∀ (i : Nat) (v : Value), (stepCells s)[i]? = some v → w.cell? ⟨b, off + j * 6 + i, none⟩ = some v := fun i v hv => by
    obtain ⟨b', off', e', _, h'⟩ := h.at_ (hg i _ hv)
    injection e' with e'
    injection e' with e1 e2
    subst e1 e2
    rw [Nat.add_assoc]
    exact h'
  exact ⟨b, off, rfl, hb, Nat.lt_of_lt_of_le hb hB, hc 0 _ rfl, hc 1 _ rfl, hc 2 _ rfl, hc 3 _ rfl, hc 4 _ rfl, hc 5 _ rfl⟩
/-- What the region that takes a step reads. -/
structure RFS (W : World) (tb : Nat) (r : Rec) (b o : Nat) (s : StepL) : Prop where
  x : BxQ W tb r
  t : StI W b o s
theorem RFS.next {W W' : World} {tb : Nat} {r : Rec} {b o : Nat} {s : StepL} (h : RFS W tb r b o s) (hb : Below W.heap.size W W') : RFS W' tb r b o s := ⟨h.x.next hb, h.t.next hb⟩
theorem RFS.alloc {W : World} {tb : Nat} {r : Rec} {b o : Nat} {s : StepL} (h : RFS W tb r b o s) (ob : Obj) : RFS (W.alloc ob) tb r b o s := h.next ((Below.refl _ _).alloc (Nat.le_refl _) ob)
theorem RFS.setO {W : World} {tb : Nat} {r : Rec} {b o : Nat} {s : StepL} (h : RFS W tb r b o s) (nb : Nat) (h1 : nb ≠ tb) (h2 : b < nb) (q : Rec) : RFS (setR W nb q) tb r b o s := ⟨h.x.setO nb h1 q, h.t.setR h2 q⟩
/-- What is carried from step to step. -/
structure LpQ (w W : World) (tb : Nat) (r : Rec) : Prop where
  bel : Below w.heap.size w W
  hb : w.heap.size ≤ tb
  x : BxQ W tb r
  n : RdN W (tb + 1) r.A (sv r.l)
  ft : fit r
  chk : chkR r = 0
  stg : r.st = 2 → less r.pu r.at_ = true
theorem LpQ.next {w W W' : World} {tb : Nat} {r : Rec} (h : LpQ w W tb r) (hb : Below W.heap.size W W') : LpQ w W' tb r :=
  ⟨h.bel.trans (hb.mono h.bel.size), h.hb, h.x.next hb, h.n.next hb, h.ft, h.chk, h.stg⟩
theorem same_z (A A' : Option Addr) (c c' : Nat) (W : World) : Calls Try.prog 14 #[(zeR.to A c).v, (zeR.to A' c').v] W fun e w' => e = .returned (.bool true) ∧ Below W.heap.size W w' :=
  rsame_yes (zeR.to A c) A' c' rfl (Nat.zero_le _) 0 W (fun h => absurd rfl h) (fun h => absurd rfl h) (Nat.zero_le _)
theorem fresh_facts (nd nu wall : Int) : (freshE nd nu wall ≠ 0 ∧ freshO nd nu wall = zeR) ∨ (freshE nd nu wall = 0 ∧ chkR (freshO nd nu wall) = 0 ∧ fit (freshO nd nu wall) ∧ (freshO nd nu wall).st = 1 ∧ (freshO nd nu wall).l = []) := by
  have hO : freshO nd nu wall = if freshE nd nu wall = 0 then frR nd nu wall else zeR := rfl
  have hE : freshE nd nu wall = if chkR (frR nd nu wall) ≠ 0 then 2 else 0 := rfl
  rw [hO]
  by_cases h : chkR (frR nd nu wall) = 0
  · have : freshE nd nu wall = 0 := by rw [hE, if_neg (fun h' => h' h)]
    rw [if_pos this]
    exact .inr ⟨this, h, rfl, rfl, rfl⟩
  · have : freshE nd nu wall = 2 := by rw [hE, if_pos h]
    rw [this, if_neg (by decide)]
    exact .inl ⟨by decide, rfl⟩
theorem st_of {r : Rec} (h : chkR r = 0) : r.st = 1 ∨ r.st = 2 ∨ r.st = 3 ∨ r.st = 4 := by
  obtain ⟨_, _, _, h4⟩ := okR_parts (chkR_zero h).2
  omega
/-- The code behind a region, as far as it stands in one row with it. -/
def codeAfter (i : Nat) : Code → Option Code
  | .seq (.region j ops d) b => if j = i then some b else codeAfter i b
  | .seq a b => match codeAfter i a with
    | some c => some c
    | none => codeAfter i b
  | .block _ c => codeAfter i c
  | .scope c => codeAfter i c
  | .loop c => codeAfter i c
  | .cond _ a b => match codeAfter i a with
    | some c => some c
    | none => codeAfter i b
  | _ => none
noncomputable def rfBody : Code := (Try.f10.body.bind (codeAfter 9)).getD .skip
set_option maxHeartbeats 3200000 in
theorem rf_ok_1_1 {u0 u1 u3 u4 u5 u6 u8 u12 u13 u14 u15 u16 u17 u18 u19 u20 u21 u22 u23 u24 u25 u26 u27 u28 u29 u30 u31 u32 u33 u34 u35 u36 u37 u38 u39 u40 u41 u42 u43 u44 u45 u46 u47 u48 u49 u50 u51 u52 u53 u54 u55 u56 u57 u58 u59 u60 u61 u62 u63 u64 u65 u66 u67 u68 u69 u70 u71 u72 u73 u74 u75 u76 u77 u78 u79 u80 u81 u82 u83 u84 u85 u86 u87 u88 u89 u90 u91 u92 u93 u94 u95 u96 u97 u98 u99 u100 u101 u102 u103 u104 u105 u106 u107 u108 u109 u110 u111 u112 u113 u114 u115 u116 u117 u118 u119 u120 u121 u122 u123 u124 u125 u126 u127 u128 u129 u130 u131 u132 u133 u134 u135 u136 u137 u138 u139 u140 u141 u142 u143 u144 u145 u146 u147 u148 u149 u150 u151 u152 : Value} {Q0 : Exit → Act → World → Prop} {w w0 : World} {tb nb lo hi bb off k n c c9 : Nat} {A9 : Option Addr} {r O : Rec} {s : StepL} (Lw_0 : Hid (LpQ w w0 tb r)) (Y_0 : Hid (BxQ w0 nb (O.to A9 c9))) (K_0 : Hid (RdB w0 lo hi A9 (sv O.l))) (T_0 : Hid (StI w0 bb (off + k * 6) s))
    (HI9 : Hid (tb < nb ∧ tb + 1 ≤ lo)) (hok : StepOk r s O) (hkk : -9223372036854775808 ≤ s.k ∧ s.k ≤ 9223372036854775807) (i0 : (0 : Int) ≤ (k : Int)) (i1 : (k : Int) < (n : Int)) (hRs : r.st = 1) (hOs : O.st = 1)
    (hnext : Hid (∀ (v6 v10 v11 v12 v13 v36 v37 v38 v39 v40 v41 v42 v43 v44 v45 v46 v47 v48 v49 v50 v51 v52 v53 v54 v55 v56 v57 v58 v59 v60 v61 v62 v63 v64 v65 v66 v67 v68 v69 v70 v71 v72 v73 v74 v75 v76 v77 v78 v79 v80 v81 v82 v83 v84 v85 v86 v87 v88 v89 v90 v91 v92 v93 v94 v95 v96 v97 v98 v99 v100 v101 v102 v103 v104 v105 v106 v107 v108 v109 v110 v111 v112 v113 v114 v115 v116 v117 v118 v119 v120 v121 v122 v123 v124 v125 v126 v127 v128 v129 v130 v131 v132 v133 v134 v135 v136 v137 v138 v139 v140 v141 v142 v143 v144 v145 v146 v147 v148 v149 v150 v151 v152 : Value) (w' : World) (r' : Rec), LpQ w w' tb r' → Q0 .normal ⟨#[u0, u1, .slice (some ⟨bb, off, none⟩) n c, u3, u4, u5, v6, .pointer (some ⟨tb, 0, none⟩), u8, .int .i64 (k : Int), v10, v11, v12, v13, u14, u15, u16, u17, u18, u19, u20, u21, u22, u23, u24, u25, u26, u27, u28, u29, u30, u31, u32, u33, u34, u35, v36, v37, v38, v39, v40, v41, v42, v43, v44, v45, v46, v47, v48, v49, v50, v51, v52, v53, v54, v55, v56, v57, v58, v59, v60, v61, v62, v63, v64, v65, v66, v67, v68, v69, v70, v71, v72, v73, v74, v75, v76, v77, v78, v79, v80, v81, v82, v83, v84, v85, v86, v87, v88, v89, v90, v91, v92, v93, v94, v95, v96, v97, v98, v99, v100, v101, v102, v103, v104, v105, v106, v107, v108, v109, v110, v111, v112, v113, v114, v115, v116, v117, v118, v119, v120, v121, v122, v123, v124, v125, v126, v127, v128, v129, v130, v131, v132, v133, v134, v135, v136, v137, v138, v139, v140, v141, v142, v143, v144, v145, v146, v147, v148, v149, v150, v151, v152], []⟩ w')) :
    Code.wp Try.prog rfBody Q0 ⟨#[u0, u1, .slice (some ⟨bb, off, none⟩) n c, u3, u4, u5, u6, .pointer (some ⟨tb, 0, none⟩), u8, .int .i64 (k : Int), .pointer (some ⟨nb, 0, none⟩), .int .i64 0, u12, u13, u14, u15, u16, u17, u18, u19, u20, u21, u22, u23, u24, u25, u26, u27, u28, u29, u30, u31, u32, u33, u34, u35, u36, u37, u38, u39, u40, u41, u42, u43, u44, u45, u46, u47, u48, u49, u50, u51, u52, u53, u54, u55, u56, u57, u58, u59, u60, u61, u62, u63, u64, u65, u66, u67, u68, u69, u70, u71, u72, u73, u74, u75, u76, u77, u78, u79, u80, u81, u82, u83, u84, u85, u86, u87, u88, u89, u90, u91, u92, u93, u94, u95, u96, u97, u98, u99, u100, u101, u102, u103, u104, u105, u106, u107, u108, u109, u110, u111, u112, u113, u114, u115, u116, u117, u118, u119, u120, u121, u122, u123, u124, u125, u126, u127, u128, u129, u130, u131, u132, u133, u134, u135, u136, u137, u138, u139, u140, u141, u142, u143, u144, u145, u146, u147, u148, u149, u150, u151, u152], []⟩ w0 := by
  conv => arg 2; whnf
  have LQ0 := Lw_0.out
  have hft : fit O := hok.fit
  have hCk : chkR O = 0 := hok.chk
  have HCK : Hid (∀ W, Below w0.heap.size w0 W → Calls Try.prog 42 #[(O.to A9 c9).v] W (fun e w' => e = .returned (.int .i64 0) ∧ Below W.heap.size W w')) := Lib.hid (fun W h => by
    have h1 := reccheck_any (O.to A9 c9) hft w0.heap.size W ((K_0.out.rd.more K_0.out.1).below h) h.size
    rw [show chkR (O.to A9 c9) = 0 from hCk] at h1
    exact h1)
  have hfin : fit (O.to A9 c9) ∧ chkR (O.to A9 c9) = 0 ∧ ((O.to A9 c9).st = 2 → less (O.to A9 c9).pu (O.to A9 c9).at_ = true) := ⟨hft, hCk, hok.stg⟩
  have FIN := Lib.hid hfin
  have hnd := hok.nd; have hnu := hok.nu; have hcom := hok.com; have hstg := hok.stg; have hleft := hok.left
  clear hok hft hCk LQ0 hfin
  obtain ⟨nd1, nu1, st1, ⟨aw, al, ag⟩, rA, rn, rc, rl, rb, ⟨pw, pl, pg⟩⟩ := r
  obtain ⟨nd2, nu2, st2, ⟨bw, bl, bg⟩, oA, on, oc, ol, ob, ⟨qw, ql, qg⟩⟩ := O
  simp only at hRs hOs hnd hnu hcom hstg hleft
  subst hRs hOs hnd hnu
  unfold Rec.to at FIN HCK Y_0
  try unfold Rec.to at K_0
  unfold Rec.v at HCK
  simp only at FIN HCK Y_0
  try simp only at K_0
  clear hcom hstg hleft
  obtain ⟨x0, x1, x2, x3, x4, x5, x6, x7, x8, x9, x10, x11, x12⟩ := Lw_0.out.x
  try dsimp only [Rec.to] at x2 x3 x4 x5 x6 x7 x8 x9 x10 x11 x12
  obtain ⟨y0, y1, y2, y3, y4, y5, y6, y7, y8, y9, y10, y11, y12⟩ := Y_0.out
  try dsimp only [Rec.to] at y2 y3 y4 y5 y6 y7 y8 y9 y10 y11 y12
  obtain ⟨t0, t1, t2, t3, t4, t5, t6⟩ := T_0.out
  go_wp2_with fail
  refine (pick_any s.k 7 (by decide) (by decide) hkk _).mono ?_
  rintro e w9 ⟨rfl, hw9⟩
  subst hw9
  generalize s.k % 7 = kd at *
  go_wp2_with fail
  refine (HCK.out _ (Below.refl _ _)).mono ?_
  rintro e w1 ⟨rfl, hb⟩
  clear x0 x1 x2 x3 x4 x5 x6 x7 x8 x9 x10 x11 x12 y0 y1 y2 y3 y4 y5 y6 y7 y8 y9 y10 y11 y12 t0 t1 t2 t3 t4 t5 t6
  have Lw_1 := Lib.hid (Lw_0.out.next hb); clear Lw_0
  have Y_1 := Lib.hid (Y_0.out.next hb); clear Y_0
  have K_1 := Lib.hid (K_0.out.next hb); clear K_0
  have T_1 := Lib.hid (T_0.out.next hb); clear T_0
  clear hb
  clear HCK
  obtain ⟨x0, x1, x2, x3, x4, x5, x6, x7, x8, x9, x10, x11, x12⟩ := Lw_1.out.x
  try dsimp only [Rec.to] at x2 x3 x4 x5 x6 x7 x8 x9 x10 x11 x12
  obtain ⟨y0, y1, y2, y3, y4, y5, y6, y7, y8, y9, y10, y11, y12⟩ := Y_1.out
  try dsimp only [Rec.to] at y2 y3 y4 y5 y6 y7 y8 y9 y10 y11 y12
  obtain ⟨t0, t1, t2, t3, t4, t5, t6⟩ := T_1.out
  go_wp2_with fail
  go_quiet (fail)
  clear x0 x1 x2 x3 x4 x5 x6 x7 x8 x9 x10 x11 x12 y0 y1 y2 y3 y4 y5 y6 y7 y8 y9 y10 y11 y12 t0 t1 t2 t3 t4 t5 t6
  have hbq : Below w1.heap.size w1 (w1.drewN nq) := bel_dn (Below.refl _ _) nq
  have Lw_2 := Lib.hid (Lw_1.out.next hbq); clear Lw_1
  have Y_2 := Lib.hid (Y_1.out.next hbq); clear Y_1
  have K_2 := Lib.hid (K_1.out.next hbq); clear K_1
  have T_2 := Lib.hid (T_1.out.next hbq); clear T_1
  clear hbq
  generalize w1.drewN nq = w2 at *
  obtain ⟨x0, x1, x2, x3, x4, x5, x6, x7, x8, x9, x10, x11, x12⟩ := Lw_2.out.x
  try dsimp only [Rec.to] at x2 x3 x4 x5 x6 x7 x8 x9 x10 x11 x12
  obtain ⟨y0, y1, y2, y3, y4, y5, y6, y7, y8, y9, y10, y11, y12⟩ := Y_2.out
  try dsimp only [Rec.to] at y2 y3 y4 y5 y6 y7 y8 y9 y10 y11 y12
  obtain ⟨t0, t1, t2, t3, t4, t5, t6⟩ := T_2.out
  go_wp2_with fail
  exact hnext.out _ _ _ _ _ _ _ _ _ _ _ _ _ _ _ _ _ _ _ _ _ _ _ _ _ _ _ _ _ _ _ _ _ _ _ _ _ _ _ _ _ _ _ _ _ _ _ _ _ _ _ _ _ _ _ _ _ _ _ _ _ _ _ _ _ _ _ _ _ _ _ _ _ _ _ _ _ _ _ _ _ _ _ _ _ _ _ _ _ _ _ _ _ _ _ _ _ _ _ _ _ _ _ _ _ _ _ _ _ _ _ _ _ _ _ _ _ _ _ _ _ _ _ ⟨nd2, nu2, 1, ⟨bw, bl, bg⟩, A9, on, c9, ol, ob, ⟨qw, ql, qg⟩⟩ ⟨bel_setR Lw_2.out.bel Lw_2.out.hb ⟨nd2, nu2, 1, ⟨bw, bl, bg⟩, A9, on, c9, ol, ob, ⟨qw, ql, qg⟩⟩, Lw_2.out.hb, Lw_2.out.x.setR ⟨nd2, nu2, 1, ⟨bw, bl, bg⟩, A9, on, c9, ol, ob, ⟨qw, ql, qg⟩⟩, (K_2.out.rdn HI9.out.2).setR (Nat.lt_succ_self _) ⟨nd2, nu2, 1, ⟨bw, bl, bg⟩, A9, on, c9, ol, ob, ⟨qw, ql, qg⟩⟩, FIN.out.1, FIN.out.2.1, (by first | exact FIN.out.2.2 | exact fun _ => FIN.out.2.2 trivial)⟩
set_option maxHeartbeats 3200000 in
theorem rf_ok_1_2 {u0 u1 u3 u4 u5 u6 u8 u12 u13 u14 u15 u16 u17 u18 u19 u20 u21 u22 u23 u24 u25 u26 u27 u28 u29 u30 u31 u32 u33 u34 u35 u36 u37 u38 u39 u40 u41 u42 u43 u44 u45 u46 u47 u48 u49 u50 u51 u52 u53 u54 u55 u56 u57 u58 u59 u60 u61 u62 u63 u64 u65 u66 u67 u68 u69 u70 u71 u72 u73 u74 u75 u76 u77 u78 u79 u80 u81 u82 u83 u84 u85 u86 u87 u88 u89 u90 u91 u92 u93 u94 u95 u96 u97 u98 u99 u100 u101 u102 u103 u104 u105 u106 u107 u108 u109 u110 u111 u112 u113 u114 u115 u116 u117 u118 u119 u120 u121 u122 u123 u124 u125 u126 u127 u128 u129 u130 u131 u132 u133 u134 u135 u136 u137 u138 u139 u140 u141 u142 u143 u144 u145 u146 u147 u148 u149 u150 u151 u152 : Value} {Q0 : Exit → Act → World → Prop} {w w0 : World} {tb nb lo hi bb off k n c c9 : Nat} {A9 : Option Addr} {r O : Rec} {s : StepL} (Lw_0 : Hid (LpQ w w0 tb r)) (Y_0 : Hid (BxQ w0 nb (O.to A9 c9))) (K_0 : Hid (RdB w0 lo hi A9 (sv O.l))) (T_0 : Hid (StI w0 bb (off + k * 6) s))
    (HI9 : Hid (tb < nb ∧ tb + 1 ≤ lo)) (hok : StepOk r s O) (hkk : -9223372036854775808 ≤ s.k ∧ s.k ≤ 9223372036854775807) (i0 : (0 : Int) ≤ (k : Int)) (i1 : (k : Int) < (n : Int)) (hRs : r.st = 1) (hOs : O.st = 2)
    (hnext : Hid (∀ (v6 v10 v11 v12 v13 v36 v37 v38 v39 v40 v41 v42 v43 v44 v45 v46 v47 v48 v49 v50 v51 v52 v53 v54 v55 v56 v57 v58 v59 v60 v61 v62 v63 v64 v65 v66 v67 v68 v69 v70 v71 v72 v73 v74 v75 v76 v77 v78 v79 v80 v81 v82 v83 v84 v85 v86 v87 v88 v89 v90 v91 v92 v93 v94 v95 v96 v97 v98 v99 v100 v101 v102 v103 v104 v105 v106 v107 v108 v109 v110 v111 v112 v113 v114 v115 v116 v117 v118 v119 v120 v121 v122 v123 v124 v125 v126 v127 v128 v129 v130 v131 v132 v133 v134 v135 v136 v137 v138 v139 v140 v141 v142 v143 v144 v145 v146 v147 v148 v149 v150 v151 v152 : Value) (w' : World) (r' : Rec), LpQ w w' tb r' → Q0 .normal ⟨#[u0, u1, .slice (some ⟨bb, off, none⟩) n c, u3, u4, u5, v6, .pointer (some ⟨tb, 0, none⟩), u8, .int .i64 (k : Int), v10, v11, v12, v13, u14, u15, u16, u17, u18, u19, u20, u21, u22, u23, u24, u25, u26, u27, u28, u29, u30, u31, u32, u33, u34, u35, v36, v37, v38, v39, v40, v41, v42, v43, v44, v45, v46, v47, v48, v49, v50, v51, v52, v53, v54, v55, v56, v57, v58, v59, v60, v61, v62, v63, v64, v65, v66, v67, v68, v69, v70, v71, v72, v73, v74, v75, v76, v77, v78, v79, v80, v81, v82, v83, v84, v85, v86, v87, v88, v89, v90, v91, v92, v93, v94, v95, v96, v97, v98, v99, v100, v101, v102, v103, v104, v105, v106, v107, v108, v109, v110, v111, v112, v113, v114, v115, v116, v117, v118, v119, v120, v121, v122, v123, v124, v125, v126, v127, v128, v129, v130, v131, v132, v133, v134, v135, v136, v137, v138, v139, v140, v141, v142, v143, v144, v145, v146, v147, v148, v149, v150, v151, v152], []⟩ w')) :
    Code.wp Try.prog rfBody Q0 ⟨#[u0, u1, .slice (some ⟨bb, off, none⟩) n c, u3, u4, u5, u6, .pointer (some ⟨tb, 0, none⟩), u8, .int .i64 (k : Int), .pointer (some ⟨nb, 0, none⟩), .int .i64 0, u12, u13, u14, u15, u16, u17, u18, u19, u20, u21, u22, u23, u24, u25, u26, u27, u28, u29, u30, u31, u32, u33, u34, u35, u36, u37, u38, u39, u40, u41, u42, u43, u44, u45, u46, u47, u48, u49, u50, u51, u52, u53, u54, u55, u56, u57, u58, u59, u60, u61, u62, u63, u64, u65, u66, u67, u68, u69, u70, u71, u72, u73, u74, u75, u76, u77, u78, u79, u80, u81, u82, u83, u84, u85, u86, u87, u88, u89, u90, u91, u92, u93, u94, u95, u96, u97, u98, u99, u100, u101, u102, u103, u104, u105, u106, u107, u108, u109, u110, u111, u112, u113, u114, u115, u116, u117, u118, u119, u120, u121, u122, u123, u124, u125, u126, u127, u128, u129, u130, u131, u132, u133, u134, u135, u136, u137, u138, u139, u140, u141, u142, u143, u144, u145, u146, u147, u148, u149, u150, u151, u152], []⟩ w0 := by
  conv => arg 2; whnf
  have LQ0 := Lw_0.out
  have hft : fit O := hok.fit
  have hCk : chkR O = 0 := hok.chk
  have HCK : Hid (∀ W, Below w0.heap.size w0 W → Calls Try.prog 42 #[(O.to A9 c9).v] W (fun e w' => e = .returned (.int .i64 0) ∧ Below W.heap.size W w')) := Lib.hid (fun W h => by
    have h1 := reccheck_any (O.to A9 c9) hft w0.heap.size W ((K_0.out.rd.more K_0.out.1).below h) h.size
    rw [show chkR (O.to A9 c9) = 0 from hCk] at h1
    exact h1)
  have hfin : fit (O.to A9 c9) ∧ chkR (O.to A9 c9) = 0 ∧ ((O.to A9 c9).st = 2 → less (O.to A9 c9).pu (O.to A9 c9).at_ = true) := ⟨hft, hCk, hok.stg⟩
  have FIN := Lib.hid hfin
  have hnd := hok.nd; have hnu := hok.nu; have hcom := hok.com; have hstg := hok.stg; have hleft := hok.left
  clear hok hft hCk LQ0 hfin
  obtain ⟨nd1, nu1, st1, ⟨aw, al, ag⟩, rA, rn, rc, rl, rb, ⟨pw, pl, pg⟩⟩ := r
  obtain ⟨nd2, nu2, st2, ⟨bw, bl, bg⟩, oA, on, oc, ol, ob, ⟨qw, ql, qg⟩⟩ := O
  simp only at hRs hOs hnd hnu hcom hstg hleft
  subst hRs hOs hnd hnu
  unfold Rec.to at FIN HCK Y_0
  try unfold Rec.to at K_0
  unfold Rec.v at HCK
  simp only at FIN HCK Y_0
  try simp only at K_0
  have hless : less ⟨qw, ql, qg⟩ ⟨bw, bl, bg⟩ = true := hstg rfl
  have HLS := Lib.hid (fun W => rless_any ⟨qw, ql, qg⟩ ⟨bw, bl, bg⟩ W)
  rw [hless] at HLS
  simp only at HLS
  clear hless
  clear hcom hstg hleft
  obtain ⟨x0, x1, x2, x3, x4, x5, x6, x7, x8, x9, x10, x11, x12⟩ := Lw_0.out.x
  try dsimp only [Rec.to] at x2 x3 x4 x5 x6 x7 x8 x9 x10 x11 x12
  obtain ⟨y0, y1, y2, y3, y4, y5, y6, y7, y8, y9, y10, y11, y12⟩ := Y_0.out
  try dsimp only [Rec.to] at y2 y3 y4 y5 y6 y7 y8 y9 y10 y11 y12
  obtain ⟨t0, t1, t2, t3, t4, t5, t6⟩ := T_0.out
  go_wp2_with fail
  refine (pick_any s.k 7 (by decide) (by decide) hkk _).mono ?_
  rintro e w9 ⟨rfl, hw9⟩
  subst hw9
  generalize s.k % 7 = kd at *
  go_wp2_with fail
  refine (HCK.out _ (Below.refl _ _)).mono ?_
  rintro e w1 ⟨rfl, hb⟩
  clear x0 x1 x2 x3 x4 x5 x6 x7 x8 x9 x10 x11 x12 y0 y1 y2 y3 y4 y5 y6 y7 y8 y9 y10 y11 y12 t0 t1 t2 t3 t4 t5 t6
  have Lw_1 := Lib.hid (Lw_0.out.next hb); clear Lw_0
  have Y_1 := Lib.hid (Y_0.out.next hb); clear Y_0
  have K_1 := Lib.hid (K_0.out.next hb); clear K_0
  have T_1 := Lib.hid (T_0.out.next hb); clear T_0
  clear hb
  clear HCK
  obtain ⟨x0, x1, x2, x3, x4, x5, x6, x7, x8, x9, x10, x11, x12⟩ := Lw_1.out.x
  try dsimp only [Rec.to] at x2 x3 x4 x5 x6 x7 x8 x9 x10 x11 x12
  obtain ⟨y0, y1, y2, y3, y4, y5, y6, y7, y8, y9, y10, y11, y12⟩ := Y_1.out
  try dsimp only [Rec.to] at y2 y3 y4 y5 y6 y7 y8 y9 y10 y11 y12
  obtain ⟨t0, t1, t2, t3, t4, t5, t6⟩ := T_1.out
  go_wp2_with fail
  go_quiet (fail)
  clear x0 x1 x2 x3 x4 x5 x6 x7 x8 x9 x10 x11 x12 y0 y1 y2 y3 y4 y5 y6 y7 y8 y9 y10 y11 y12 t0 t1 t2 t3 t4 t5 t6
  have hbq : Below w1.heap.size w1 (w1.drewN nq) := bel_dn (Below.refl _ _) nq
  have Lw_2 := Lib.hid (Lw_1.out.next hbq); clear Lw_1
  have Y_2 := Lib.hid (Y_1.out.next hbq); clear Y_1
  have K_2 := Lib.hid (K_1.out.next hbq); clear K_1
  have T_2 := Lib.hid (T_1.out.next hbq); clear T_1
  clear hbq
  generalize w1.drewN nq = w2 at *
  obtain ⟨x0, x1, x2, x3, x4, x5, x6, x7, x8, x9, x10, x11, x12⟩ := Lw_2.out.x
  try dsimp only [Rec.to] at x2 x3 x4 x5 x6 x7 x8 x9 x10 x11 x12
  obtain ⟨y0, y1, y2, y3, y4, y5, y6, y7, y8, y9, y10, y11, y12⟩ := Y_2.out
  try dsimp only [Rec.to] at y2 y3 y4 y5 y6 y7 y8 y9 y10 y11 y12
  obtain ⟨t0, t1, t2, t3, t4, t5, t6⟩ := T_2.out
  go_wp2_with fail
  refine (HLS.out _).mono ?_
  rintro e w3 ⟨rfl, hb⟩
  clear x0 x1 x2 x3 x4 x5 x6 x7 x8 x9 x10 x11 x12 y0 y1 y2 y3 y4 y5 y6 y7 y8 y9 y10 y11 y12 t0 t1 t2 t3 t4 t5 t6
  have Lw_3 := Lib.hid (Lw_2.out.next hb); clear Lw_2
  have Y_3 := Lib.hid (Y_2.out.next hb); clear Y_2
  have K_3 := Lib.hid (K_2.out.next hb); clear K_2
  have T_3 := Lib.hid (T_2.out.next hb); clear T_2
  clear hb
  obtain ⟨x0, x1, x2, x3, x4, x5, x6, x7, x8, x9, x10, x11, x12⟩ := Lw_3.out.x
  try dsimp only [Rec.to] at x2 x3 x4 x5 x6 x7 x8 x9 x10 x11 x12
  obtain ⟨y0, y1, y2, y3, y4, y5, y6, y7, y8, y9, y10, y11, y12⟩ := Y_3.out
  try dsimp only [Rec.to] at y2 y3 y4 y5 y6 y7 y8 y9 y10 y11 y12
  obtain ⟨t0, t1, t2, t3, t4, t5, t6⟩ := T_3.out
  go_wp2_with fail
  exact hnext.out _ _ _ _ _ _ _ _ _ _ _ _ _ _ _ _ _ _ _ _ _ _ _ _ _ _ _ _ _ _ _ _ _ _ _ _ _ _ _ _ _ _ _ _ _ _ _ _ _ _ _ _ _ _ _ _ _ _ _ _ _ _ _ _ _ _ _ _ _ _ _ _ _ _ _ _ _ _ _ _ _ _ _ _ _ _ _ _ _ _ _ _ _ _ _ _ _ _ _ _ _ _ _ _ _ _ _ _ _ _ _ _ _ _ _ _ _ _ _ _ _ _ _ ⟨nd2, nu2, 2, ⟨bw, bl, bg⟩, A9, on, c9, ol, ob, ⟨qw, ql, qg⟩⟩ ⟨bel_setR Lw_3.out.bel Lw_3.out.hb ⟨nd2, nu2, 2, ⟨bw, bl, bg⟩, A9, on, c9, ol, ob, ⟨qw, ql, qg⟩⟩, Lw_3.out.hb, Lw_3.out.x.setR ⟨nd2, nu2, 2, ⟨bw, bl, bg⟩, A9, on, c9, ol, ob, ⟨qw, ql, qg⟩⟩, (K_3.out.rdn HI9.out.2).setR (Nat.lt_succ_self _) ⟨nd2, nu2, 2, ⟨bw, bl, bg⟩, A9, on, c9, ol, ob, ⟨qw, ql, qg⟩⟩, FIN.out.1, FIN.out.2.1, (by first | exact FIN.out.2.2 | exact fun _ => FIN.out.2.2 trivial)⟩
set_option maxHeartbeats 3200000 in
theorem rf_ok_1_3 {u0 u1 u3 u4 u5 u6 u8 u12 u13 u14 u15 u16 u17 u18 u19 u20 u21 u22 u23 u24 u25 u26 u27 u28 u29 u30 u31 u32 u33 u34 u35 u36 u37 u38 u39 u40 u41 u42 u43 u44 u45 u46 u47 u48 u49 u50 u51 u52 u53 u54 u55 u56 u57 u58 u59 u60 u61 u62 u63 u64 u65 u66 u67 u68 u69 u70 u71 u72 u73 u74 u75 u76 u77 u78 u79 u80 u81 u82 u83 u84 u85 u86 u87 u88 u89 u90 u91 u92 u93 u94 u95 u96 u97 u98 u99 u100 u101 u102 u103 u104 u105 u106 u107 u108 u109 u110 u111 u112 u113 u114 u115 u116 u117 u118 u119 u120 u121 u122 u123 u124 u125 u126 u127 u128 u129 u130 u131 u132 u133 u134 u135 u136 u137 u138 u139 u140 u141 u142 u143 u144 u145 u146 u147 u148 u149 u150 u151 u152 : Value} {Q0 : Exit → Act → World → Prop} {w w0 : World} {tb nb lo hi bb off k n c c9 : Nat} {A9 : Option Addr} {r O : Rec} {s : StepL} (Lw_0 : Hid (LpQ w w0 tb r)) (Y_0 : Hid (BxQ w0 nb (O.to A9 c9))) (K_0 : Hid (RdB w0 lo hi A9 (sv O.l))) (T_0 : Hid (StI w0 bb (off + k * 6) s))
    (HI9 : Hid (tb < nb ∧ tb + 1 ≤ lo)) (hok : StepOk r s O) (hkk : -9223372036854775808 ≤ s.k ∧ s.k ≤ 9223372036854775807) (i0 : (0 : Int) ≤ (k : Int)) (i1 : (k : Int) < (n : Int)) (hRs : r.st = 1) (hOs : O.st = 3)
    (hnext : Hid (∀ (v6 v10 v11 v12 v13 v36 v37 v38 v39 v40 v41 v42 v43 v44 v45 v46 v47 v48 v49 v50 v51 v52 v53 v54 v55 v56 v57 v58 v59 v60 v61 v62 v63 v64 v65 v66 v67 v68 v69 v70 v71 v72 v73 v74 v75 v76 v77 v78 v79 v80 v81 v82 v83 v84 v85 v86 v87 v88 v89 v90 v91 v92 v93 v94 v95 v96 v97 v98 v99 v100 v101 v102 v103 v104 v105 v106 v107 v108 v109 v110 v111 v112 v113 v114 v115 v116 v117 v118 v119 v120 v121 v122 v123 v124 v125 v126 v127 v128 v129 v130 v131 v132 v133 v134 v135 v136 v137 v138 v139 v140 v141 v142 v143 v144 v145 v146 v147 v148 v149 v150 v151 v152 : Value) (w' : World) (r' : Rec), LpQ w w' tb r' → Q0 .normal ⟨#[u0, u1, .slice (some ⟨bb, off, none⟩) n c, u3, u4, u5, v6, .pointer (some ⟨tb, 0, none⟩), u8, .int .i64 (k : Int), v10, v11, v12, v13, u14, u15, u16, u17, u18, u19, u20, u21, u22, u23, u24, u25, u26, u27, u28, u29, u30, u31, u32, u33, u34, u35, v36, v37, v38, v39, v40, v41, v42, v43, v44, v45, v46, v47, v48, v49, v50, v51, v52, v53, v54, v55, v56, v57, v58, v59, v60, v61, v62, v63, v64, v65, v66, v67, v68, v69, v70, v71, v72, v73, v74, v75, v76, v77, v78, v79, v80, v81, v82, v83, v84, v85, v86, v87, v88, v89, v90, v91, v92, v93, v94, v95, v96, v97, v98, v99, v100, v101, v102, v103, v104, v105, v106, v107, v108, v109, v110, v111, v112, v113, v114, v115, v116, v117, v118, v119, v120, v121, v122, v123, v124, v125, v126, v127, v128, v129, v130, v131, v132, v133, v134, v135, v136, v137, v138, v139, v140, v141, v142, v143, v144, v145, v146, v147, v148, v149, v150, v151, v152], []⟩ w')) :
    Code.wp Try.prog rfBody Q0 ⟨#[u0, u1, .slice (some ⟨bb, off, none⟩) n c, u3, u4, u5, u6, .pointer (some ⟨tb, 0, none⟩), u8, .int .i64 (k : Int), .pointer (some ⟨nb, 0, none⟩), .int .i64 0, u12, u13, u14, u15, u16, u17, u18, u19, u20, u21, u22, u23, u24, u25, u26, u27, u28, u29, u30, u31, u32, u33, u34, u35, u36, u37, u38, u39, u40, u41, u42, u43, u44, u45, u46, u47, u48, u49, u50, u51, u52, u53, u54, u55, u56, u57, u58, u59, u60, u61, u62, u63, u64, u65, u66, u67, u68, u69, u70, u71, u72, u73, u74, u75, u76, u77, u78, u79, u80, u81, u82, u83, u84, u85, u86, u87, u88, u89, u90, u91, u92, u93, u94, u95, u96, u97, u98, u99, u100, u101, u102, u103, u104, u105, u106, u107, u108, u109, u110, u111, u112, u113, u114, u115, u116, u117, u118, u119, u120, u121, u122, u123, u124, u125, u126, u127, u128, u129, u130, u131, u132, u133, u134, u135, u136, u137, u138, u139, u140, u141, u142, u143, u144, u145, u146, u147, u148, u149, u150, u151, u152], []⟩ w0 := by
  conv => arg 2; whnf
  have LQ0 := Lw_0.out
  have hft : fit O := hok.fit
  have hCk : chkR O = 0 := hok.chk
  have HCK : Hid (∀ W, Below w0.heap.size w0 W → Calls Try.prog 42 #[(O.to A9 c9).v] W (fun e w' => e = .returned (.int .i64 0) ∧ Below W.heap.size W w')) := Lib.hid (fun W h => by
    have h1 := reccheck_any (O.to A9 c9) hft w0.heap.size W ((K_0.out.rd.more K_0.out.1).below h) h.size
    rw [show chkR (O.to A9 c9) = 0 from hCk] at h1
    exact h1)
  have hfin : fit (O.to A9 c9) ∧ chkR (O.to A9 c9) = 0 ∧ ((O.to A9 c9).st = 2 → less (O.to A9 c9).pu (O.to A9 c9).at_ = true) := ⟨hft, hCk, hok.stg⟩
  have FIN := Lib.hid hfin
  have hnd := hok.nd; have hnu := hok.nu; have hcom := hok.com; have hstg := hok.stg; have hleft := hok.left
  clear hok hft hCk LQ0 hfin
  obtain ⟨nd1, nu1, st1, ⟨aw, al, ag⟩, rA, rn, rc, rl, rb, ⟨pw, pl, pg⟩⟩ := r
  obtain ⟨nd2, nu2, st2, ⟨bw, bl, bg⟩, oA, on, oc, ol, ob, ⟨qw, ql, qg⟩⟩ := O
  simp only at hRs hOs hnd hnu hcom hstg hleft
  subst hRs hOs hnd hnu
  unfold Rec.to at FIN HCK Y_0
  try unfold Rec.to at K_0
  unfold Rec.v at HCK
  simp only at FIN HCK Y_0
  try simp only at K_0
  have hless : less ⟨qw, ql, qg⟩ ⟨bw, bl, bg⟩ = true := hcom (by decide) (by decide) rfl
  have HLS := Lib.hid (fun W => rless_any ⟨qw, ql, qg⟩ ⟨bw, bl, bg⟩ W)
  rw [hless] at HLS
  simp only at HLS
  clear hless
  clear hcom hstg hleft
  obtain ⟨x0, x1, x2, x3, x4, x5, x6, x7, x8, x9, x10, x11, x12⟩ := Lw_0.out.x
  try dsimp only [Rec.to] at x2 x3 x4 x5 x6 x7 x8 x9 x10 x11 x12
  obtain ⟨y0, y1, y2, y3, y4, y5, y6, y7, y8, y9, y10, y11, y12⟩ := Y_0.out
  try dsimp only [Rec.to] at y2 y3 y4 y5 y6 y7 y8 y9 y10 y11 y12
  obtain ⟨t0, t1, t2, t3, t4, t5, t6⟩ := T_0.out
  go_wp2_with fail
  refine (pick_any s.k 7 (by decide) (by decide) hkk _).mono ?_
  rintro e w9 ⟨rfl, hw9⟩
  subst hw9
  generalize s.k % 7 = kd at *
  go_wp2_with fail
  refine (HCK.out _ (Below.refl _ _)).mono ?_
  rintro e w1 ⟨rfl, hb⟩
  clear x0 x1 x2 x3 x4 x5 x6 x7 x8 x9 x10 x11 x12 y0 y1 y2 y3 y4 y5 y6 y7 y8 y9 y10 y11 y12 t0 t1 t2 t3 t4 t5 t6
  have Lw_1 := Lib.hid (Lw_0.out.next hb); clear Lw_0
  have Y_1 := Lib.hid (Y_0.out.next hb); clear Y_0
  have K_1 := Lib.hid (K_0.out.next hb); clear K_0
  have T_1 := Lib.hid (T_0.out.next hb); clear T_0
  clear hb
  clear HCK
  obtain ⟨x0, x1, x2, x3, x4, x5, x6, x7, x8, x9, x10, x11, x12⟩ := Lw_1.out.x
  try dsimp only [Rec.to] at x2 x3 x4 x5 x6 x7 x8 x9 x10 x11 x12
  obtain ⟨y0, y1, y2, y3, y4, y5, y6, y7, y8, y9, y10, y11, y12⟩ := Y_1.out
  try dsimp only [Rec.to] at y2 y3 y4 y5 y6 y7 y8 y9 y10 y11 y12
  obtain ⟨t0, t1, t2, t3, t4, t5, t6⟩ := T_1.out
  go_wp2_with fail
  go_quiet (fail)
  clear x0 x1 x2 x3 x4 x5 x6 x7 x8 x9 x10 x11 x12 y0 y1 y2 y3 y4 y5 y6 y7 y8 y9 y10 y11 y12 t0 t1 t2 t3 t4 t5 t6
  have hbq : Below w1.heap.size w1 (w1.drewN nq) := bel_dn (Below.refl _ _) nq
  have Lw_2 := Lib.hid (Lw_1.out.next hbq); clear Lw_1
  have Y_2 := Lib.hid (Y_1.out.next hbq); clear Y_1
  have K_2 := Lib.hid (K_1.out.next hbq); clear K_1
  have T_2 := Lib.hid (T_1.out.next hbq); clear T_1
  clear hbq
  generalize w1.drewN nq = w2 at *
  obtain ⟨x0, x1, x2, x3, x4, x5, x6, x7, x8, x9, x10, x11, x12⟩ := Lw_2.out.x
  try dsimp only [Rec.to] at x2 x3 x4 x5 x6 x7 x8 x9 x10 x11 x12
  obtain ⟨y0, y1, y2, y3, y4, y5, y6, y7, y8, y9, y10, y11, y12⟩ := Y_2.out
  try dsimp only [Rec.to] at y2 y3 y4 y5 y6 y7 y8 y9 y10 y11 y12
  obtain ⟨t0, t1, t2, t3, t4, t5, t6⟩ := T_2.out
  go_wp2_with fail
  refine (HLS.out _).mono ?_
  rintro e w3 ⟨rfl, hb⟩
  clear x0 x1 x2 x3 x4 x5 x6 x7 x8 x9 x10 x11 x12 y0 y1 y2 y3 y4 y5 y6 y7 y8 y9 y10 y11 y12 t0 t1 t2 t3 t4 t5 t6
  have Lw_3 := Lib.hid (Lw_2.out.next hb); clear Lw_2
  have Y_3 := Lib.hid (Y_2.out.next hb); clear Y_2
  have K_3 := Lib.hid (K_2.out.next hb); clear K_2
  have T_3 := Lib.hid (T_2.out.next hb); clear T_2
  clear hb
  obtain ⟨x0, x1, x2, x3, x4, x5, x6, x7, x8, x9, x10, x11, x12⟩ := Lw_3.out.x
  try dsimp only [Rec.to] at x2 x3 x4 x5 x6 x7 x8 x9 x10 x11 x12
  obtain ⟨y0, y1, y2, y3, y4, y5, y6, y7, y8, y9, y10, y11, y12⟩ := Y_3.out
  try dsimp only [Rec.to] at y2 y3 y4 y5 y6 y7 y8 y9 y10 y11 y12
  obtain ⟨t0, t1, t2, t3, t4, t5, t6⟩ := T_3.out
  go_wp2_with fail
  exact hnext.out _ _ _ _ _ _ _ _ _ _ _ _ _ _ _ _ _ _ _ _ _ _ _ _ _ _ _ _ _ _ _ _ _ _ _ _ _ _ _ _ _ _ _ _ _ _ _ _ _ _ _ _ _ _ _ _ _ _ _ _ _ _ _ _ _ _ _ _ _ _ _ _ _ _ _ _ _ _ _ _ _ _ _ _ _ _ _ _ _ _ _ _ _ _ _ _ _ _ _ _ _ _ _ _ _ _ _ _ _ _ _ _ _ _ _ _ _ _ _ _ _ _ _ ⟨nd2, nu2, 3, ⟨bw, bl, bg⟩, A9, on, c9, ol, ob, ⟨qw, ql, qg⟩⟩ ⟨bel_setR Lw_3.out.bel Lw_3.out.hb ⟨nd2, nu2, 3, ⟨bw, bl, bg⟩, A9, on, c9, ol, ob, ⟨qw, ql, qg⟩⟩, Lw_3.out.hb, Lw_3.out.x.setR ⟨nd2, nu2, 3, ⟨bw, bl, bg⟩, A9, on, c9, ol, ob, ⟨qw, ql, qg⟩⟩, (K_3.out.rdn HI9.out.2).setR (Nat.lt_succ_self _) ⟨nd2, nu2, 3, ⟨bw, bl, bg⟩, A9, on, c9, ol, ob, ⟨qw, ql, qg⟩⟩, FIN.out.1, FIN.out.2.1, (by first | exact FIN.out.2.2 | exact fun _ => FIN.out.2.2 trivial)⟩
set_option maxHeartbeats 3200000 in
theorem rf_ok_1_4 {u0 u1 u3 u4 u5 u6 u8 u12 u13 u14 u15 u16 u17 u18 u19 u20 u21 u22 u23 u24 u25 u26 u27 u28 u29 u30 u31 u32 u33 u34 u35 u36 u37 u38 u39 u40 u41 u42 u43 u44 u45 u46 u47 u48 u49 u50 u51 u52 u53 u54 u55 u56 u57 u58 u59 u60 u61 u62 u63 u64 u65 u66 u67 u68 u69 u70 u71 u72 u73 u74 u75 u76 u77 u78 u79 u80 u81 u82 u83 u84 u85 u86 u87 u88 u89 u90 u91 u92 u93 u94 u95 u96 u97 u98 u99 u100 u101 u102 u103 u104 u105 u106 u107 u108 u109 u110 u111 u112 u113 u114 u115 u116 u117 u118 u119 u120 u121 u122 u123 u124 u125 u126 u127 u128 u129 u130 u131 u132 u133 u134 u135 u136 u137 u138 u139 u140 u141 u142 u143 u144 u145 u146 u147 u148 u149 u150 u151 u152 : Value} {Q0 : Exit → Act → World → Prop} {w w0 : World} {tb nb lo hi bb off k n c c9 : Nat} {A9 : Option Addr} {r O : Rec} {s : StepL} (Lw_0 : Hid (LpQ w w0 tb r)) (Y_0 : Hid (BxQ w0 nb (O.to A9 c9))) (K_0 : Hid (RdB w0 lo hi A9 (sv O.l))) (T_0 : Hid (StI w0 bb (off + k * 6) s))
    (HI9 : Hid (tb < nb ∧ tb + 1 ≤ lo)) (hok : StepOk r s O) (hkk : -9223372036854775808 ≤ s.k ∧ s.k ≤ 9223372036854775807) (i0 : (0 : Int) ≤ (k : Int)) (i1 : (k : Int) < (n : Int)) (hRs : r.st = 1) (hOs : O.st = 4)
    (hnext : Hid (∀ (v6 v10 v11 v12 v13 v36 v37 v38 v39 v40 v41 v42 v43 v44 v45 v46 v47 v48 v49 v50 v51 v52 v53 v54 v55 v56 v57 v58 v59 v60 v61 v62 v63 v64 v65 v66 v67 v68 v69 v70 v71 v72 v73 v74 v75 v76 v77 v78 v79 v80 v81 v82 v83 v84 v85 v86 v87 v88 v89 v90 v91 v92 v93 v94 v95 v96 v97 v98 v99 v100 v101 v102 v103 v104 v105 v106 v107 v108 v109 v110 v111 v112 v113 v114 v115 v116 v117 v118 v119 v120 v121 v122 v123 v124 v125 v126 v127 v128 v129 v130 v131 v132 v133 v134 v135 v136 v137 v138 v139 v140 v141 v142 v143 v144 v145 v146 v147 v148 v149 v150 v151 v152 : Value) (w' : World) (r' : Rec), LpQ w w' tb r' → Q0 .normal ⟨#[u0, u1, .slice (some ⟨bb, off, none⟩) n c, u3, u4, u5, v6, .pointer (some ⟨tb, 0, none⟩), u8, .int .i64 (k : Int), v10, v11, v12, v13, u14, u15, u16, u17, u18, u19, u20, u21, u22, u23, u24, u25, u26, u27, u28, u29, u30, u31, u32, u33, u34, u35, v36, v37, v38, v39, v40, v41, v42, v43, v44, v45, v46, v47, v48, v49, v50, v51, v52, v53, v54, v55, v56, v57, v58, v59, v60, v61, v62, v63, v64, v65, v66, v67, v68, v69, v70, v71, v72, v73, v74, v75, v76, v77, v78, v79, v80, v81, v82, v83, v84, v85, v86, v87, v88, v89, v90, v91, v92, v93, v94, v95, v96, v97, v98, v99, v100, v101, v102, v103, v104, v105, v106, v107, v108, v109, v110, v111, v112, v113, v114, v115, v116, v117, v118, v119, v120, v121, v122, v123, v124, v125, v126, v127, v128, v129, v130, v131, v132, v133, v134, v135, v136, v137, v138, v139, v140, v141, v142, v143, v144, v145, v146, v147, v148, v149, v150, v151, v152], []⟩ w')) :
    Code.wp Try.prog rfBody Q0 ⟨#[u0, u1, .slice (some ⟨bb, off, none⟩) n c, u3, u4, u5, u6, .pointer (some ⟨tb, 0, none⟩), u8, .int .i64 (k : Int), .pointer (some ⟨nb, 0, none⟩), .int .i64 0, u12, u13, u14, u15, u16, u17, u18, u19, u20, u21, u22, u23, u24, u25, u26, u27, u28, u29, u30, u31, u32, u33, u34, u35, u36, u37, u38, u39, u40, u41, u42, u43, u44, u45, u46, u47, u48, u49, u50, u51, u52, u53, u54, u55, u56, u57, u58, u59, u60, u61, u62, u63, u64, u65, u66, u67, u68, u69, u70, u71, u72, u73, u74, u75, u76, u77, u78, u79, u80, u81, u82, u83, u84, u85, u86, u87, u88, u89, u90, u91, u92, u93, u94, u95, u96, u97, u98, u99, u100, u101, u102, u103, u104, u105, u106, u107, u108, u109, u110, u111, u112, u113, u114, u115, u116, u117, u118, u119, u120, u121, u122, u123, u124, u125, u126, u127, u128, u129, u130, u131, u132, u133, u134, u135, u136, u137, u138, u139, u140, u141, u142, u143, u144, u145, u146, u147, u148, u149, u150, u151, u152], []⟩ w0 := by
  conv => arg 2; whnf
  have LQ0 := Lw_0.out
  have hft : fit O := hok.fit
  have hCk : chkR O = 0 := hok.chk
  have HCK : Hid (∀ W, Below w0.heap.size w0 W → Calls Try.prog 42 #[(O.to A9 c9).v] W (fun e w' => e = .returned (.int .i64 0) ∧ Below W.heap.size W w')) := Lib.hid (fun W h => by
    have h1 := reccheck_any (O.to A9 c9) hft w0.heap.size W ((K_0.out.rd.more K_0.out.1).below h) h.size
    rw [show chkR (O.to A9 c9) = 0 from hCk] at h1
    exact h1)
  have hfin : fit (O.to A9 c9) ∧ chkR (O.to A9 c9) = 0 ∧ ((O.to A9 c9).st = 2 → less (O.to A9 c9).pu (O.to A9 c9).at_ = true) := ⟨hft, hCk, hok.stg⟩
  have FIN := Lib.hid hfin
  have hnd := hok.nd; have hnu := hok.nu; have hcom := hok.com; have hstg := hok.stg; have hleft := hok.left
  clear hok hft hCk LQ0 hfin
  obtain ⟨nd1, nu1, st1, ⟨aw, al, ag⟩, rA, rn, rc, rl, rb, ⟨pw, pl, pg⟩⟩ := r
  obtain ⟨nd2, nu2, st2, ⟨bw, bl, bg⟩, oA, on, oc, ol, ob, ⟨qw, ql, qg⟩⟩ := O
  simp only at hRs hOs hnd hnu hcom hstg hleft
  subst hRs hOs hnd hnu
  unfold Rec.to at FIN HCK Y_0
  try unfold Rec.to at K_0
  unfold Rec.v at HCK
  simp only at FIN HCK Y_0
  try simp only at K_0
  clear hcom hstg hleft
  obtain ⟨x0, x1, x2, x3, x4, x5, x6, x7, x8, x9, x10, x11, x12⟩ := Lw_0.out.x
  try dsimp only [Rec.to] at x2 x3 x4 x5 x6 x7 x8 x9 x10 x11 x12
  obtain ⟨y0, y1, y2, y3, y4, y5, y6, y7, y8, y9, y10, y11, y12⟩ := Y_0.out
  try dsimp only [Rec.to] at y2 y3 y4 y5 y6 y7 y8 y9 y10 y11 y12
  obtain ⟨t0, t1, t2, t3, t4, t5, t6⟩ := T_0.out
  go_wp2_with fail
  refine (pick_any s.k 7 (by decide) (by decide) hkk _).mono ?_
  rintro e w9 ⟨rfl, hw9⟩
  subst hw9
  generalize s.k % 7 = kd at *
  go_wp2_with fail
  refine (HCK.out _ (Below.refl _ _)).mono ?_
  rintro e w1 ⟨rfl, hb⟩
  clear x0 x1 x2 x3 x4 x5 x6 x7 x8 x9 x10 x11 x12 y0 y1 y2 y3 y4 y5 y6 y7 y8 y9 y10 y11 y12 t0 t1 t2 t3 t4 t5 t6
  have Lw_1 := Lib.hid (Lw_0.out.next hb); clear Lw_0
  have Y_1 := Lib.hid (Y_0.out.next hb); clear Y_0
  have K_1 := Lib.hid (K_0.out.next hb); clear K_0
  have T_1 := Lib.hid (T_0.out.next hb); clear T_0
  clear hb
  clear HCK
  obtain ⟨x0, x1, x2, x3, x4, x5, x6, x7, x8, x9, x10, x11, x12⟩ := Lw_1.out.x
  try dsimp only [Rec.to] at x2 x3 x4 x5 x6 x7 x8 x9 x10 x11 x12
  obtain ⟨y0, y1, y2, y3, y4, y5, y6, y7, y8, y9, y10, y11, y12⟩ := Y_1.out
  try dsimp only [Rec.to] at y2 y3 y4 y5 y6 y7 y8 y9 y10 y11 y12
  obtain ⟨t0, t1, t2, t3, t4, t5, t6⟩ := T_1.out
  go_wp2_with fail
  go_quiet (fail)
  clear x0 x1 x2 x3 x4 x5 x6 x7 x8 x9 x10 x11 x12 y0 y1 y2 y3 y4 y5 y6 y7 y8 y9 y10 y11 y12 t0 t1 t2 t3 t4 t5 t6
  have hbq : Below w1.heap.size w1 (w1.drewN nq) := bel_dn (Below.refl _ _) nq
  have Lw_2 := Lib.hid (Lw_1.out.next hbq); clear Lw_1
  have Y_2 := Lib.hid (Y_1.out.next hbq); clear Y_1
  have K_2 := Lib.hid (K_1.out.next hbq); clear K_1
  have T_2 := Lib.hid (T_1.out.next hbq); clear T_1
  clear hbq
  generalize w1.drewN nq = w2 at *
  obtain ⟨x0, x1, x2, x3, x4, x5, x6, x7, x8, x9, x10, x11, x12⟩ := Lw_2.out.x
  try dsimp only [Rec.to] at x2 x3 x4 x5 x6 x7 x8 x9 x10 x11 x12
  obtain ⟨y0, y1, y2, y3, y4, y5, y6, y7, y8, y9, y10, y11, y12⟩ := Y_2.out
  try dsimp only [Rec.to] at y2 y3 y4 y5 y6 y7 y8 y9 y10 y11 y12
  obtain ⟨t0, t1, t2, t3, t4, t5, t6⟩ := T_2.out
  go_wp2_with fail
  exact hnext.out _ _ _ _ _ _ _ _ _ _ _ _ _ _ _ _ _ _ _ _ _ _ _ _ _ _ _ _ _ _ _ _ _ _ _ _ _ _ _ _ _ _ _ _ _ _ _ _ _ _ _ _ _ _ _ _ _ _ _ _ _ _ _ _ _ _ _ _ _ _ _ _ _ _ _ _ _ _ _ _ _ _ _ _ _ _ _ _ _ _ _ _ _ _ _ _ _ _ _ _ _ _ _ _ _ _ _ _ _ _ _ _ _ _ _ _ _ _ _ _ _ _ _ ⟨nd2, nu2, 4, ⟨bw, bl, bg⟩, A9, on, c9, ol, ob, ⟨qw, ql, qg⟩⟩ ⟨bel_setR Lw_2.out.bel Lw_2.out.hb ⟨nd2, nu2, 4, ⟨bw, bl, bg⟩, A9, on, c9, ol, ob, ⟨qw, ql, qg⟩⟩, Lw_2.out.hb, Lw_2.out.x.setR ⟨nd2, nu2, 4, ⟨bw, bl, bg⟩, A9, on, c9, ol, ob, ⟨qw, ql, qg⟩⟩, (K_2.out.rdn HI9.out.2).setR (Nat.lt_succ_self _) ⟨nd2, nu2, 4, ⟨bw, bl, bg⟩, A9, on, c9, ol, ob, ⟨qw, ql, qg⟩⟩, FIN.out.1, FIN.out.2.1, (by first | exact FIN.out.2.2 | exact fun _ => FIN.out.2.2 trivial)⟩
set_option maxHeartbeats 3200000 in
theorem rf_ok_2_1 {u0 u1 u3 u4 u5 u6 u8 u12 u13 u14 u15 u16 u17 u18 u19 u20 u21 u22 u23 u24 u25 u26 u27 u28 u29 u30 u31 u32 u33 u34 u35 u36 u37 u38 u39 u40 u41 u42 u43 u44 u45 u46 u47 u48 u49 u50 u51 u52 u53 u54 u55 u56 u57 u58 u59 u60 u61 u62 u63 u64 u65 u66 u67 u68 u69 u70 u71 u72 u73 u74 u75 u76 u77 u78 u79 u80 u81 u82 u83 u84 u85 u86 u87 u88 u89 u90 u91 u92 u93 u94 u95 u96 u97 u98 u99 u100 u101 u102 u103 u104 u105 u106 u107 u108 u109 u110 u111 u112 u113 u114 u115 u116 u117 u118 u119 u120 u121 u122 u123 u124 u125 u126 u127 u128 u129 u130 u131 u132 u133 u134 u135 u136 u137 u138 u139 u140 u141 u142 u143 u144 u145 u146 u147 u148 u149 u150 u151 u152 : Value} {Q0 : Exit → Act → World → Prop} {w w0 : World} {tb nb lo hi bb off k n c c9 : Nat} {A9 : Option Addr} {r O : Rec} {s : StepL} (Lw_0 : Hid (LpQ w w0 tb r)) (Y_0 : Hid (BxQ w0 nb (O.to A9 c9))) (K_0 : Hid (RdB w0 lo hi A9 (sv O.l))) (T_0 : Hid (StI w0 bb (off + k * 6) s))
    (HI9 : Hid (tb < nb ∧ tb + 1 ≤ lo)) (hok : StepOk r s O) (hkk : -9223372036854775808 ≤ s.k ∧ s.k ≤ 9223372036854775807) (i0 : (0 : Int) ≤ (k : Int)) (i1 : (k : Int) < (n : Int)) (hRs : r.st = 2) (hOs : O.st = 1)
    (hnext : Hid (∀ (v6 v10 v11 v12 v13 v36 v37 v38 v39 v40 v41 v42 v43 v44 v45 v46 v47 v48 v49 v50 v51 v52 v53 v54 v55 v56 v57 v58 v59 v60 v61 v62 v63 v64 v65 v66 v67 v68 v69 v70 v71 v72 v73 v74 v75 v76 v77 v78 v79 v80 v81 v82 v83 v84 v85 v86 v87 v88 v89 v90 v91 v92 v93 v94 v95 v96 v97 v98 v99 v100 v101 v102 v103 v104 v105 v106 v107 v108 v109 v110 v111 v112 v113 v114 v115 v116 v117 v118 v119 v120 v121 v122 v123 v124 v125 v126 v127 v128 v129 v130 v131 v132 v133 v134 v135 v136 v137 v138 v139 v140 v141 v142 v143 v144 v145 v146 v147 v148 v149 v150 v151 v152 : Value) (w' : World) (r' : Rec), LpQ w w' tb r' → Q0 .normal ⟨#[u0, u1, .slice (some ⟨bb, off, none⟩) n c, u3, u4, u5, v6, .pointer (some ⟨tb, 0, none⟩), u8, .int .i64 (k : Int), v10, v11, v12, v13, u14, u15, u16, u17, u18, u19, u20, u21, u22, u23, u24, u25, u26, u27, u28, u29, u30, u31, u32, u33, u34, u35, v36, v37, v38, v39, v40, v41, v42, v43, v44, v45, v46, v47, v48, v49, v50, v51, v52, v53, v54, v55, v56, v57, v58, v59, v60, v61, v62, v63, v64, v65, v66, v67, v68, v69, v70, v71, v72, v73, v74, v75, v76, v77, v78, v79, v80, v81, v82, v83, v84, v85, v86, v87, v88, v89, v90, v91, v92, v93, v94, v95, v96, v97, v98, v99, v100, v101, v102, v103, v104, v105, v106, v107, v108, v109, v110, v111, v112, v113, v114, v115, v116, v117, v118, v119, v120, v121, v122, v123, v124, v125, v126, v127, v128, v129, v130, v131, v132, v133, v134, v135, v136, v137, v138, v139, v140, v141, v142, v143, v144, v145, v146, v147, v148, v149, v150, v151, v152], []⟩ w')) :
    Code.wp Try.prog rfBody Q0 ⟨#[u0, u1, .slice (some ⟨bb, off, none⟩) n c, u3, u4, u5, u6, .pointer (some ⟨tb, 0, none⟩), u8, .int .i64 (k : Int), .pointer (some ⟨nb, 0, none⟩), .int .i64 0, u12, u13, u14, u15, u16, u17, u18, u19, u20, u21, u22, u23, u24, u25, u26, u27, u28, u29, u30, u31, u32, u33, u34, u35, u36, u37, u38, u39, u40, u41, u42, u43, u44, u45, u46, u47, u48, u49, u50, u51, u52, u53, u54, u55, u56, u57, u58, u59, u60, u61, u62, u63, u64, u65, u66, u67, u68, u69, u70, u71, u72, u73, u74, u75, u76, u77, u78, u79, u80, u81, u82, u83, u84, u85, u86, u87, u88, u89, u90, u91, u92, u93, u94, u95, u96, u97, u98, u99, u100, u101, u102, u103, u104, u105, u106, u107, u108, u109, u110, u111, u112, u113, u114, u115, u116, u117, u118, u119, u120, u121, u122, u123, u124, u125, u126, u127, u128, u129, u130, u131, u132, u133, u134, u135, u136, u137, u138, u139, u140, u141, u142, u143, u144, u145, u146, u147, u148, u149, u150, u151, u152], []⟩ w0 := by
  conv => arg 2; whnf
  have LQ0 := Lw_0.out
  have hft : fit O := hok.fit
  have hCk : chkR O = 0 := hok.chk
  have HCK : Hid (∀ W, Below w0.heap.size w0 W → Calls Try.prog 42 #[(O.to A9 c9).v] W (fun e w' => e = .returned (.int .i64 0) ∧ Below W.heap.size W w')) := Lib.hid (fun W h => by
    have h1 := reccheck_any (O.to A9 c9) hft w0.heap.size W ((K_0.out.rd.more K_0.out.1).below h) h.size
    rw [show chkR (O.to A9 c9) = 0 from hCk] at h1
    exact h1)
  have hfin : fit (O.to A9 c9) ∧ chkR (O.to A9 c9) = 0 ∧ ((O.to A9 c9).st = 2 → less (O.to A9 c9).pu (O.to A9 c9).at_ = true) := ⟨hft, hCk, hok.stg⟩
  have FIN := Lib.hid hfin
  have hnd := hok.nd; have hnu := hok.nu; have hcom := hok.com; have hstg := hok.stg; have hleft := hok.left
  clear hok hft hCk LQ0 hfin
  obtain ⟨nd1, nu1, st1, ⟨aw, al, ag⟩, rA, rn, rc, rl, rb, ⟨pw, pl, pg⟩⟩ := r
  obtain ⟨nd2, nu2, st2, ⟨bw, bl, bg⟩, oA, on, oc, ol, ob, ⟨qw, ql, qg⟩⟩ := O
  simp only at hRs hOs hnd hnu hcom hstg hleft
  subst hRs hOs hnd hnu
  unfold Rec.to at FIN HCK Y_0
  try unfold Rec.to at K_0
  unfold Rec.v at HCK
  simp only at FIN HCK Y_0
  try simp only at K_0
  obtain ⟨k3, k4, k6, k5⟩ := hleft rfl (by decide)
  clear hcom hstg hleft
  obtain ⟨x0, x1, x2, x3, x4, x5, x6, x7, x8, x9, x10, x11, x12⟩ := Lw_0.out.x
  try dsimp only [Rec.to] at x2 x3 x4 x5 x6 x7 x8 x9 x10 x11 x12
  obtain ⟨y0, y1, y2, y3, y4, y5, y6, y7, y8, y9, y10, y11, y12⟩ := Y_0.out
  try dsimp only [Rec.to] at y2 y3 y4 y5 y6 y7 y8 y9 y10 y11 y12
  obtain ⟨t0, t1, t2, t3, t4, t5, t6⟩ := T_0.out
  go_wp2_with fail
  refine (pick_any s.k 7 (by decide) (by decide) hkk _).mono ?_
  rintro e w9 ⟨rfl, hw9⟩
  subst hw9
  generalize s.k % 7 = kd at *
  go_wp2_with fail
  refine (HCK.out _ (Below.refl _ _)).mono ?_
  rintro e w1 ⟨rfl, hb⟩
  clear x0 x1 x2 x3 x4 x5 x6 x7 x8 x9 x10 x11 x12 y0 y1 y2 y3 y4 y5 y6 y7 y8 y9 y10 y11 y12 t0 t1 t2 t3 t4 t5 t6
  have Lw_1 := Lib.hid (Lw_0.out.next hb); clear Lw_0
  have Y_1 := Lib.hid (Y_0.out.next hb); clear Y_0
  have K_1 := Lib.hid (K_0.out.next hb); clear K_0
  have T_1 := Lib.hid (T_0.out.next hb); clear T_0
  clear hb
  clear HCK
  have d3 : decide (kd = 3) = false := by simpa using k3
  have d4 : decide (kd = 4) = false := by simpa using k4
  have d6 : decide (kd = 6) = false := by simpa using k6
  have m3 : (kd == 3) = false := by simpa using k3
  have m4 : (kd == 4) = false := by simpa using k4
  have m6 : (kd == 6) = false := by simpa using k6
  by_cases h5 : kd = 5
  · have k5e : s.a = ⟨aw, al, ag⟩ := k5 h5
    clear k5
    subst h5
    obtain ⟨x0, x1, x2, x3, x4, x5, x6, x7, x8, x9, x10, x11, x12⟩ := Lw_1.out.x
    try dsimp only [Rec.to] at x2 x3 x4 x5 x6 x7 x8 x9 x10 x11 x12
    obtain ⟨y0, y1, y2, y3, y4, y5, y6, y7, y8, y9, y10, y11, y12⟩ := Y_1.out
    try dsimp only [Rec.to] at y2 y3 y4 y5 y6 y7 y8 y9 y10 y11 y12
    obtain ⟨t0, t1, t2, t3, t4, t5, t6⟩ := T_1.out
    rw [k5e] at t2 t3 t4
    dsimp only at t2 t3 t4
    go_wp2_with fail
    go_quiet (fail)
    clear x0 x1 x2 x3 x4 x5 x6 x7 x8 x9 x10 x11 x12 y0 y1 y2 y3 y4 y5 y6 y7 y8 y9 y10 y11 y12 t0 t1 t2 t3 t4 t5 t6
    have hbq : Below w1.heap.size w1 (w1.drewN nq) := bel_dn (Below.refl _ _) nq
    have Lw_2 := Lib.hid (Lw_1.out.next hbq); clear Lw_1
    have Y_2 := Lib.hid (Y_1.out.next hbq); clear Y_1
    have K_2 := Lib.hid (K_1.out.next hbq); clear K_1
    have T_2 := Lib.hid (T_1.out.next hbq); clear T_1
    clear hbq
    generalize w1.drewN nq = w2 at *
    obtain ⟨x0, x1, x2, x3, x4, x5, x6, x7, x8, x9, x10, x11, x12⟩ := Lw_2.out.x
    try dsimp only [Rec.to] at x2 x3 x4 x5 x6 x7 x8 x9 x10 x11 x12
    obtain ⟨y0, y1, y2, y3, y4, y5, y6, y7, y8, y9, y10, y11, y12⟩ := Y_2.out
    try dsimp only [Rec.to] at y2 y3 y4 y5 y6 y7 y8 y9 y10 y11 y12
    obtain ⟨t0, t1, t2, t3, t4, t5, t6⟩ := T_2.out
    rw [k5e] at t2 t3 t4
    dsimp only at t2 t3 t4
    go_wp2_with fail
    exact hnext.out _ _ _ _ _ _ _ _ _ _ _ _ _ _ _ _ _ _ _ _ _ _ _ _ _ _ _ _ _ _ _ _ _ _ _ _ _ _ _ _ _ _ _ _ _ _ _ _ _ _ _ _ _ _ _ _ _ _ _ _ _ _ _ _ _ _ _ _ _ _ _ _ _ _ _ _ _ _ _ _ _ _ _ _ _ _ _ _ _ _ _ _ _ _ _ _ _ _ _ _ _ _ _ _ _ _ _ _ _ _ _ _ _ _ _ _ _ _ _ _ _ _ _ ⟨nd2, nu2, 1, ⟨bw, bl, bg⟩, A9, on, c9, ol, ob, ⟨qw, ql, qg⟩⟩ ⟨bel_setR Lw_2.out.bel Lw_2.out.hb ⟨nd2, nu2, 1, ⟨bw, bl, bg⟩, A9, on, c9, ol, ob, ⟨qw, ql, qg⟩⟩, Lw_2.out.hb, Lw_2.out.x.setR ⟨nd2, nu2, 1, ⟨bw, bl, bg⟩, A9, on, c9, ol, ob, ⟨qw, ql, qg⟩⟩, (K_2.out.rdn HI9.out.2).setR (Nat.lt_succ_self _) ⟨nd2, nu2, 1, ⟨bw, bl, bg⟩, A9, on, c9, ol, ob, ⟨qw, ql, qg⟩⟩, FIN.out.1, FIN.out.2.1, (by first | exact FIN.out.2.2 | exact fun _ => FIN.out.2.2 trivial)⟩
  · have m5 : (kd == 5) = false := by simpa using h5
    clear k5
    have d5 : decide (kd = 5) = false := by simpa using h5
    obtain ⟨x0, x1, x2, x3, x4, x5, x6, x7, x8, x9, x10, x11, x12⟩ := Lw_1.out.x
    try dsimp only [Rec.to] at x2 x3 x4 x5 x6 x7 x8 x9 x10 x11 x12
    obtain ⟨y0, y1, y2, y3, y4, y5, y6, y7, y8, y9, y10, y11, y12⟩ := Y_1.out
    try dsimp only [Rec.to] at y2 y3 y4 y5 y6 y7 y8 y9 y10 y11 y12
    obtain ⟨t0, t1, t2, t3, t4, t5, t6⟩ := T_1.out
    go_wp2_with fail
    go_quiet (fail)
    clear x0 x1 x2 x3 x4 x5 x6 x7 x8 x9 x10 x11 x12 y0 y1 y2 y3 y4 y5 y6 y7 y8 y9 y10 y11 y12 t0 t1 t2 t3 t4 t5 t6
    have hbq : Below w1.heap.size w1 (w1.drewN nq) := bel_dn (Below.refl _ _) nq
    have Lw_2 := Lib.hid (Lw_1.out.next hbq); clear Lw_1
    have Y_2 := Lib.hid (Y_1.out.next hbq); clear Y_1
    have K_2 := Lib.hid (K_1.out.next hbq); clear K_1
    have T_2 := Lib.hid (T_1.out.next hbq); clear T_1
    clear hbq
    generalize w1.drewN nq = w2 at *
    obtain ⟨x0, x1, x2, x3, x4, x5, x6, x7, x8, x9, x10, x11, x12⟩ := Lw_2.out.x
    try dsimp only [Rec.to] at x2 x3 x4 x5 x6 x7 x8 x9 x10 x11 x12
    obtain ⟨y0, y1, y2, y3, y4, y5, y6, y7, y8, y9, y10, y11, y12⟩ := Y_2.out
    try dsimp only [Rec.to] at y2 y3 y4 y5 y6 y7 y8 y9 y10 y11 y12
    obtain ⟨t0, t1, t2, t3, t4, t5, t6⟩ := T_2.out
    go_wp2_with fail
    exact hnext.out _ _ _ _ _ _ _ _ _ _ _ _ _ _ _ _ _ _ _ _ _ _ _ _ _ _ _ _ _ _ _ _ _ _ _ _ _ _ _ _ _ _ _ _ _ _ _ _ _ _ _ _ _ _ _ _ _ _ _ _ _ _ _ _ _ _ _ _ _ _ _ _ _ _ _ _ _ _ _ _ _ _ _ _ _ _ _ _ _ _ _ _ _ _ _ _ _ _ _ _ _ _ _ _ _ _ _ _ _ _ _ _ _ _ _ _ _ _ _ _ _ _ _ ⟨nd2, nu2, 1, ⟨bw, bl, bg⟩, A9, on, c9, ol, ob, ⟨qw, ql, qg⟩⟩ ⟨bel_setR Lw_2.out.bel Lw_2.out.hb ⟨nd2, nu2, 1, ⟨bw, bl, bg⟩, A9, on, c9, ol, ob, ⟨qw, ql, qg⟩⟩, Lw_2.out.hb, Lw_2.out.x.setR ⟨nd2, nu2, 1, ⟨bw, bl, bg⟩, A9, on, c9, ol, ob, ⟨qw, ql, qg⟩⟩, (K_2.out.rdn HI9.out.2).setR (Nat.lt_succ_self _) ⟨nd2, nu2, 1, ⟨bw, bl, bg⟩, A9, on, c9, ol, ob, ⟨qw, ql, qg⟩⟩, FIN.out.1, FIN.out.2.1, (by first | exact FIN.out.2.2 | exact fun _ => FIN.out.2.2 trivial)⟩
set_option maxHeartbeats 3200000 in
theorem rf_ok_2_2 {u0 u1 u3 u4 u5 u6 u8 u12 u13 u14 u15 u16 u17 u18 u19 u20 u21 u22 u23 u24 u25 u26 u27 u28 u29 u30 u31 u32 u33 u34 u35 u36 u37 u38 u39 u40 u41 u42 u43 u44 u45 u46 u47 u48 u49 u50 u51 u52 u53 u54 u55 u56 u57 u58 u59 u60 u61 u62 u63 u64 u65 u66 u67 u68 u69 u70 u71 u72 u73 u74 u75 u76 u77 u78 u79 u80 u81 u82 u83 u84 u85 u86 u87 u88 u89 u90 u91 u92 u93 u94 u95 u96 u97 u98 u99 u100 u101 u102 u103 u104 u105 u106 u107 u108 u109 u110 u111 u112 u113 u114 u115 u116 u117 u118 u119 u120 u121 u122 u123 u124 u125 u126 u127 u128 u129 u130 u131 u132 u133 u134 u135 u136 u137 u138 u139 u140 u141 u142 u143 u144 u145 u146 u147 u148 u149 u150 u151 u152 : Value} {Q0 : Exit → Act → World → Prop} {w w0 : World} {tb nb lo hi bb off k n c c9 : Nat} {A9 : Option Addr} {r O : Rec} {s : StepL} (Lw_0 : Hid (LpQ w w0 tb r)) (Y_0 : Hid (BxQ w0 nb (O.to A9 c9))) (K_0 : Hid (RdB w0 lo hi A9 (sv O.l))) (T_0 : Hid (StI w0 bb (off + k * 6) s))
    (HI9 : Hid (tb < nb ∧ tb + 1 ≤ lo)) (hok : StepOk r s O) (hkk : -9223372036854775808 ≤ s.k ∧ s.k ≤ 9223372036854775807) (i0 : (0 : Int) ≤ (k : Int)) (i1 : (k : Int) < (n : Int)) (hRs : r.st = 2) (hOs : O.st = 2)
    (hnext : Hid (∀ (v6 v10 v11 v12 v13 v36 v37 v38 v39 v40 v41 v42 v43 v44 v45 v46 v47 v48 v49 v50 v51 v52 v53 v54 v55 v56 v57 v58 v59 v60 v61 v62 v63 v64 v65 v66 v67 v68 v69 v70 v71 v72 v73 v74 v75 v76 v77 v78 v79 v80 v81 v82 v83 v84 v85 v86 v87 v88 v89 v90 v91 v92 v93 v94 v95 v96 v97 v98 v99 v100 v101 v102 v103 v104 v105 v106 v107 v108 v109 v110 v111 v112 v113 v114 v115 v116 v117 v118 v119 v120 v121 v122 v123 v124 v125 v126 v127 v128 v129 v130 v131 v132 v133 v134 v135 v136 v137 v138 v139 v140 v141 v142 v143 v144 v145 v146 v147 v148 v149 v150 v151 v152 : Value) (w' : World) (r' : Rec), LpQ w w' tb r' → Q0 .normal ⟨#[u0, u1, .slice (some ⟨bb, off, none⟩) n c, u3, u4, u5, v6, .pointer (some ⟨tb, 0, none⟩), u8, .int .i64 (k : Int), v10, v11, v12, v13, u14, u15, u16, u17, u18, u19, u20, u21, u22, u23, u24, u25, u26, u27, u28, u29, u30, u31, u32, u33, u34, u35, v36, v37, v38, v39, v40, v41, v42, v43, v44, v45, v46, v47, v48, v49, v50, v51, v52, v53, v54, v55, v56, v57, v58, v59, v60, v61, v62, v63, v64, v65, v66, v67, v68, v69, v70, v71, v72, v73, v74, v75, v76, v77, v78, v79, v80, v81, v82, v83, v84, v85, v86, v87, v88, v89, v90, v91, v92, v93, v94, v95, v96, v97, v98, v99, v100, v101, v102, v103, v104, v105, v106, v107, v108, v109, v110, v111, v112, v113, v114, v115, v116, v117, v118, v119, v120, v121, v122, v123, v124, v125, v126, v127, v128, v129, v130, v131, v132, v133, v134, v135, v136, v137, v138, v139, v140, v141, v142, v143, v144, v145, v146, v147, v148, v149, v150, v151, v152], []⟩ w')) :
    Code.wp Try.prog rfBody Q0 ⟨#[u0, u1, .slice (some ⟨bb, off, none⟩) n c, u3, u4, u5, u6, .pointer (some ⟨tb, 0, none⟩), u8, .int .i64 (k : Int), .pointer (some ⟨nb, 0, none⟩), .int .i64 0, u12, u13, u14, u15, u16, u17, u18, u19, u20, u21, u22, u23, u24, u25, u26, u27, u28, u29, u30, u31, u32, u33, u34, u35, u36, u37, u38, u39, u40, u41, u42, u43, u44, u45, u46, u47, u48, u49, u50, u51, u52, u53, u54, u55, u56, u57, u58, u59, u60, u61, u62, u63, u64, u65, u66, u67, u68, u69, u70, u71, u72, u73, u74, u75, u76, u77, u78, u79, u80, u81, u82, u83, u84, u85, u86, u87, u88, u89, u90, u91, u92, u93, u94, u95, u96, u97, u98, u99, u100, u101, u102, u103, u104, u105, u106, u107, u108, u109, u110, u111, u112, u113, u114, u115, u116, u117, u118, u119, u120, u121, u122, u123, u124, u125, u126, u127, u128, u129, u130, u131, u132, u133, u134, u135, u136, u137, u138, u139, u140, u141, u142, u143, u144, u145, u146, u147, u148, u149, u150, u151, u152], []⟩ w0 := by
  conv => arg 2; whnf
  have LQ0 := Lw_0.out
  have hft : fit O := hok.fit
  have hCk : chkR O = 0 := hok.chk
  have HCK : Hid (∀ W, Below w0.heap.size w0 W → Calls Try.prog 42 #[(O.to A9 c9).v] W (fun e w' => e = .returned (.int .i64 0) ∧ Below W.heap.size W w')) := Lib.hid (fun W h => by
    have h1 := reccheck_any (O.to A9 c9) hft w0.heap.size W ((K_0.out.rd.more K_0.out.1).below h) h.size
    rw [show chkR (O.to A9 c9) = 0 from hCk] at h1
    exact h1)
  have hfin : fit (O.to A9 c9) ∧ chkR (O.to A9 c9) = 0 ∧ ((O.to A9 c9).st = 2 → less (O.to A9 c9).pu (O.to A9 c9).at_ = true) := ⟨hft, hCk, hok.stg⟩
  have FIN := Lib.hid hfin
  have hnd := hok.nd; have hnu := hok.nu; have hcom := hok.com; have hstg := hok.stg; have hleft := hok.left
  clear hok hft hCk LQ0 hfin
  obtain ⟨nd1, nu1, st1, ⟨aw, al, ag⟩, rA, rn, rc, rl, rb, ⟨pw, pl, pg⟩⟩ := r
  obtain ⟨nd2, nu2, st2, ⟨bw, bl, bg⟩, oA, on, oc, ol, ob, ⟨qw, ql, qg⟩⟩ := O
  simp only at hRs hOs hnd hnu hcom hstg hleft
  subst hRs hOs hnd hnu
  unfold Rec.to at FIN HCK Y_0
  try unfold Rec.to at K_0
  unfold Rec.v at HCK
  simp only at FIN HCK Y_0
  try simp only at K_0
  have hless : less ⟨qw, ql, qg⟩ ⟨bw, bl, bg⟩ = true := hstg rfl
  have HLS := Lib.hid (fun W => rless_any ⟨qw, ql, qg⟩ ⟨bw, bl, bg⟩ W)
  rw [hless] at HLS
  simp only at HLS
  clear hless
  clear hcom hstg hleft
  obtain ⟨x0, x1, x2, x3, x4, x5, x6, x7, x8, x9, x10, x11, x12⟩ := Lw_0.out.x
  try dsimp only [Rec.to] at x2 x3 x4 x5 x6 x7 x8 x9 x10 x11 x12
  obtain ⟨y0, y1, y2, y3, y4, y5, y6, y7, y8, y9, y10, y11, y12⟩ := Y_0.out
  try dsimp only [Rec.to] at y2 y3 y4 y5 y6 y7 y8 y9 y10 y11 y12
  obtain ⟨t0, t1, t2, t3, t4, t5, t6⟩ := T_0.out
  go_wp2_with fail
  refine (pick_any s.k 7 (by decide) (by decide) hkk _).mono ?_
  rintro e w9 ⟨rfl, hw9⟩
  subst hw9
  generalize s.k % 7 = kd at *
  go_wp2_with fail
  refine (HCK.out _ (Below.refl _ _)).mono ?_
  rintro e w1 ⟨rfl, hb⟩
  clear x0 x1 x2 x3 x4 x5 x6 x7 x8 x9 x10 x11 x12 y0 y1 y2 y3 y4 y5 y6 y7 y8 y9 y10 y11 y12 t0 t1 t2 t3 t4 t5 t6
  have Lw_1 := Lib.hid (Lw_0.out.next hb); clear Lw_0
  have Y_1 := Lib.hid (Y_0.out.next hb); clear Y_0
  have K_1 := Lib.hid (K_0.out.next hb); clear K_0
  have T_1 := Lib.hid (T_0.out.next hb); clear T_0
  clear hb
  clear HCK
  obtain ⟨x0, x1, x2, x3, x4, x5, x6, x7, x8, x9, x10, x11, x12⟩ := Lw_1.out.x
  try dsimp only [Rec.to] at x2 x3 x4 x5 x6 x7 x8 x9 x10 x11 x12
  obtain ⟨y0, y1, y2, y3, y4, y5, y6, y7, y8, y9, y10, y11, y12⟩ := Y_1.out
  try dsimp only [Rec.to] at y2 y3 y4 y5 y6 y7 y8 y9 y10 y11 y12
  obtain ⟨t0, t1, t2, t3, t4, t5, t6⟩ := T_1.out
  go_wp2_with fail
  go_quiet (fail)
  clear x0 x1 x2 x3 x4 x5 x6 x7 x8 x9 x10 x11 x12 y0 y1 y2 y3 y4 y5 y6 y7 y8 y9 y10 y11 y12 t0 t1 t2 t3 t4 t5 t6
  have hbq : Below w1.heap.size w1 (w1.drewN nq) := bel_dn (Below.refl _ _) nq
  have Lw_2 := Lib.hid (Lw_1.out.next hbq); clear Lw_1
  have Y_2 := Lib.hid (Y_1.out.next hbq); clear Y_1
  have K_2 := Lib.hid (K_1.out.next hbq); clear K_1
  have T_2 := Lib.hid (T_1.out.next hbq); clear T_1
  clear hbq
  generalize w1.drewN nq = w2 at *
  obtain ⟨x0, x1, x2, x3, x4, x5, x6, x7, x8, x9, x10, x11, x12⟩ := Lw_2.out.x
  try dsimp only [Rec.to] at x2 x3 x4 x5 x6 x7 x8 x9 x10 x11 x12
  obtain ⟨y0, y1, y2, y3, y4, y5, y6, y7, y8, y9, y10, y11, y12⟩ := Y_2.out
  try dsimp only [Rec.to] at y2 y3 y4 y5 y6 y7 y8 y9 y10 y11 y12
  obtain ⟨t0, t1, t2, t3, t4, t5, t6⟩ := T_2.out
  go_wp2_with fail
  refine (HLS.out _).mono ?_
  rintro e w3 ⟨rfl, hb⟩
  clear x0 x1 x2 x3 x4 x5 x6 x7 x8 x9 x10 x11 x12 y0 y1 y2 y3 y4 y5 y6 y7 y8 y9 y10 y11 y12 t0 t1 t2 t3 t4 t5 t6
  have Lw_3 := Lib.hid (Lw_2.out.next hb); clear Lw_2
  have Y_3 := Lib.hid (Y_2.out.next hb); clear Y_2
  have K_3 := Lib.hid (K_2.out.next hb); clear K_2
  have T_3 := Lib.hid (T_2.out.next hb); clear T_2
  clear hb
  obtain ⟨x0, x1, x2, x3, x4, x5, x6, x7, x8, x9, x10, x11, x12⟩ := Lw_3.out.x
  try dsimp only [Rec.to] at x2 x3 x4 x5 x6 x7 x8 x9 x10 x11 x12
  obtain ⟨y0, y1, y2, y3, y4, y5, y6, y7, y8, y9, y10, y11, y12⟩ := Y_3.out
  try dsimp only [Rec.to] at y2 y3 y4 y5 y6 y7 y8 y9 y10 y11 y12
  obtain ⟨t0, t1, t2, t3, t4, t5, t6⟩ := T_3.out
  go_wp2_with fail
  exact hnext.out _ _ _ _ _ _ _ _ _ _ _ _ _ _ _ _ _ _ _ _ _ _ _ _ _ _ _ _ _ _ _ _ _ _ _ _ _ _ _ _ _ _ _ _ _ _ _ _ _ _ _ _ _ _ _ _ _ _ _ _ _ _ _ _ _ _ _ _ _ _ _ _ _ _ _ _ _ _ _ _ _ _ _ _ _ _ _ _ _ _ _ _ _ _ _ _ _ _ _ _ _ _ _ _ _ _ _ _ _ _ _ _ _ _ _ _ _ _ _ _ _ _ _ ⟨nd2, nu2, 2, ⟨bw, bl, bg⟩, A9, on, c9, ol, ob, ⟨qw, ql, qg⟩⟩ ⟨bel_setR Lw_3.out.bel Lw_3.out.hb ⟨nd2, nu2, 2, ⟨bw, bl, bg⟩, A9, on, c9, ol, ob, ⟨qw, ql, qg⟩⟩, Lw_3.out.hb, Lw_3.out.x.setR ⟨nd2, nu2, 2, ⟨bw, bl, bg⟩, A9, on, c9, ol, ob, ⟨qw, ql, qg⟩⟩, (K_3.out.rdn HI9.out.2).setR (Nat.lt_succ_self _) ⟨nd2, nu2, 2, ⟨bw, bl, bg⟩, A9, on, c9, ol, ob, ⟨qw, ql, qg⟩⟩, FIN.out.1, FIN.out.2.1, (by first | exact FIN.out.2.2 | exact fun _ => FIN.out.2.2 trivial)⟩
set_option maxHeartbeats 3200000 in
theorem rf_ok_2_3 {u0 u1 u3 u4 u5 u6 u8 u12 u13 u14 u15 u16 u17 u18 u19 u20 u21 u22 u23 u24 u25 u26 u27 u28 u29 u30 u31 u32 u33 u34 u35 u36 u37 u38 u39 u40 u41 u42 u43 u44 u45 u46 u47 u48 u49 u50 u51 u52 u53 u54 u55 u56 u57 u58 u59 u60 u61 u62 u63 u64 u65 u66 u67 u68 u69 u70 u71 u72 u73 u74 u75 u76 u77 u78 u79 u80 u81 u82 u83 u84 u85 u86 u87 u88 u89 u90 u91 u92 u93 u94 u95 u96 u97 u98 u99 u100 u101 u102 u103 u104 u105 u106 u107 u108 u109 u110 u111 u112 u113 u114 u115 u116 u117 u118 u119 u120 u121 u122 u123 u124 u125 u126 u127 u128 u129 u130 u131 u132 u133 u134 u135 u136 u137 u138 u139 u140 u141 u142 u143 u144 u145 u146 u147 u148 u149 u150 u151 u152 : Value} {Q0 : Exit → Act → World → Prop} {w w0 : World} {tb nb lo hi bb off k n c c9 : Nat} {A9 : Option Addr} {r O : Rec} {s : StepL} (Lw_0 : Hid (LpQ w w0 tb r)) (Y_0 : Hid (BxQ w0 nb (O.to A9 c9))) (K_0 : Hid (RdB w0 lo hi A9 (sv O.l))) (T_0 : Hid (StI w0 bb (off + k * 6) s))
    (HI9 : Hid (tb < nb ∧ tb + 1 ≤ lo)) (hok : StepOk r s O) (hkk : -9223372036854775808 ≤ s.k ∧ s.k ≤ 9223372036854775807) (i0 : (0 : Int) ≤ (k : Int)) (i1 : (k : Int) < (n : Int)) (hRs : r.st = 2) (hOs : O.st = 3)
    (hnext : Hid (∀ (v6 v10 v11 v12 v13 v36 v37 v38 v39 v40 v41 v42 v43 v44 v45 v46 v47 v48 v49 v50 v51 v52 v53 v54 v55 v56 v57 v58 v59 v60 v61 v62 v63 v64 v65 v66 v67 v68 v69 v70 v71 v72 v73 v74 v75 v76 v77 v78 v79 v80 v81 v82 v83 v84 v85 v86 v87 v88 v89 v90 v91 v92 v93 v94 v95 v96 v97 v98 v99 v100 v101 v102 v103 v104 v105 v106 v107 v108 v109 v110 v111 v112 v113 v114 v115 v116 v117 v118 v119 v120 v121 v122 v123 v124 v125 v126 v127 v128 v129 v130 v131 v132 v133 v134 v135 v136 v137 v138 v139 v140 v141 v142 v143 v144 v145 v146 v147 v148 v149 v150 v151 v152 : Value) (w' : World) (r' : Rec), LpQ w w' tb r' → Q0 .normal ⟨#[u0, u1, .slice (some ⟨bb, off, none⟩) n c, u3, u4, u5, v6, .pointer (some ⟨tb, 0, none⟩), u8, .int .i64 (k : Int), v10, v11, v12, v13, u14, u15, u16, u17, u18, u19, u20, u21, u22, u23, u24, u25, u26, u27, u28, u29, u30, u31, u32, u33, u34, u35, v36, v37, v38, v39, v40, v41, v42, v43, v44, v45, v46, v47, v48, v49, v50, v51, v52, v53, v54, v55, v56, v57, v58, v59, v60, v61, v62, v63, v64, v65, v66, v67, v68, v69, v70, v71, v72, v73, v74, v75, v76, v77, v78, v79, v80, v81, v82, v83, v84, v85, v86, v87, v88, v89, v90, v91, v92, v93, v94, v95, v96, v97, v98, v99, v100, v101, v102, v103, v104, v105, v106, v107, v108, v109, v110, v111, v112, v113, v114, v115, v116, v117, v118, v119, v120, v121, v122, v123, v124, v125, v126, v127, v128, v129, v130, v131, v132, v133, v134, v135, v136, v137, v138, v139, v140, v141, v142, v143, v144, v145, v146, v147, v148, v149, v150, v151, v152], []⟩ w')) :
    Code.wp Try.prog rfBody Q0 ⟨#[u0, u1, .slice (some ⟨bb, off, none⟩) n c, u3, u4, u5, u6, .pointer (some ⟨tb, 0, none⟩), u8, .int .i64 (k : Int), .pointer (some ⟨nb, 0, none⟩), .int .i64 0, u12, u13, u14, u15, u16, u17, u18, u19, u20, u21, u22, u23, u24, u25, u26, u27, u28, u29, u30, u31, u32, u33, u34, u35, u36, u37, u38, u39, u40, u41, u42, u43, u44, u45, u46, u47, u48, u49, u50, u51, u52, u53, u54, u55, u56, u57, u58, u59, u60, u61, u62, u63, u64, u65, u66, u67, u68, u69, u70, u71, u72, u73, u74, u75, u76, u77, u78, u79, u80, u81, u82, u83, u84, u85, u86, u87, u88, u89, u90, u91, u92, u93, u94, u95, u96, u97, u98, u99, u100, u101, u102, u103, u104, u105, u106, u107, u108, u109, u110, u111, u112, u113, u114, u115, u116, u117, u118, u119, u120, u121, u122, u123, u124, u125, u126, u127, u128, u129, u130, u131, u132, u133, u134, u135, u136, u137, u138, u139, u140, u141, u142, u143, u144, u145, u146, u147, u148, u149, u150, u151, u152], []⟩ w0 := by
  conv => arg 2; whnf
  have LQ0 := Lw_0.out
  have hft : fit O := hok.fit
  have hCk : chkR O = 0 := hok.chk
  have HCK : Hid (∀ W, Below w0.heap.size w0 W → Calls Try.prog 42 #[(O.to A9 c9).v] W (fun e w' => e = .returned (.int .i64 0) ∧ Below W.heap.size W w')) := Lib.hid (fun W h => by
    have h1 := reccheck_any (O.to A9 c9) hft w0.heap.size W ((K_0.out.rd.more K_0.out.1).below h) h.size
    rw [show chkR (O.to A9 c9) = 0 from hCk] at h1
    exact h1)
  have hfin : fit (O.to A9 c9) ∧ chkR (O.to A9 c9) = 0 ∧ ((O.to A9 c9).st = 2 → less (O.to A9 c9).pu (O.to A9 c9).at_ = true) := ⟨hft, hCk, hok.stg⟩
  have FIN := Lib.hid hfin
  have hnd := hok.nd; have hnu := hok.nu; have hcom := hok.com; have hstg := hok.stg; have hleft := hok.left
  clear hok hft hCk LQ0 hfin
  obtain ⟨nd1, nu1, st1, ⟨aw, al, ag⟩, rA, rn, rc, rl, rb, ⟨pw, pl, pg⟩⟩ := r
  obtain ⟨nd2, nu2, st2, ⟨bw, bl, bg⟩, oA, on, oc, ol, ob, ⟨qw, ql, qg⟩⟩ := O
  simp only at hRs hOs hnd hnu hcom hstg hleft
  subst hRs hOs hnd hnu
  unfold Rec.to at FIN HCK Y_0
  try unfold Rec.to at K_0
  unfold Rec.v at HCK
  simp only at FIN HCK Y_0
  try simp only at K_0
  have hless : less ⟨qw, ql, qg⟩ ⟨bw, bl, bg⟩ = true := hcom (by decide) (by decide) rfl
  have HLS := Lib.hid (fun W => rless_any ⟨qw, ql, qg⟩ ⟨bw, bl, bg⟩ W)
  rw [hless] at HLS
  simp only at HLS
  clear hless
  obtain ⟨k3, k4, k6, k5⟩ := hleft rfl (by decide)
  clear hcom hstg hleft
  obtain ⟨x0, x1, x2, x3, x4, x5, x6, x7, x8, x9, x10, x11, x12⟩ := Lw_0.out.x
  try dsimp only [Rec.to] at x2 x3 x4 x5 x6 x7 x8 x9 x10 x11 x12
  obtain ⟨y0, y1, y2, y3, y4, y5, y6, y7, y8, y9, y10, y11, y12⟩ := Y_0.out
  try dsimp only [Rec.to] at y2 y3 y4 y5 y6 y7 y8 y9 y10 y11 y12
  obtain ⟨t0, t1, t2, t3, t4, t5, t6⟩ := T_0.out
  go_wp2_with fail
  refine (pick_any s.k 7 (by decide) (by decide) hkk _).mono ?_
  rintro e w9 ⟨rfl, hw9⟩
  subst hw9
  generalize s.k % 7 = kd at *
  go_wp2_with fail
  refine (HCK.out _ (Below.refl _ _)).mono ?_
  rintro e w1 ⟨rfl, hb⟩
  clear x0 x1 x2 x3 x4 x5 x6 x7 x8 x9 x10 x11 x12 y0 y1 y2 y3 y4 y5 y6 y7 y8 y9 y10 y11 y12 t0 t1 t2 t3 t4 t5 t6
  have Lw_1 := Lib.hid (Lw_0.out.next hb); clear Lw_0
  have Y_1 := Lib.hid (Y_0.out.next hb); clear Y_0
  have K_1 := Lib.hid (K_0.out.next hb); clear K_0
  have T_1 := Lib.hid (T_0.out.next hb); clear T_0
  clear hb
  clear HCK
  have d3 : decide (kd = 3) = false := by simpa using k3
  have d4 : decide (kd = 4) = false := by simpa using k4
  have d6 : decide (kd = 6) = false := by simpa using k6
  have m3 : (kd == 3) = false := by simpa using k3
  have m4 : (kd == 4) = false := by simpa using k4
  have m6 : (kd == 6) = false := by simpa using k6
  by_cases h5 : kd = 5
  · have k5e : s.a = ⟨aw, al, ag⟩ := k5 h5
    clear k5
    subst h5
    obtain ⟨x0, x1, x2, x3, x4, x5, x6, x7, x8, x9, x10, x11, x12⟩ := Lw_1.out.x
    try dsimp only [Rec.to] at x2 x3 x4 x5 x6 x7 x8 x9 x10 x11 x12
    obtain ⟨y0, y1, y2, y3, y4, y5, y6, y7, y8, y9, y10, y11, y12⟩ := Y_1.out
    try dsimp only [Rec.to] at y2 y3 y4 y5 y6 y7 y8 y9 y10 y11 y12
    obtain ⟨t0, t1, t2, t3, t4, t5, t6⟩ := T_1.out
    rw [k5e] at t2 t3 t4
    dsimp only at t2 t3 t4
    go_wp2_with fail
    go_quiet (fail)
    clear x0 x1 x2 x3 x4 x5 x6 x7 x8 x9 x10 x11 x12 y0 y1 y2 y3 y4 y5 y6 y7 y8 y9 y10 y11 y12 t0 t1 t2 t3 t4 t5 t6
    have hbq : Below w1.heap.size w1 (w1.drewN nq) := bel_dn (Below.refl _ _) nq
    have Lw_2 := Lib.hid (Lw_1.out.next hbq); clear Lw_1
    have Y_2 := Lib.hid (Y_1.out.next hbq); clear Y_1
    have K_2 := Lib.hid (K_1.out.next hbq); clear K_1
    have T_2 := Lib.hid (T_1.out.next hbq); clear T_1
    clear hbq
    generalize w1.drewN nq = w2 at *
    obtain ⟨x0, x1, x2, x3, x4, x5, x6, x7, x8, x9, x10, x11, x12⟩ := Lw_2.out.x
    try dsimp only [Rec.to] at x2 x3 x4 x5 x6 x7 x8 x9 x10 x11 x12
    obtain ⟨y0, y1, y2, y3, y4, y5, y6, y7, y8, y9, y10, y11, y12⟩ := Y_2.out
    try dsimp only [Rec.to] at y2 y3 y4 y5 y6 y7 y8 y9 y10 y11 y12
    obtain ⟨t0, t1, t2, t3, t4, t5, t6⟩ := T_2.out
    rw [k5e] at t2 t3 t4
    dsimp only at t2 t3 t4
    go_wp2_with fail
    refine (HLS.out _).mono ?_
    rintro e w3 ⟨rfl, hb⟩
    clear x0 x1 x2 x3 x4 x5 x6 x7 x8 x9 x10 x11 x12 y0 y1 y2 y3 y4 y5 y6 y7 y8 y9 y10 y11 y12 t0 t1 t2 t3 t4 t5 t6
    have Lw_3 := Lib.hid (Lw_2.out.next hb); clear Lw_2
    have Y_3 := Lib.hid (Y_2.out.next hb); clear Y_2
    have K_3 := Lib.hid (K_2.out.next hb); clear K_2
    have T_3 := Lib.hid (T_2.out.next hb); clear T_2
    clear hb
    obtain ⟨x0, x1, x2, x3, x4, x5, x6, x7, x8, x9, x10, x11, x12⟩ := Lw_3.out.x
    try dsimp only [Rec.to] at x2 x3 x4 x5 x6 x7 x8 x9 x10 x11 x12
    obtain ⟨y0, y1, y2, y3, y4, y5, y6, y7, y8, y9, y10, y11, y12⟩ := Y_3.out
    try dsimp only [Rec.to] at y2 y3 y4 y5 y6 y7 y8 y9 y10 y11 y12
    obtain ⟨t0, t1, t2, t3, t4, t5, t6⟩ := T_3.out
    rw [k5e] at t2 t3 t4
    dsimp only at t2 t3 t4
    go_wp2_with fail
    exact hnext.out _ _ _ _ _ _ _ _ _ _ _ _ _ _ _ _ _ _ _ _ _ _ _ _ _ _ _ _ _ _ _ _ _ _ _ _ _ _ _ _ _ _ _ _ _ _ _ _ _ _ _ _ _ _ _ _ _ _ _ _ _ _ _ _ _ _ _ _ _ _ _ _ _ _ _ _ _ _ _ _ _ _ _ _ _ _ _ _ _ _ _ _ _ _ _ _ _ _ _ _ _ _ _ _ _ _ _ _ _ _ _ _ _ _ _ _ _ _ _ _ _ _ _ ⟨nd2, nu2, 3, ⟨bw, bl, bg⟩, A9, on, c9, ol, ob, ⟨qw, ql, qg⟩⟩ ⟨bel_setR Lw_3.out.bel Lw_3.out.hb ⟨nd2, nu2, 3, ⟨bw, bl, bg⟩, A9, on, c9, ol, ob, ⟨qw, ql, qg⟩⟩, Lw_3.out.hb, Lw_3.out.x.setR ⟨nd2, nu2, 3, ⟨bw, bl, bg⟩, A9, on, c9, ol, ob, ⟨qw, ql, qg⟩⟩, (K_3.out.rdn HI9.out.2).setR (Nat.lt_succ_self _) ⟨nd2, nu2, 3, ⟨bw, bl, bg⟩, A9, on, c9, ol, ob, ⟨qw, ql, qg⟩⟩, FIN.out.1, FIN.out.2.1, (by first | exact FIN.out.2.2 | exact fun _ => FIN.out.2.2 trivial)⟩
  · have m5 : (kd == 5) = false := by simpa using h5
    clear k5
    have d5 : decide (kd = 5) = false := by simpa using h5
    obtain ⟨x0, x1, x2, x3, x4, x5, x6, x7, x8, x9, x10, x11, x12⟩ := Lw_1.out.x
    try dsimp only [Rec.to] at x2 x3 x4 x5 x6 x7 x8 x9 x10 x11 x12
    obtain ⟨y0, y1, y2, y3, y4, y5, y6, y7, y8, y9, y10, y11, y12⟩ := Y_1.out
    try dsimp only [Rec.to] at y2 y3 y4 y5 y6 y7 y8 y9 y10 y11 y12
    obtain ⟨t0, t1, t2, t3, t4, t5, t6⟩ := T_1.out
    go_wp2_with fail
    go_quiet (fail)
    clear x0 x1 x2 x3 x4 x5 x6 x7 x8 x9 x10 x11 x12 y0 y1 y2 y3 y4 y5 y6 y7 y8 y9 y10 y11 y12 t0 t1 t2 t3 t4 t5 t6
    have hbq : Below w1.heap.size w1 (w1.drewN nq) := bel_dn (Below.refl _ _) nq
    have Lw_2 := Lib.hid (Lw_1.out.next hbq); clear Lw_1
    have Y_2 := Lib.hid (Y_1.out.next hbq); clear Y_1
    have K_2 := Lib.hid (K_1.out.next hbq); clear K_1
    have T_2 := Lib.hid (T_1.out.next hbq); clear T_1
    clear hbq
    generalize w1.drewN nq = w2 at *
    obtain ⟨x0, x1, x2, x3, x4, x5, x6, x7, x8, x9, x10, x11, x12⟩ := Lw_2.out.x
    try dsimp only [Rec.to] at x2 x3 x4 x5 x6 x7 x8 x9 x10 x11 x12
    obtain ⟨y0, y1, y2, y3, y4, y5, y6, y7, y8, y9, y10, y11, y12⟩ := Y_2.out
    try dsimp only [Rec.to] at y2 y3 y4 y5 y6 y7 y8 y9 y10 y11 y12
    obtain ⟨t0, t1, t2, t3, t4, t5, t6⟩ := T_2.out
    go_wp2_with fail
    refine (HLS.out _).mono ?_
    rintro e w3 ⟨rfl, hb⟩
    clear x0 x1 x2 x3 x4 x5 x6 x7 x8 x9 x10 x11 x12 y0 y1 y2 y3 y4 y5 y6 y7 y8 y9 y10 y11 y12 t0 t1 t2 t3 t4 t5 t6
    have Lw_3 := Lib.hid (Lw_2.out.next hb); clear Lw_2
    have Y_3 := Lib.hid (Y_2.out.next hb); clear Y_2
    have K_3 := Lib.hid (K_2.out.next hb); clear K_2
    have T_3 := Lib.hid (T_2.out.next hb); clear T_2
    clear hb
    obtain ⟨x0, x1, x2, x3, x4, x5, x6, x7, x8, x9, x10, x11, x12⟩ := Lw_3.out.x
    try dsimp only [Rec.to] at x2 x3 x4 x5 x6 x7 x8 x9 x10 x11 x12
    obtain ⟨y0, y1, y2, y3, y4, y5, y6, y7, y8, y9, y10, y11, y12⟩ := Y_3.out
    try dsimp only [Rec.to] at y2 y3 y4 y5 y6 y7 y8 y9 y10 y11 y12
    obtain ⟨t0, t1, t2, t3, t4, t5, t6⟩ := T_3.out
    go_wp2_with fail
    exact hnext.out _ _ _ _ _ _ _ _ _ _ _ _ _ _ _ _ _ _ _ _ _ _ _ _ _ _ _ _ _ _ _ _ _ _ _ _ _ _ _ _ _ _ _ _ _ _ _ _ _ _ _ _ _ _ _ _ _ _ _ _ _ _ _ _ _ _ _ _ _ _ _ _ _ _ _ _ _ _ _ _ _ _ _ _ _ _ _ _ _ _ _ _ _ _ _ _ _ _ _ _ _ _ _ _ _ _ _ _ _ _ _ _ _ _ _ _ _ _ _ _ _ _ _ ⟨nd2, nu2, 3, ⟨bw, bl, bg⟩, A9, on, c9, ol, ob, ⟨qw, ql, qg⟩⟩ ⟨bel_setR Lw_3.out.bel Lw_3.out.hb ⟨nd2, nu2, 3, ⟨bw, bl, bg⟩, A9, on, c9, ol, ob, ⟨qw, ql, qg⟩⟩, Lw_3.out.hb, Lw_3.out.x.setR ⟨nd2, nu2, 3, ⟨bw, bl, bg⟩, A9, on, c9, ol, ob, ⟨qw, ql, qg⟩⟩, (K_3.out.rdn HI9.out.2).setR (Nat.lt_succ_self _) ⟨nd2, nu2, 3, ⟨bw, bl, bg⟩, A9, on, c9, ol, ob, ⟨qw, ql, qg⟩⟩, FIN.out.1, FIN.out.2.1, (by first | exact FIN.out.2.2 | exact fun _ => FIN.out.2.2 trivial)⟩
set_option maxHeartbeats 3200000 in
theorem rf_ok_2_4 {u0 u1 u3 u4 u5 u6 u8 u12 u13 u14 u15 u16 u17 u18 u19 u20 u21 u22 u23 u24 u25 u26 u27 u28 u29 u30 u31 u32 u33 u34 u35 u36 u37 u38 u39 u40 u41 u42 u43 u44 u45 u46 u47 u48 u49 u50 u51 u52 u53 u54 u55 u56 u57 u58 u59 u60 u61 u62 u63 u64 u65 u66 u67 u68 u69 u70 u71 u72 u73 u74 u75 u76 u77 u78 u79 u80 u81 u82 u83 u84 u85 u86 u87 u88 u89 u90 u91 u92 u93 u94 u95 u96 u97 u98 u99 u100 u101 u102 u103 u104 u105 u106 u107 u108 u109 u110 u111 u112 u113 u114 u115 u116 u117 u118 u119 u120 u121 u122 u123 u124 u125 u126 u127 u128 u129 u130 u131 u132 u133 u134 u135 u136 u137 u138 u139 u140 u141 u142 u143 u144 u145 u146 u147 u148 u149 u150 u151 u152 : Value} {Q0 : Exit → Act → World → Prop} {w w0 : World} {tb nb lo hi bb off k n c c9 : Nat} {A9 : Option Addr} {r O : Rec} {s : StepL} (Lw_0 : Hid (LpQ w w0 tb r)) (Y_0 : Hid (BxQ w0 nb (O.to A9 c9))) (K_0 : Hid (RdB w0 lo hi A9 (sv O.l))) (T_0 : Hid (StI w0 bb (off + k * 6) s))
    (HI9 : Hid (tb < nb ∧ tb + 1 ≤ lo)) (hok : StepOk r s O) (hkk : -9223372036854775808 ≤ s.k ∧ s.k ≤ 9223372036854775807) (i0 : (0 : Int) ≤ (k : Int)) (i1 : (k : Int) < (n : Int)) (hRs : r.st = 2) (hOs : O.st = 4)
    (hnext : Hid (∀ (v6 v10 v11 v12 v13 v36 v37 v38 v39 v40 v41 v42 v43 v44 v45 v46 v47 v48 v49 v50 v51 v52 v53 v54 v55 v56 v57 v58 v59 v60 v61 v62 v63 v64 v65 v66 v67 v68 v69 v70 v71 v72 v73 v74 v75 v76 v77 v78 v79 v80 v81 v82 v83 v84 v85 v86 v87 v88 v89 v90 v91 v92 v93 v94 v95 v96 v97 v98 v99 v100 v101 v102 v103 v104 v105 v106 v107 v108 v109 v110 v111 v112 v113 v114 v115 v116 v117 v118 v119 v120 v121 v122 v123 v124 v125 v126 v127 v128 v129 v130 v131 v132 v133 v134 v135 v136 v137 v138 v139 v140 v141 v142 v143 v144 v145 v146 v147 v148 v149 v150 v151 v152 : Value) (w' : World) (r' : Rec), LpQ w w' tb r' → Q0 .normal ⟨#[u0, u1, .slice (some ⟨bb, off, none⟩) n c, u3, u4, u5, v6, .pointer (some ⟨tb, 0, none⟩), u8, .int .i64 (k : Int), v10, v11, v12, v13, u14, u15, u16, u17, u18, u19, u20, u21, u22, u23, u24, u25, u26, u27, u28, u29, u30, u31, u32, u33, u34, u35, v36, v37, v38, v39, v40, v41, v42, v43, v44, v45, v46, v47, v48, v49, v50, v51, v52, v53, v54, v55, v56, v57, v58, v59, v60, v61, v62, v63, v64, v65, v66, v67, v68, v69, v70, v71, v72, v73, v74, v75, v76, v77, v78, v79, v80, v81, v82, v83, v84, v85, v86, v87, v88, v89, v90, v91, v92, v93, v94, v95, v96, v97, v98, v99, v100, v101, v102, v103, v104, v105, v106, v107, v108, v109, v110, v111, v112, v113, v114, v115, v116, v117, v118, v119, v120, v121, v122, v123, v124, v125, v126, v127, v128, v129, v130, v131, v132, v133, v134, v135, v136, v137, v138, v139, v140, v141, v142, v143, v144, v145, v146, v147, v148, v149, v150, v151, v152], []⟩ w')) :
    Code.wp Try.prog rfBody Q0 ⟨#[u0, u1, .slice (some ⟨bb, off, none⟩) n c, u3, u4, u5, u6, .pointer (some ⟨tb, 0, none⟩), u8, .int .i64 (k : Int), .pointer (some ⟨nb, 0, none⟩), .int .i64 0, u12, u13, u14, u15, u16, u17, u18, u19, u20, u21, u22, u23, u24, u25, u26, u27, u28, u29, u30, u31, u32, u33, u34, u35, u36, u37, u38, u39, u40, u41, u42, u43, u44, u45, u46, u47, u48, u49, u50, u51, u52, u53, u54, u55, u56, u57, u58, u59, u60, u61, u62, u63, u64, u65, u66, u67, u68, u69, u70, u71, u72, u73, u74, u75, u76, u77, u78, u79, u80, u81, u82, u83, u84, u85, u86, u87, u88, u89, u90, u91, u92, u93, u94, u95, u96, u97, u98, u99, u100, u101, u102, u103, u104, u105, u106, u107, u108, u109, u110, u111, u112, u113, u114, u115, u116, u117, u118, u119, u120, u121, u122, u123, u124, u125, u126, u127, u128, u129, u130, u131, u132, u133, u134, u135, u136, u137, u138, u139, u140, u141, u142, u143, u144, u145, u146, u147, u148, u149, u150, u151, u152], []⟩ w0 := by
  conv => arg 2; whnf
  have LQ0 := Lw_0.out
  have hft : fit O := hok.fit
  have hCk : chkR O = 0 := hok.chk
  have HCK : Hid (∀ W, Below w0.heap.size w0 W → Calls Try.prog 42 #[(O.to A9 c9).v] W (fun e w' => e = .returned (.int .i64 0) ∧ Below W.heap.size W w')) := Lib.hid (fun W h => by
    have h1 := reccheck_any (O.to A9 c9) hft w0.heap.size W ((K_0.out.rd.more K_0.out.1).below h) h.size
    rw [show chkR (O.to A9 c9) = 0 from hCk] at h1
    exact h1)
  have hfin : fit (O.to A9 c9) ∧ chkR (O.to A9 c9) = 0 ∧ ((O.to A9 c9).st = 2 → less (O.to A9 c9).pu (O.to A9 c9).at_ = true) := ⟨hft, hCk, hok.stg⟩
  have FIN := Lib.hid hfin
  have hnd := hok.nd; have hnu := hok.nu; have hcom := hok.com; have hstg := hok.stg; have hleft := hok.left
  clear hok hft hCk LQ0 hfin
  obtain ⟨nd1, nu1, st1, ⟨aw, al, ag⟩, rA, rn, rc, rl, rb, ⟨pw, pl, pg⟩⟩ := r
  obtain ⟨nd2, nu2, st2, ⟨bw, bl, bg⟩, oA, on, oc, ol, ob, ⟨qw, ql, qg⟩⟩ := O
  simp only at hRs hOs hnd hnu hcom hstg hleft
  subst hRs hOs hnd hnu
  unfold Rec.to at FIN HCK Y_0
  try unfold Rec.to at K_0
  unfold Rec.v at HCK
  simp only at FIN HCK Y_0
  try simp only at K_0
  obtain ⟨k3, k4, k6, k5⟩ := hleft rfl (by decide)
  clear hcom hstg hleft
  obtain ⟨x0, x1, x2, x3, x4, x5, x6, x7, x8, x9, x10, x11, x12⟩ := Lw_0.out.x
  try dsimp only [Rec.to] at x2 x3 x4 x5 x6 x7 x8 x9 x10 x11 x12
  obtain ⟨y0, y1, y2, y3, y4, y5, y6, y7, y8, y9, y10, y11, y12⟩ := Y_0.out
  try dsimp only [Rec.to] at y2 y3 y4 y5 y6 y7 y8 y9 y10 y11 y12
  obtain ⟨t0, t1, t2, t3, t4, t5, t6⟩ := T_0.out
  go_wp2_with fail
  refine (pick_any s.k 7 (by decide) (by decide) hkk _).mono ?_
  rintro e w9 ⟨rfl, hw9⟩
  subst hw9
  generalize s.k % 7 = kd at *
  go_wp2_with fail
  refine (HCK.out _ (Below.refl _ _)).mono ?_
  rintro e w1 ⟨rfl, hb⟩
  clear x0 x1 x2 x3 x4 x5 x6 x7 x8 x9 x10 x11 x12 y0 y1 y2 y3 y4 y5 y6 y7 y8 y9 y10 y11 y12 t0 t1 t2 t3 t4 t5 t6
  have Lw_1 := Lib.hid (Lw_0.out.next hb); clear Lw_0
  have Y_1 := Lib.hid (Y_0.out.next hb); clear Y_0
  have K_1 := Lib.hid (K_0.out.next hb); clear K_0
  have T_1 := Lib.hid (T_0.out.next hb); clear T_0
  clear hb
  clear HCK
  have d3 : decide (kd = 3) = false := by simpa using k3
  have d4 : decide (kd = 4) = false := by simpa using k4
  have d6 : decide (kd = 6) = false := by simpa using k6
  have m3 : (kd == 3) = false := by simpa using k3
  have m4 : (kd == 4) = false := by simpa using k4
  have m6 : (kd == 6) = false := by simpa using k6
  by_cases h5 : kd = 5
  · have k5e : s.a = ⟨aw, al, ag⟩ := k5 h5
    clear k5
    subst h5
    obtain ⟨x0, x1, x2, x3, x4, x5, x6, x7, x8, x9, x10, x11, x12⟩ := Lw_1.out.x
    try dsimp only [Rec.to] at x2 x3 x4 x5 x6 x7 x8 x9 x10 x11 x12
    obtain ⟨y0, y1, y2, y3, y4, y5, y6, y7, y8, y9, y10, y11, y12⟩ := Y_1.out
    try dsimp only [Rec.to] at y2 y3 y4 y5 y6 y7 y8 y9 y10 y11 y12
    obtain ⟨t0, t1, t2, t3, t4, t5, t6⟩ := T_1.out
    rw [k5e] at t2 t3 t4
    dsimp only at t2 t3 t4
    go_wp2_with fail
    go_quiet (fail)
    clear x0 x1 x2 x3 x4 x5 x6 x7 x8 x9 x10 x11 x12 y0 y1 y2 y3 y4 y5 y6 y7 y8 y9 y10 y11 y12 t0 t1 t2 t3 t4 t5 t6
    have hbq : Below w1.heap.size w1 (w1.drewN nq) := bel_dn (Below.refl _ _) nq
    have Lw_2 := Lib.hid (Lw_1.out.next hbq); clear Lw_1
    have Y_2 := Lib.hid (Y_1.out.next hbq); clear Y_1
    have K_2 := Lib.hid (K_1.out.next hbq); clear K_1
    have T_2 := Lib.hid (T_1.out.next hbq); clear T_1
    clear hbq
    generalize w1.drewN nq = w2 at *
    obtain ⟨x0, x1, x2, x3, x4, x5, x6, x7, x8, x9, x10, x11, x12⟩ := Lw_2.out.x
    try dsimp only [Rec.to] at x2 x3 x4 x5 x6 x7 x8 x9 x10 x11 x12
    obtain ⟨y0, y1, y2, y3, y4, y5, y6, y7, y8, y9, y10, y11, y12⟩ := Y_2.out
    try dsimp only [Rec.to] at y2 y3 y4 y5 y6 y7 y8 y9 y10 y11 y12
    obtain ⟨t0, t1, t2, t3, t4, t5, t6⟩ := T_2.out
    rw [k5e] at t2 t3 t4
    dsimp only at t2 t3 t4
    go_wp2_with fail
    exact hnext.out _ _ _ _ _ _ _ _ _ _ _ _ _ _ _ _ _ _ _ _ _ _ _ _ _ _ _ _ _ _ _ _ _ _ _ _ _ _ _ _ _ _ _ _ _ _ _ _ _ _ _ _ _ _ _ _ _ _ _ _ _ _ _ _ _ _ _ _ _ _ _ _ _ _ _ _ _ _ _ _ _ _ _ _ _ _ _ _ _ _ _ _ _ _ _ _ _ _ _ _ _ _ _ _ _ _ _ _ _ _ _ _ _ _ _ _ _ _ _ _ _ _ _ ⟨nd2, nu2, 4, ⟨bw, bl, bg⟩, A9, on, c9, ol, ob, ⟨qw, ql, qg⟩⟩ ⟨bel_setR Lw_2.out.bel Lw_2.out.hb ⟨nd2, nu2, 4, ⟨bw, bl, bg⟩, A9, on, c9, ol, ob, ⟨qw, ql, qg⟩⟩, Lw_2.out.hb, Lw_2.out.x.setR ⟨nd2, nu2, 4, ⟨bw, bl, bg⟩, A9, on, c9, ol, ob, ⟨qw, ql, qg⟩⟩, (K_2.out.rdn HI9.out.2).setR (Nat.lt_succ_self _) ⟨nd2, nu2, 4, ⟨bw, bl, bg⟩, A9, on, c9, ol, ob, ⟨qw, ql, qg⟩⟩, FIN.out.1, FIN.out.2.1, (by first | exact FIN.out.2.2 | exact fun _ => FIN.out.2.2 trivial)⟩
  · have m5 : (kd == 5) = false := by simpa using h5
    clear k5
    have d5 : decide (kd = 5) = false := by simpa using h5
    obtain ⟨x0, x1, x2, x3, x4, x5, x6, x7, x8, x9, x10, x11, x12⟩ := Lw_1.out.x
    try dsimp only [Rec.to] at x2 x3 x4 x5 x6 x7 x8 x9 x10 x11 x12
    obtain ⟨y0, y1, y2, y3, y4, y5, y6, y7, y8, y9, y10, y11, y12⟩ := Y_1.out
    try dsimp only [Rec.to] at y2 y3 y4 y5 y6 y7 y8 y9 y10 y11 y12
    obtain ⟨t0, t1, t2, t3, t4, t5, t6⟩ := T_1.out
    go_wp2_with fail
    go_quiet (fail)
    clear x0 x1 x2 x3 x4 x5 x6 x7 x8 x9 x10 x11 x12 y0 y1 y2 y3 y4 y5 y6 y7 y8 y9 y10 y11 y12 t0 t1 t2 t3 t4 t5 t6
    have hbq : Below w1.heap.size w1 (w1.drewN nq) := bel_dn (Below.refl _ _) nq
    have Lw_2 := Lib.hid (Lw_1.out.next hbq); clear Lw_1
    have Y_2 := Lib.hid (Y_1.out.next hbq); clear Y_1
    have K_2 := Lib.hid (K_1.out.next hbq); clear K_1
    have T_2 := Lib.hid (T_1.out.next hbq); clear T_1
    clear hbq
    generalize w1.drewN nq = w2 at *
    obtain ⟨x0, x1, x2, x3, x4, x5, x6, x7, x8, x9, x10, x11, x12⟩ := Lw_2.out.x
    try dsimp only [Rec.to] at x2 x3 x4 x5 x6 x7 x8 x9 x10 x11 x12
    obtain ⟨y0, y1, y2, y3, y4, y5, y6, y7, y8, y9, y10, y11, y12⟩ := Y_2.out
    try dsimp only [Rec.to] at y2 y3 y4 y5 y6 y7 y8 y9 y10 y11 y12
    obtain ⟨t0, t1, t2, t3, t4, t5, t6⟩ := T_2.out
    go_wp2_with fail
    exact hnext.out _ _ _ _ _ _ _ _ _ _ _ _ _ _ _ _ _ _ _ _ _ _ _ _ _ _ _ _ _ _ _ _ _ _ _ _ _ _ _ _ _ _ _ _ _ _ _ _ _ _ _ _ _ _ _ _ _ _ _ _ _ _ _ _ _ _ _ _ _ _ _ _ _ _ _ _ _ _ _ _ _ _ _ _ _ _ _ _ _ _ _ _ _ _ _ _ _ _ _ _ _ _ _ _ _ _ _ _ _ _ _ _ _ _ _ _ _ _ _ _ _ _ _ ⟨nd2, nu2, 4, ⟨bw, bl, bg⟩, A9, on, c9, ol, ob, ⟨qw, ql, qg⟩⟩ ⟨bel_setR Lw_2.out.bel Lw_2.out.hb ⟨nd2, nu2, 4, ⟨bw, bl, bg⟩, A9, on, c9, ol, ob, ⟨qw, ql, qg⟩⟩, Lw_2.out.hb, Lw_2.out.x.setR ⟨nd2, nu2, 4, ⟨bw, bl, bg⟩, A9, on, c9, ol, ob, ⟨qw, ql, qg⟩⟩, (K_2.out.rdn HI9.out.2).setR (Nat.lt_succ_self _) ⟨nd2, nu2, 4, ⟨bw, bl, bg⟩, A9, on, c9, ol, ob, ⟨qw, ql, qg⟩⟩, FIN.out.1, FIN.out.2.1, (by first | exact FIN.out.2.2 | exact fun _ => FIN.out.2.2 trivial)⟩
set_option maxHeartbeats 3200000 in
theorem rf_ok_3_3 {u0 u1 u3 u4 u5 u6 u8 u12 u13 u14 u15 u16 u17 u18 u19 u20 u21 u22 u23 u24 u25 u26 u27 u28 u29 u30 u31 u32 u33 u34 u35 u36 u37 u38 u39 u40 u41 u42 u43 u44 u45 u46 u47 u48 u49 u50 u51 u52 u53 u54 u55 u56 u57 u58 u59 u60 u61 u62 u63 u64 u65 u66 u67 u68 u69 u70 u71 u72 u73 u74 u75 u76 u77 u78 u79 u80 u81 u82 u83 u84 u85 u86 u87 u88 u89 u90 u91 u92 u93 u94 u95 u96 u97 u98 u99 u100 u101 u102 u103 u104 u105 u106 u107 u108 u109 u110 u111 u112 u113 u114 u115 u116 u117 u118 u119 u120 u121 u122 u123 u124 u125 u126 u127 u128 u129 u130 u131 u132 u133 u134 u135 u136 u137 u138 u139 u140 u141 u142 u143 u144 u145 u146 u147 u148 u149 u150 u151 u152 : Value} {Q0 : Exit → Act → World → Prop} {w w0 : World} {tb nb lo hi bb off k n c c9 : Nat} {A9 : Option Addr} {r O : Rec} {s : StepL} (Lw_0 : Hid (LpQ w w0 tb r)) (Y_0 : Hid (BxQ w0 nb (O.to A9 c9))) (K_0 : Hid (RdB w0 lo hi A9 (sv O.l))) (T_0 : Hid (StI w0 bb (off + k * 6) s))
    (HI9 : Hid (tb < nb ∧ tb + 1 ≤ lo)) (hok : StepOk r s O) (hkk : -9223372036854775808 ≤ s.k ∧ s.k ≤ 9223372036854775807) (i0 : (0 : Int) ≤ (k : Int)) (i1 : (k : Int) < (n : Int)) (hRs : r.st = 3) (hOs : O.st = 3)
    (hnext : Hid (∀ (v6 v10 v11 v12 v13 v36 v37 v38 v39 v40 v41 v42 v43 v44 v45 v46 v47 v48 v49 v50 v51 v52 v53 v54 v55 v56 v57 v58 v59 v60 v61 v62 v63 v64 v65 v66 v67 v68 v69 v70 v71 v72 v73 v74 v75 v76 v77 v78 v79 v80 v81 v82 v83 v84 v85 v86 v87 v88 v89 v90 v91 v92 v93 v94 v95 v96 v97 v98 v99 v100 v101 v102 v103 v104 v105 v106 v107 v108 v109 v110 v111 v112 v113 v114 v115 v116 v117 v118 v119 v120 v121 v122 v123 v124 v125 v126 v127 v128 v129 v130 v131 v132 v133 v134 v135 v136 v137 v138 v139 v140 v141 v142 v143 v144 v145 v146 v147 v148 v149 v150 v151 v152 : Value) (w' : World) (r' : Rec), LpQ w w' tb r' → Q0 .normal ⟨#[u0, u1, .slice (some ⟨bb, off, none⟩) n c, u3, u4, u5, v6, .pointer (some ⟨tb, 0, none⟩), u8, .int .i64 (k : Int), v10, v11, v12, v13, u14, u15, u16, u17, u18, u19, u20, u21, u22, u23, u24, u25, u26, u27, u28, u29, u30, u31, u32, u33, u34, u35, v36, v37, v38, v39, v40, v41, v42, v43, v44, v45, v46, v47, v48, v49, v50, v51, v52, v53, v54, v55, v56, v57, v58, v59, v60, v61, v62, v63, v64, v65, v66, v67, v68, v69, v70, v71, v72, v73, v74, v75, v76, v77, v78, v79, v80, v81, v82, v83, v84, v85, v86, v87, v88, v89, v90, v91, v92, v93, v94, v95, v96, v97, v98, v99, v100, v101, v102, v103, v104, v105, v106, v107, v108, v109, v110, v111, v112, v113, v114, v115, v116, v117, v118, v119, v120, v121, v122, v123, v124, v125, v126, v127, v128, v129, v130, v131, v132, v133, v134, v135, v136, v137, v138, v139, v140, v141, v142, v143, v144, v145, v146, v147, v148, v149, v150, v151, v152], []⟩ w')) :
    Code.wp Try.prog rfBody Q0 ⟨#[u0, u1, .slice (some ⟨bb, off, none⟩) n c, u3, u4, u5, u6, .pointer (some ⟨tb, 0, none⟩), u8, .int .i64 (k : Int), .pointer (some ⟨nb, 0, none⟩), .int .i64 0, u12, u13, u14, u15, u16, u17, u18, u19, u20, u21, u22, u23, u24, u25, u26, u27, u28, u29, u30, u31, u32, u33, u34, u35, u36, u37, u38, u39, u40, u41, u42, u43, u44, u45, u46, u47, u48, u49, u50, u51, u52, u53, u54, u55, u56, u57, u58, u59, u60, u61, u62, u63, u64, u65, u66, u67, u68, u69, u70, u71, u72, u73, u74, u75, u76, u77, u78, u79, u80, u81, u82, u83, u84, u85, u86, u87, u88, u89, u90, u91, u92, u93, u94, u95, u96, u97, u98, u99, u100, u101, u102, u103, u104, u105, u106, u107, u108, u109, u110, u111, u112, u113, u114, u115, u116, u117, u118, u119, u120, u121, u122, u123, u124, u125, u126, u127, u128, u129, u130, u131, u132, u133, u134, u135, u136, u137, u138, u139, u140, u141, u142, u143, u144, u145, u146, u147, u148, u149, u150, u151, u152], []⟩ w0 := by
  conv => arg 2; whnf
  have LQ0 := Lw_0.out
  have hft : fit O := hok.fit
  have hCk : chkR O = 0 := hok.chk
  have hd := hok.done (by omega)
  subst hd
  have HSM := Lib.hid (fun W (h : Below w0.heap.size w0 W) => rsame_yes (r.to A9 c9) r.A r.c LQ0.ft (show r.n ≤ _ by have := (chkR_zero LQ0.chk).1; omega) w0.heap.size W ((K_0.out.rd.more K_0.out.1).below h) (LQ0.n.rd.below h) h.size)
  have HCK : Hid (∀ W, Below w0.heap.size w0 W → Calls Try.prog 42 #[(r.to A9 c9).v] W (fun e w' => e = .returned (.int .i64 0) ∧ Below W.heap.size W w')) := Lib.hid (fun W h => by
    have h1 := reccheck_any (r.to A9 c9) LQ0.ft w0.heap.size W ((K_0.out.rd.more K_0.out.1).below h) h.size
    rw [show chkR (r.to A9 c9) = 0 from LQ0.chk] at h1
    exact h1)
  have hfin : fit (r.to A9 c9) ∧ chkR (r.to A9 c9) = 0 ∧ ((r.to A9 c9).st = 2 → less (r.to A9 c9).pu (r.to A9 c9).at_ = true) := ⟨hft, hCk, hok.stg⟩
  have FIN := Lib.hid hfin
  clear hok hft hCk LQ0 hfin hOs
  obtain ⟨nd1, nu1, st1, ⟨aw, al, ag⟩, rA, rn, rc, rl, rb, ⟨pw, pl, pg⟩⟩ := r
  simp only at hRs
  subst hRs
  unfold Rec.to at FIN HSM HCK Y_0
  try unfold Rec.to at K_0
  unfold Rec.v at HSM HCK
  simp only at FIN HSM HCK Y_0
  try simp only at K_0
  obtain ⟨x0, x1, x2, x3, x4, x5, x6, x7, x8, x9, x10, x11, x12⟩ := Lw_0.out.x
  try dsimp only [Rec.to] at x2 x3 x4 x5 x6 x7 x8 x9 x10 x11 x12
  obtain ⟨y0, y1, y2, y3, y4, y5, y6, y7, y8, y9, y10, y11, y12⟩ := Y_0.out
  try dsimp only [Rec.to] at y2 y3 y4 y5 y6 y7 y8 y9 y10 y11 y12
  obtain ⟨t0, t1, t2, t3, t4, t5, t6⟩ := T_0.out
  go_wp2_with fail
  refine (pick_any s.k 7 (by decide) (by decide) hkk _).mono ?_
  rintro e w9 ⟨rfl, hw9⟩
  subst hw9
  generalize s.k % 7 = kd at *
  go_wp2_with fail
  refine (HCK.out _ (Below.refl _ _)).mono ?_
  rintro e w1 ⟨rfl, hb⟩
  clear x0 x1 x2 x3 x4 x5 x6 x7 x8 x9 x10 x11 x12 y0 y1 y2 y3 y4 y5 y6 y7 y8 y9 y10 y11 y12 t0 t1 t2 t3 t4 t5 t6
  have Lw_1 := Lib.hid (Lw_0.out.next hb); clear Lw_0
  have Y_1 := Lib.hid (Y_0.out.next hb); clear Y_0
  have K_1 := Lib.hid (K_0.out.next hb); clear K_0
  have T_1 := Lib.hid (T_0.out.next hb); clear T_0
  have HB1 := Lib.hid hb; clear hb
  obtain ⟨x0, x1, x2, x3, x4, x5, x6, x7, x8, x9, x10, x11, x12⟩ := Lw_1.out.x
  try dsimp only [Rec.to] at x2 x3 x4 x5 x6 x7 x8 x9 x10 x11 x12
  obtain ⟨y0, y1, y2, y3, y4, y5, y6, y7, y8, y9, y10, y11, y12⟩ := Y_1.out
  try dsimp only [Rec.to] at y2 y3 y4 y5 y6 y7 y8 y9 y10 y11 y12
  go_wp2_with fail
  refine (HSM.out _ HB1.out).mono ?_
  rintro e w2 ⟨rfl, hb⟩
  clear x0 x1 x2 x3 x4 x5 x6 x7 x8 x9 x10 x11 x12 y0 y1 y2 y3 y4 y5 y6 y7 y8 y9 y10 y11 y12
  have Lw_2 := Lib.hid (Lw_1.out.next hb); clear Lw_1
  have Y_2 := Lib.hid (Y_1.out.next hb); clear Y_1
  have K_2 := Lib.hid (K_1.out.next hb); clear K_1
  have T_2 := Lib.hid (T_1.out.next hb); clear T_1
  clear hb HSM
  clear HCK
  obtain ⟨x0, x1, x2, x3, x4, x5, x6, x7, x8, x9, x10, x11, x12⟩ := Lw_2.out.x
  try dsimp only [Rec.to] at x2 x3 x4 x5 x6 x7 x8 x9 x10 x11 x12
  obtain ⟨y0, y1, y2, y3, y4, y5, y6, y7, y8, y9, y10, y11, y12⟩ := Y_2.out
  try dsimp only [Rec.to] at y2 y3 y4 y5 y6 y7 y8 y9 y10 y11 y12
  obtain ⟨t0, t1, t2, t3, t4, t5, t6⟩ := T_2.out
  go_wp2_with fail
  go_quiet (fail)
  clear x0 x1 x2 x3 x4 x5 x6 x7 x8 x9 x10 x11 x12 y0 y1 y2 y3 y4 y5 y6 y7 y8 y9 y10 y11 y12 t0 t1 t2 t3 t4 t5 t6
  have hbq : Below w2.heap.size w2 (w2.drewN nq) := bel_dn (Below.refl _ _) nq
  have Lw_3 := Lib.hid (Lw_2.out.next hbq); clear Lw_2
  have Y_3 := Lib.hid (Y_2.out.next hbq); clear Y_2
  have K_3 := Lib.hid (K_2.out.next hbq); clear K_2
  have T_3 := Lib.hid (T_2.out.next hbq); clear T_2
  clear hbq
  generalize w2.drewN nq = w3 at *
  obtain ⟨x0, x1, x2, x3, x4, x5, x6, x7, x8, x9, x10, x11, x12⟩ := Lw_3.out.x
  try dsimp only [Rec.to] at x2 x3 x4 x5 x6 x7 x8 x9 x10 x11 x12
  obtain ⟨y0, y1, y2, y3, y4, y5, y6, y7, y8, y9, y10, y11, y12⟩ := Y_3.out
  try dsimp only [Rec.to] at y2 y3 y4 y5 y6 y7 y8 y9 y10 y11 y12
  obtain ⟨t0, t1, t2, t3, t4, t5, t6⟩ := T_3.out
  go_wp2_with fail
  exact hnext.out _ _ _ _ _ _ _ _ _ _ _ _ _ _ _ _ _ _ _ _ _ _ _ _ _ _ _ _ _ _ _ _ _ _ _ _ _ _ _ _ _ _ _ _ _ _ _ _ _ _ _ _ _ _ _ _ _ _ _ _ _ _ _ _ _ _ _ _ _ _ _ _ _ _ _ _ _ _ _ _ _ _ _ _ _ _ _ _ _ _ _ _ _ _ _ _ _ _ _ _ _ _ _ _ _ _ _ _ _ _ _ _ _ _ _ _ _ _ _ _ _ _ _ ⟨nd1, nu1, 3, ⟨aw, al, ag⟩, A9, rn, c9, rl, rb, ⟨pw, pl, pg⟩⟩ ⟨bel_setR Lw_3.out.bel Lw_3.out.hb ⟨nd1, nu1, 3, ⟨aw, al, ag⟩, A9, rn, c9, rl, rb, ⟨pw, pl, pg⟩⟩, Lw_3.out.hb, Lw_3.out.x.setR ⟨nd1, nu1, 3, ⟨aw, al, ag⟩, A9, rn, c9, rl, rb, ⟨pw, pl, pg⟩⟩, (K_3.out.rdn HI9.out.2).setR (Nat.lt_succ_self _) ⟨nd1, nu1, 3, ⟨aw, al, ag⟩, A9, rn, c9, rl, rb, ⟨pw, pl, pg⟩⟩, FIN.out.1, FIN.out.2.1, (by first | exact FIN.out.2.2 | exact fun _ => FIN.out.2.2 trivial)⟩
set_option maxHeartbeats 3200000 in
theorem rf_ok_4_4 {u0 u1 u3 u4 u5 u6 u8 u12 u13 u14 u15 u16 u17 u18 u19 u20 u21 u22 u23 u24 u25 u26 u27 u28 u29 u30 u31 u32 u33 u34 u35 u36 u37 u38 u39 u40 u41 u42 u43 u44 u45 u46 u47 u48 u49 u50 u51 u52 u53 u54 u55 u56 u57 u58 u59 u60 u61 u62 u63 u64 u65 u66 u67 u68 u69 u70 u71 u72 u73 u74 u75 u76 u77 u78 u79 u80 u81 u82 u83 u84 u85 u86 u87 u88 u89 u90 u91 u92 u93 u94 u95 u96 u97 u98 u99 u100 u101 u102 u103 u104 u105 u106 u107 u108 u109 u110 u111 u112 u113 u114 u115 u116 u117 u118 u119 u120 u121 u122 u123 u124 u125 u126 u127 u128 u129 u130 u131 u132 u133 u134 u135 u136 u137 u138 u139 u140 u141 u142 u143 u144 u145 u146 u147 u148 u149 u150 u151 u152 : Value} {Q0 : Exit → Act → World → Prop} {w w0 : World} {tb nb lo hi bb off k n c c9 : Nat} {A9 : Option Addr} {r O : Rec} {s : StepL} (Lw_0 : Hid (LpQ w w0 tb r)) (Y_0 : Hid (BxQ w0 nb (O.to A9 c9))) (K_0 : Hid (RdB w0 lo hi A9 (sv O.l))) (T_0 : Hid (StI w0 bb (off + k * 6) s))
    (HI9 : Hid (tb < nb ∧ tb + 1 ≤ lo)) (hok : StepOk r s O) (hkk : -9223372036854775808 ≤ s.k ∧ s.k ≤ 9223372036854775807) (i0 : (0 : Int) ≤ (k : Int)) (i1 : (k : Int) < (n : Int)) (hRs : r.st = 4) (hOs : O.st = 4)
    (hnext : Hid (∀ (v6 v10 v11 v12 v13 v36 v37 v38 v39 v40 v41 v42 v43 v44 v45 v46 v47 v48 v49 v50 v51 v52 v53 v54 v55 v56 v57 v58 v59 v60 v61 v62 v63 v64 v65 v66 v67 v68 v69 v70 v71 v72 v73 v74 v75 v76 v77 v78 v79 v80 v81 v82 v83 v84 v85 v86 v87 v88 v89 v90 v91 v92 v93 v94 v95 v96 v97 v98 v99 v100 v101 v102 v103 v104 v105 v106 v107 v108 v109 v110 v111 v112 v113 v114 v115 v116 v117 v118 v119 v120 v121 v122 v123 v124 v125 v126 v127 v128 v129 v130 v131 v132 v133 v134 v135 v136 v137 v138 v139 v140 v141 v142 v143 v144 v145 v146 v147 v148 v149 v150 v151 v152 : Value) (w' : World) (r' : Rec), LpQ w w' tb r' → Q0 .normal ⟨#[u0, u1, .slice (some ⟨bb, off, none⟩) n c, u3, u4, u5, v6, .pointer (some ⟨tb, 0, none⟩), u8, .int .i64 (k : Int), v10, v11, v12, v13, u14, u15, u16, u17, u18, u19, u20, u21, u22, u23, u24, u25, u26, u27, u28, u29, u30, u31, u32, u33, u34, u35, v36, v37, v38, v39, v40, v41, v42, v43, v44, v45, v46, v47, v48, v49, v50, v51, v52, v53, v54, v55, v56, v57, v58, v59, v60, v61, v62, v63, v64, v65, v66, v67, v68, v69, v70, v71, v72, v73, v74, v75, v76, v77, v78, v79, v80, v81, v82, v83, v84, v85, v86, v87, v88, v89, v90, v91, v92, v93, v94, v95, v96, v97, v98, v99, v100, v101, v102, v103, v104, v105, v106, v107, v108, v109, v110, v111, v112, v113, v114, v115, v116, v117, v118, v119, v120, v121, v122, v123, v124, v125, v126, v127, v128, v129, v130, v131, v132, v133, v134, v135, v136, v137, v138, v139, v140, v141, v142, v143, v144, v145, v146, v147, v148, v149, v150, v151, v152], []⟩ w')) :
    Code.wp Try.prog rfBody Q0 ⟨#[u0, u1, .slice (some ⟨bb, off, none⟩) n c, u3, u4, u5, u6, .pointer (some ⟨tb, 0, none⟩), u8, .int .i64 (k : Int), .pointer (some ⟨nb, 0, none⟩), .int .i64 0, u12, u13, u14, u15, u16, u17, u18, u19, u20, u21, u22, u23, u24, u25, u26, u27, u28, u29, u30, u31, u32, u33, u34, u35, u36, u37, u38, u39, u40, u41, u42, u43, u44, u45, u46, u47, u48, u49, u50, u51, u52, u53, u54, u55, u56, u57, u58, u59, u60, u61, u62, u63, u64, u65, u66, u67, u68, u69, u70, u71, u72, u73, u74, u75, u76, u77, u78, u79, u80, u81, u82, u83, u84, u85, u86, u87, u88, u89, u90, u91, u92, u93, u94, u95, u96, u97, u98, u99, u100, u101, u102, u103, u104, u105, u106, u107, u108, u109, u110, u111, u112, u113, u114, u115, u116, u117, u118, u119, u120, u121, u122, u123, u124, u125, u126, u127, u128, u129, u130, u131, u132, u133, u134, u135, u136, u137, u138, u139, u140, u141, u142, u143, u144, u145, u146, u147, u148, u149, u150, u151, u152], []⟩ w0 := by
  conv => arg 2; whnf
  have LQ0 := Lw_0.out
  have hft : fit O := hok.fit
  have hCk : chkR O = 0 := hok.chk
  have hd := hok.done (by omega)
  subst hd
  have HSM := Lib.hid (fun W (h : Below w0.heap.size w0 W) => rsame_yes (r.to A9 c9) r.A r.c LQ0.ft (show r.n ≤ _ by have := (chkR_zero LQ0.chk).1; omega) w0.heap.size W ((K_0.out.rd.more K_0.out.1).below h) (LQ0.n.rd.below h) h.size)
  have HCK : Hid (∀ W, Below w0.heap.size w0 W → Calls Try.prog 42 #[(r.to A9 c9).v] W (fun e w' => e = .returned (.int .i64 0) ∧ Below W.heap.size W w')) := Lib.hid (fun W h => by
    have h1 := reccheck_any (r.to A9 c9) LQ0.ft w0.heap.size W ((K_0.out.rd.more K_0.out.1).below h) h.size
    rw [show chkR (r.to A9 c9) = 0 from LQ0.chk] at h1
    exact h1)
  have hfin : fit (r.to A9 c9) ∧ chkR (r.to A9 c9) = 0 ∧ ((r.to A9 c9).st = 2 → less (r.to A9 c9).pu (r.to A9 c9).at_ = true) := ⟨hft, hCk, hok.stg⟩
  have FIN := Lib.hid hfin
  clear hok hft hCk LQ0 hfin hOs
  obtain ⟨nd1, nu1, st1, ⟨aw, al, ag⟩, rA, rn, rc, rl, rb, ⟨pw, pl, pg⟩⟩ := r
  simp only at hRs
  subst hRs
  unfold Rec.to at FIN HSM HCK Y_0
  try unfold Rec.to at K_0
  unfold Rec.v at HSM HCK
  simp only at FIN HSM HCK Y_0
  try simp only at K_0
  obtain ⟨x0, x1, x2, x3, x4, x5, x6, x7, x8, x9, x10, x11, x12⟩ := Lw_0.out.x
  try dsimp only [Rec.to] at x2 x3 x4 x5 x6 x7 x8 x9 x10 x11 x12
  obtain ⟨y0, y1, y2, y3, y4, y5, y6, y7, y8, y9, y10, y11, y12⟩ := Y_0.out
  try dsimp only [Rec.to] at y2 y3 y4 y5 y6 y7 y8 y9 y10 y11 y12
  obtain ⟨t0, t1, t2, t3, t4, t5, t6⟩ := T_0.out
  go_wp2_with fail
  refine (pick_any s.k 7 (by decide) (by decide) hkk _).mono ?_
  rintro e w9 ⟨rfl, hw9⟩
  subst hw9
  generalize s.k % 7 = kd at *
  go_wp2_with fail
  refine (HCK.out _ (Below.refl _ _)).mono ?_
  rintro e w1 ⟨rfl, hb⟩
  clear x0 x1 x2 x3 x4 x5 x6 x7 x8 x9 x10 x11 x12 y0 y1 y2 y3 y4 y5 y6 y7 y8 y9 y10 y11 y12 t0 t1 t2 t3 t4 t5 t6
  have Lw_1 := Lib.hid (Lw_0.out.next hb); clear Lw_0
  have Y_1 := Lib.hid (Y_0.out.next hb); clear Y_0
  have K_1 := Lib.hid (K_0.out.next hb); clear K_0
  have T_1 := Lib.hid (T_0.out.next hb); clear T_0
  have HB1 := Lib.hid hb; clear hb
  obtain ⟨x0, x1, x2, x3, x4, x5, x6, x7, x8, x9, x10, x11, x12⟩ := Lw_1.out.x
  try dsimp only [Rec.to] at x2 x3 x4 x5 x6 x7 x8 x9 x10 x11 x12
  obtain ⟨y0, y1, y2, y3, y4, y5, y6, y7, y8, y9, y10, y11, y12⟩ := Y_1.out
  try dsimp only [Rec.to] at y2 y3 y4 y5 y6 y7 y8 y9 y10 y11 y12
  go_wp2_with fail
  refine (HSM.out _ HB1.out).mono ?_
  rintro e w2 ⟨rfl, hb⟩
  clear x0 x1 x2 x3 x4 x5 x6 x7 x8 x9 x10 x11 x12 y0 y1 y2 y3 y4 y5 y6 y7 y8 y9 y10 y11 y12
  have Lw_2 := Lib.hid (Lw_1.out.next hb); clear Lw_1
  have Y_2 := Lib.hid (Y_1.out.next hb); clear Y_1
  have K_2 := Lib.hid (K_1.out.next hb); clear K_1
  have T_2 := Lib.hid (T_1.out.next hb); clear T_1
  clear hb HSM
  clear HCK
  obtain ⟨x0, x1, x2, x3, x4, x5, x6, x7, x8, x9, x10, x11, x12⟩ := Lw_2.out.x
  try dsimp only [Rec.to] at x2 x3 x4 x5 x6 x7 x8 x9 x10 x11 x12
  obtain ⟨y0, y1, y2, y3, y4, y5, y6, y7, y8, y9, y10, y11, y12⟩ := Y_2.out
  try dsimp only [Rec.to] at y2 y3 y4 y5 y6 y7 y8 y9 y10 y11 y12
  obtain ⟨t0, t1, t2, t3, t4, t5, t6⟩ := T_2.out
  go_wp2_with fail
  go_quiet (fail)
  clear x0 x1 x2 x3 x4 x5 x6 x7 x8 x9 x10 x11 x12 y0 y1 y2 y3 y4 y5 y6 y7 y8 y9 y10 y11 y12 t0 t1 t2 t3 t4 t5 t6
  have hbq : Below w2.heap.size w2 (w2.drewN nq) := bel_dn (Below.refl _ _) nq
  have Lw_3 := Lib.hid (Lw_2.out.next hbq); clear Lw_2
  have Y_3 := Lib.hid (Y_2.out.next hbq); clear Y_2
  have K_3 := Lib.hid (K_2.out.next hbq); clear K_2
  have T_3 := Lib.hid (T_2.out.next hbq); clear T_2
  clear hbq
  generalize w2.drewN nq = w3 at *
  obtain ⟨x0, x1, x2, x3, x4, x5, x6, x7, x8, x9, x10, x11, x12⟩ := Lw_3.out.x
  try dsimp only [Rec.to] at x2 x3 x4 x5 x6 x7 x8 x9 x10 x11 x12
  obtain ⟨y0, y1, y2, y3, y4, y5, y6, y7, y8, y9, y10, y11, y12⟩ := Y_3.out
  try dsimp only [Rec.to] at y2 y3 y4 y5 y6 y7 y8 y9 y10 y11 y12
  obtain ⟨t0, t1, t2, t3, t4, t5, t6⟩ := T_3.out
  go_wp2_with fail
  exact hnext.out _ _ _ _ _ _ _ _ _ _ _ _ _ _ _ _ _ _ _ _ _ _ _ _ _ _ _ _ _ _ _ _ _ _ _ _ _ _ _ _ _ _ _ _ _ _ _ _ _ _ _ _ _ _ _ _ _ _ _ _ _ _ _ _ _ _ _ _ _ _ _ _ _ _ _ _ _ _ _ _ _ _ _ _ _ _ _ _ _ _ _ _ _ _ _ _ _ _ _ _ _ _ _ _ _ _ _ _ _ _ _ _ _ _ _ _ _ _ _ _ _ _ _ ⟨nd1, nu1, 4, ⟨aw, al, ag⟩, A9, rn, c9, rl, rb, ⟨pw, pl, pg⟩⟩ ⟨bel_setR Lw_3.out.bel Lw_3.out.hb ⟨nd1, nu1, 4, ⟨aw, al, ag⟩, A9, rn, c9, rl, rb, ⟨pw, pl, pg⟩⟩, Lw_3.out.hb, Lw_3.out.x.setR ⟨nd1, nu1, 4, ⟨aw, al, ag⟩, A9, rn, c9, rl, rb, ⟨pw, pl, pg⟩⟩, (K_3.out.rdn HI9.out.2).setR (Nat.lt_succ_self _) ⟨nd1, nu1, 4, ⟨aw, al, ag⟩, A9, rn, c9, rl, rb, ⟨pw, pl, pg⟩⟩, FIN.out.1, FIN.out.2.1, (by first | exact FIN.out.2.2 | exact fun _ => FIN.out.2.2 trivial)⟩
end Go.Proofs.Ythigmjcepbgljaa
