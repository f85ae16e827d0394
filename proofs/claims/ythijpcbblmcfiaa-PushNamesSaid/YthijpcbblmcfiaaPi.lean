/- The walk of the chapter's numbers and examples on pushes. -/
import Derived.Test.YthijpcbblmcfiaaPg
import Derived.RegionTactic
import Derived.ChangeAlike
import Derived.BigRegion
namespace Go.Proofs.Ythijpcbblmcfiaa
open Go.RowKit Go.St
set_option linter.unusedVariables false
set_option linter.unusedSimpArgs false
set_option maxRecDepth 100000

/-- A record in a block. -/
structure BxR (W : World) (b : Nat) (r : Rec) : Prop where
  lt : b < W.heap.size
  fz : ∀ o, W.frozen? ⟨b, o, none⟩ = false
  c0 : W.cell? ⟨b, 0, none⟩ = some (.int .i32 r.nd)
  c1 : W.cell? ⟨b, 1, none⟩ = some (.int .i32 r.nu)
  c2 : W.cell? ⟨b, 2, none⟩ = some (.int .u8 r.st)
  c3 : W.cell? ⟨b, 3, none⟩ = some (.int .i64 r.at_.wall)
  c4 : W.cell? ⟨b, 4, none⟩ = some (.int .i32 r.at_.logic)
  c5 : W.cell? ⟨b, 5, none⟩ = some (.int .i32 r.at_.tag)
  c6 : W.cell? ⟨b, 6, none⟩ = some (.slice r.A r.n r.c)
  c7 : W.cell? ⟨b, 7, none⟩ = some (.int .i64 r.beat)
  c8 : W.cell? ⟨b, 8, none⟩ = some (.int .i64 r.pu.wall)
  c9 : W.cell? ⟨b, 9, none⟩ = some (.int .i32 r.pu.logic)
  c10 : W.cell? ⟨b, 10, none⟩ = some (.int .i32 r.pu.tag)
theorem BxR.next {W W' : World} {b : Nat} {r : Rec} (h : BxR W b r) (hb : Below W.heap.size W W') : BxR W' b r :=
  ⟨Nat.lt_of_lt_of_le h.lt hb.size, fun o => (hb.frozen (p := ⟨b, o, none⟩) h.lt).trans (h.fz o), (hb.cell (p := ⟨b, 0, none⟩) h.lt).trans h.c0, (hb.cell (p := ⟨b, 1, none⟩) h.lt).trans h.c1, (hb.cell (p := ⟨b, 2, none⟩) h.lt).trans h.c2, (hb.cell (p := ⟨b, 3, none⟩) h.lt).trans h.c3, (hb.cell (p := ⟨b, 4, none⟩) h.lt).trans h.c4, (hb.cell (p := ⟨b, 5, none⟩) h.lt).trans h.c5, (hb.cell (p := ⟨b, 6, none⟩) h.lt).trans h.c6, (hb.cell (p := ⟨b, 7, none⟩) h.lt).trans h.c7, (hb.cell (p := ⟨b, 8, none⟩) h.lt).trans h.c8, (hb.cell (p := ⟨b, 9, none⟩) h.lt).trans h.c9, (hb.cell (p := ⟨b, 10, none⟩) h.lt).trans h.c10⟩

def kA : ByteArray := ⟨#[97]⟩
abbrev sR (A : Option Addr) (st : Int) : Rec := ⟨1, 2, st, ⟨9, 0, 17⟩, A, 1, 1, [kA], 5, ⟨0, 0, 0⟩⟩
abbrev aR : Rec := ⟨1, 2, 4, ⟨0, 0, 0⟩, none, 0, 0, [], 0, ⟨0, 0, 0⟩⟩
theorem verb_at (r r0 : Rec) (hv0 : ∀ some reads m g now ex, vbV r some reads m g now ex = vbV r0 some reads m g now ex ∧ vbE r some m g now ex = vbE r0 some m g now ex) (hl : r.l.length = r.n) (reads : Bool) (a b c d e f : Int) (now ex v : Int) (hv : vbV r0 true reads ⟨a, b, c⟩ ⟨d, e, f⟩ now ex = v) (h0 : vbE r0 true ⟨a, b, c⟩ ⟨d, e, f⟩ now ex = 0) (B : Nat) (W : World) (hr : Rd W B r.A (sv r.l)) (hB : B ≤ W.heap.size) :
    Calls Try.prog 34 #[r.v, .bool true, .bool reads, .agg #[.int .i64 a, .int .i32 b, .int .i32 c], .agg #[.int .i64 d, .int .i32 e, .int .i32 f], .int .i64 now, .int .i64 ex] W fun e w' => e = .returned (.tuple #[.int .i64 v, .int .i64 0]) ∧ Below W.heap.size W w' := by
  have h := verb_any r hl B true reads ⟨a, b, c⟩ ⟨d, e, f⟩ now ex W hr hB
  rw [(hv0 _ _ _ _ _ _).1, (hv0 true reads _ _ _ _).2, hv, h0] at h
  exact h

set_option maxHeartbeats 3200000 in
theorem pushNames_walk (w : World) : Calls Try.prog 9 #[] w fun e w' => e = .returned (.bool true) ∧ Below w.heap.size w w' := by
  have H1 := Lib.hid (fun A B W (h : Rd W B A (sv [kA])) h2 => verb_at (sR A 2) (sR none 2) (fun _ _ _ _ _ _ => ⟨rfl, rfl⟩) rfl true 1 0 0 2 0 0 15 10 1 (by decide +kernel) (by decide +kernel) B W h h2)
  have H2 := Lib.hid (fun A B W (h : Rd W B A (sv [kA])) h2 => verb_at (sR A 2) (sR none 2) (fun _ _ _ _ _ _ => ⟨rfl, rfl⟩) rfl true 1 0 0 2 0 0 16 10 4 (by decide +kernel) (by decide +kernel) B W h h2)
  have H3 := Lib.hid (fun A B W (h : Rd W B A (sv [kA])) h2 => verb_at (sR A 3) (sR none 3) (fun _ _ _ _ _ _ => ⟨rfl, rfl⟩) rfl false 1 0 0 2 0 0 16 10 5 (by decide +kernel) (by decide +kernel) B W h h2)
  have H4 := Lib.hid (fun W => verb_at aR aR (fun _ _ _ _ _ _ => ⟨rfl, rfl⟩) rfl false 1 0 0 2 0 0 16 10 6 (by decide +kernel) (by decide +kernel) 0 W Rd.nil (Nat.zero_le _))
  have H5 := Lib.hid (fun W => verb_zero true 9 0 0 5 0 8 16 10 3 (by decide +kernel) (by decide +kernel) W)
  go_enter Try.func9, Try.ntmps9
  go_wp2_with fail
  refine (lives27_any _).mono ?_
  rintro e w1 ⟨rfl, hb⟩
  obtain ⟨hcw1, hfw1⟩ := bcell hb
  have HBw1 : Hid (Below w.heap.size w w1) := Below.go (by go_grown) hb (by go_size)
  have HEw1 := Lib.hid hb
  clear hb
  go_wp2_with fail
  refine (st27_any 9 0 17 _).mono ?_
  rintro e w2 ⟨rfl, hb⟩
  obtain ⟨hcw2, hfw2⟩ := bcell hb
  have HBw2 : Hid (Below w.heap.size w w2) := Below.go (by have hpre := HBw1.out; have hps := hpre.size; go_grown) hb (by have hpre := HBw1.out; have hps := hpre.size; go_size)
  have HEw2 := Lib.hid hb
  clear hb
  clear hcw1 hfw1 hcw2 hfw2 HEw1 HEw2
  have RK : Hid (Rd (w2.alloc (.cells #[.string kA] 9)) (w2.heap.size + 1) (some ⟨w2.heap.size, 0, none⟩) (sv [kA])) := rd_one w2 (.string kA) 9
  go_wp2
  have HBk : Hid (Below w.heap.size w (w2.alloc (.cells #[.string kA] 9))) := HBw2.out.alloc HBw2.out.size _
  have hsk : (w2.alloc (.cells #[.string kA] 9)).heap.size = w2.heap.size + 1 := World.size_alloc _ _
  have hs2 := HBw2.out.size
  change Code.wp _ _ _ _ ((w2.alloc (.cells #[.string kA] 9)).alloc (.cells #[.int .i32 1, .int .i32 2, .int .u8 2, .int .i64 9, .int .i32 0, .int .i32 17, .slice (some ⟨w2.heap.size, 0, none⟩) 1 1, .int .i64 5, .int .i64 0, .int .i32 0, .int .i32 0] 57))
  generalize (w2.alloc (.cells #[.string kA] 9)) = wk at *
  rw [← hsk]
  rw [← hsk] at RK
  generalize w2.heap.size = kb at *
  have K1 := Lib.hid (fun W (hb : Below wk.heap.size wk W) => H1.out _ _ W (RK.out.below hb) hb.size)
  have K2 := Lib.hid (fun W (hb : Below wk.heap.size wk W) => H2.out _ _ W (RK.out.below hb) hb.size)
  have K3 := Lib.hid (fun W (hb : Below wk.heap.size wk W) => H3.out _ _ W (RK.out.below hb) hb.size)
  clear H1 H2 H3 RK hsk
  go_region
  · skip
    go_wp2
    refine wp_qall (by kernel_rfl) (by kernel_rfl) ?_
    intro hcg
    repeat (first | go_big_quiet_step (first | with_reducible exact Calls.reg (st27_any _ _ _ _) | exact Calls.reg (K1.out _ (Below.goq (by go_grown) _ _ (by simp; omega)))) | quiet_step (first | with_reducible exact Calls.reg (st27_any _ _ _ _) | exact Calls.reg (K1.out _ (Below.goq (by go_grown) _ _ (by simp; omega)))))
    refine wpQuiet_nil ?_
    intro x1 hbx1 hcx1 hfx1
    clear hcg
    have HBx1 : Hid (Below w.heap.size w x1) := Below.go (by have h := HBk.out; have hs := h.size; go_grown) hbx1 (by have h := HBk.out.size; go_size)
    have HKx1 : Hid (Below wk.heap.size wk x1) := Below.go (by go_grown) hbx1 (by go_size)
    have B1x1 : Hid (BxR x1 wk.heap.size (sR (some ⟨kb, 0, none⟩) 2)) := BxR.next (by constructor <;> first | (intro o; go_simp) | go_simp) hbx1
    have B2x1 : Hid (BxR x1 (wk.heap.size + 1) (sR (some ⟨kb, 0, none⟩) 3)) := BxR.next (by constructor <;> first | (intro o; go_simp) | go_simp) hbx1
    have B3x1 : Hid (BxR x1 (wk.heap.size + 1 + 1) aR) := BxR.next (by constructor <;> first | (intro o; go_simp) | go_simp) hbx1
    clear hbx1 hcx1 hfx1 K1
    obtain ⟨a0, a1, a2, a3, a4, a5, a6, a7, a8, a9, a10, a11, a12⟩ := B1x1.out
    dsimp only [sR] at a2 a3 a4 a5 a6 a7 a8 a9 a10 a11 a12
    go_wp2
    refine wp_qall (by kernel_rfl) (by kernel_rfl) ?_
    intro hcg
    repeat (first | go_big_quiet_step (first | with_reducible exact Calls.reg (st27_any _ _ _ _) | exact Calls.reg (K2.out _ (Below.goq HKx1.out _ _ HKx1.out.size))) | quiet_step (first | with_reducible exact Calls.reg (st27_any _ _ _ _) | exact Calls.reg (K2.out _ (Below.goq HKx1.out _ _ HKx1.out.size))))
    refine wpQuiet_nil ?_
    intro x2 hbx2 hcx2 hfx2
    clear hcg
    have HBx2 : Hid (Below w.heap.size w x2) := Below.go HBx1.out hbx2 HBx1.out.size
    have HKx2 : Hid (Below wk.heap.size wk x2) := Below.go HKx1.out hbx2 HKx1.out.size
    have B2x2 := Lib.hid (B2x1.out.next hbx2)
    have B3x2 := Lib.hid (B3x1.out.next hbx2)
    clear hbx2 hcx2 hfx2 K2 a0 a1 a2 a3 a4 a5 a6 a7 a8 a9 a10 a11 a12
    obtain ⟨a0, a1, a2, a3, a4, a5, a6, a7, a8, a9, a10, a11, a12⟩ := B2x2.out
    dsimp only [sR] at a2 a3 a4 a5 a6 a7 a8 a9 a10 a11 a12
    go_wp2
    refine wp_qall (by kernel_rfl) (by kernel_rfl) ?_
    intro hcg
    repeat (first | go_big_quiet_step (first | with_reducible exact Calls.reg (st27_any _ _ _ _) | exact Calls.reg (K3.out _ (Below.goq HKx2.out _ _ HKx2.out.size))) | quiet_step (first | with_reducible exact Calls.reg (st27_any _ _ _ _) | exact Calls.reg (K3.out _ (Below.goq HKx2.out _ _ HKx2.out.size))))
    refine wpQuiet_nil ?_
    intro x3 hbx3 hcx3 hfx3
    clear hcg
    have HBx3 : Hid (Below w.heap.size w x3) := Below.go HBx2.out hbx3 HBx2.out.size
    have HKx3 : Hid (Below wk.heap.size wk x3) := Below.go HKx2.out hbx3 HKx2.out.size
    have B3x3 := Lib.hid (B3x2.out.next hbx3)
    clear hbx3 hcx3 hfx3 K3 a0 a1 a2 a3 a4 a5 a6 a7 a8 a9 a10 a11 a12
    obtain ⟨a0, a1, a2, a3, a4, a5, a6, a7, a8, a9, a10, a11, a12⟩ := B3x3.out
    dsimp only [aR] at a2 a3 a4 a5 a6 a7 a8 a9 a10 a11 a12
    go_wp2
    refine wp_qall (by kernel_rfl) (by kernel_rfl) ?_
    intro hcg
    repeat (first | go_big_quiet_step (first | with_reducible exact Calls.reg (st27_any _ _ _ _) | exact Calls.reg (H4.out _)) | quiet_step (first | with_reducible exact Calls.reg (st27_any _ _ _ _) | exact Calls.reg (H4.out _)))
    refine wpQuiet_nil ?_
    intro x4 hbx4 hcx4 hfx4
    clear hcg
    have HBx4 : Hid (Below w.heap.size w x4) := Below.go HBx3.out hbx4 HBx3.out.size
    clear hbx4 hcx4 hfx4 H4 a0 a1 a2 a3 a4 a5 a6 a7 a8 a9 a10 a11 a12
    go_wp2_with fail
    refine (st27_any 9 0 0 _).mono ?_
    rintro e y1 ⟨rfl, hb⟩
    obtain ⟨hcy1, hfy1⟩ := bcell hb
    have HBy1 : Hid (Below w.heap.size w y1) := Below.go (by have hpre := HBx4.out; have hps := hpre.size; go_grown) hb (by have hpre := HBx4.out; have hps := hpre.size; go_size)
    have HEy1 := Lib.hid hb
    clear hb
    go_wp2_with fail
    refine (st27_any 5 0 8 _).mono ?_
    rintro e y2 ⟨rfl, hb⟩
    obtain ⟨hcy2, hfy2⟩ := bcell hb
    have HBy2 : Hid (Below w.heap.size w y2) := Below.go (by have hpre := HBy1.out; have hps := hpre.size; go_grown) hb (by have hpre := HBy1.out; have hps := hpre.size; go_size)
    have HEy2 := Lib.hid hb
    clear hb
    go_wp2_with fail
    refine (H5.out _).mono ?_
    rintro e y3 ⟨rfl, hb⟩
    obtain ⟨hcy3, hfy3⟩ := bcell hb
    have HBy3 : Hid (Below w.heap.size w y3) := Below.go (by have hpre := HBy2.out; have hps := hpre.size; go_grown) hb (by have hpre := HBy2.out; have hps := hpre.size; go_size)
    have HEy3 := Lib.hid hb
    clear hb
    go_wp2
    go_ret
    exact ⟨rfl, HBy3.out⟩
  · skip
    go_wp2
    refine wp_qall (by kernel_rfl) (by kernel_rfl) ?_
    intro hcg
    repeat (first | go_big_quiet_step (first | with_reducible exact Calls.reg (st27_any _ _ _ _) | exact Calls.reg (K1.out _ (Below.goq (by go_grown) _ _ (by simp; omega)))) | quiet_step (first | with_reducible exact Calls.reg (st27_any _ _ _ _) | exact Calls.reg (K1.out _ (Below.goq (by go_grown) _ _ (by simp; omega)))))
    refine wpQuiet_nil ?_
    intro x1 hbx1 hcx1 hfx1
    clear hcg
    have HBx1 : Hid (Below w.heap.size w x1) := Below.go (by have h := HBk.out; have hs := h.size; go_grown) hbx1 (by have h := HBk.out.size; go_size)
    have HKx1 : Hid (Below wk.heap.size wk x1) := Below.go (by go_grown) hbx1 (by go_size)
    have B1x1 : Hid (BxR x1 wk.heap.size (sR (some ⟨kb, 0, none⟩) 2)) := BxR.next (by constructor <;> first | (intro o; go_simp) | go_simp) hbx1
    have B2x1 : Hid (BxR x1 (wk.heap.size + 1 + 1) (sR (some ⟨kb, 0, none⟩) 3)) := BxR.next (by constructor <;> first | (intro o; go_simp) | go_simp) hbx1
    have B3x1 : Hid (BxR x1 (wk.heap.size + 1) aR) := BxR.next (by constructor <;> first | (intro o; go_simp) | go_simp) hbx1
    clear hbx1 hcx1 hfx1 K1
    obtain ⟨a0, a1, a2, a3, a4, a5, a6, a7, a8, a9, a10, a11, a12⟩ := B1x1.out
    dsimp only [sR] at a2 a3 a4 a5 a6 a7 a8 a9 a10 a11 a12
    go_wp2
    refine wp_qall (by kernel_rfl) (by kernel_rfl) ?_
    intro hcg
    repeat (first | go_big_quiet_step (first | with_reducible exact Calls.reg (st27_any _ _ _ _) | exact Calls.reg (K2.out _ (Below.goq HKx1.out _ _ HKx1.out.size))) | quiet_step (first | with_reducible exact Calls.reg (st27_any _ _ _ _) | exact Calls.reg (K2.out _ (Below.goq HKx1.out _ _ HKx1.out.size))))
    refine wpQuiet_nil ?_
    intro x2 hbx2 hcx2 hfx2
    clear hcg
    have HBx2 : Hid (Below w.heap.size w x2) := Below.go HBx1.out hbx2 HBx1.out.size
    have HKx2 : Hid (Below wk.heap.size wk x2) := Below.go HKx1.out hbx2 HKx1.out.size
    have B2x2 := Lib.hid (B2x1.out.next hbx2)
    have B3x2 := Lib.hid (B3x1.out.next hbx2)
    clear hbx2 hcx2 hfx2 K2 a0 a1 a2 a3 a4 a5 a6 a7 a8 a9 a10 a11 a12
    obtain ⟨a0, a1, a2, a3, a4, a5, a6, a7, a8, a9, a10, a11, a12⟩ := B2x2.out
    dsimp only [sR] at a2 a3 a4 a5 a6 a7 a8 a9 a10 a11 a12
    go_wp2
    refine wp_qall (by kernel_rfl) (by kernel_rfl) ?_
    intro hcg
    repeat (first | go_big_quiet_step (first | with_reducible exact Calls.reg (st27_any _ _ _ _) | exact Calls.reg (K3.out _ (Below.goq HKx2.out _ _ HKx2.out.size))) | quiet_step (first | with_reducible exact Calls.reg (st27_any _ _ _ _) | exact Calls.reg (K3.out _ (Below.goq HKx2.out _ _ HKx2.out.size))))
    refine wpQuiet_nil ?_
    intro x3 hbx3 hcx3 hfx3
    clear hcg
    have HBx3 : Hid (Below w.heap.size w x3) := Below.go HBx2.out hbx3 HBx2.out.size
    have HKx3 : Hid (Below wk.heap.size wk x3) := Below.go HKx2.out hbx3 HKx2.out.size
    have B3x3 := Lib.hid (B3x2.out.next hbx3)
    clear hbx3 hcx3 hfx3 K3 a0 a1 a2 a3 a4 a5 a6 a7 a8 a9 a10 a11 a12
    obtain ⟨a0, a1, a2, a3, a4, a5, a6, a7, a8, a9, a10, a11, a12⟩ := B3x3.out
    dsimp only [aR] at a2 a3 a4 a5 a6 a7 a8 a9 a10 a11 a12
    go_wp2
    refine wp_qall (by kernel_rfl) (by kernel_rfl) ?_
    intro hcg
    repeat (first | go_big_quiet_step (first | with_reducible exact Calls.reg (st27_any _ _ _ _) | exact Calls.reg (H4.out _)) | quiet_step (first | with_reducible exact Calls.reg (st27_any _ _ _ _) | exact Calls.reg (H4.out _)))
    refine wpQuiet_nil ?_
    intro x4 hbx4 hcx4 hfx4
    clear hcg
    have HBx4 : Hid (Below w.heap.size w x4) := Below.go HBx3.out hbx4 HBx3.out.size
    clear hbx4 hcx4 hfx4 H4 a0 a1 a2 a3 a4 a5 a6 a7 a8 a9 a10 a11 a12
    go_wp2_with fail
    refine (st27_any 9 0 0 _).mono ?_
    rintro e y1 ⟨rfl, hb⟩
    obtain ⟨hcy1, hfy1⟩ := bcell hb
    have HBy1 : Hid (Below w.heap.size w y1) := Below.go (by have hpre := HBx4.out; have hps := hpre.size; go_grown) hb (by have hpre := HBx4.out; have hps := hpre.size; go_size)
    have HEy1 := Lib.hid hb
    clear hb
    go_wp2_with fail
    refine (st27_any 5 0 8 _).mono ?_
    rintro e y2 ⟨rfl, hb⟩
    obtain ⟨hcy2, hfy2⟩ := bcell hb
    have HBy2 : Hid (Below w.heap.size w y2) := Below.go (by have hpre := HBy1.out; have hps := hpre.size; go_grown) hb (by have hpre := HBy1.out; have hps := hpre.size; go_size)
    have HEy2 := Lib.hid hb
    clear hb
    go_wp2_with fail
    refine (H5.out _).mono ?_
    rintro e y3 ⟨rfl, hb⟩
    obtain ⟨hcy3, hfy3⟩ := bcell hb
    have HBy3 : Hid (Below w.heap.size w y3) := Below.go (by have hpre := HBy2.out; have hps := hpre.size; go_grown) hb (by have hpre := HBy2.out; have hps := hpre.size; go_size)
    have HEy3 := Lib.hid hb
    clear hb
    go_wp2
    go_ret
    exact ⟨rfl, HBy3.out⟩
theorem pushNames_law (w : World) : Calls Try.prog 9 #[] w fun e w' => e = .returned (.bool true) ∧ Below w.heap.size w w' := pushNames_walk w
end Go.Proofs.Ythijpcbblmcfiaa
