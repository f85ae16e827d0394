/- The walk of the law CrcXor: it returns true. -/
import Derived.Test.YtmfkngijgellhaaC
import Derived.Test.YtmfkngijgellhaaBb
namespace Go.Proofs.Ytmfkngijgellhaa
open Go.RowKit Go.St
set_option linter.unusedVariables false

set_option maxHeartbeats 1000000 in
theorem crcXor_walk (w : World) (A0 : Option Addr) (n0 c0 : Nat) (b0 : List UInt8) (bl0 : b0.length = n0) (lc0 : n0 ≤ c0) (bn0 : c0 ≤ 140737488351232) (rd0 : Rd w w.heap.size A0 (bv b0))
    (A1 : Option Addr) (n1 c1 : Nat) (b1 : List UInt8) (bl1 : b1.length = n1) (lc1 : n1 ≤ c1) (bn1 : c1 ≤ 140737488351232) (rd1 : Rd w w.heap.size A1 (bv b1))
    (A2 : Option Addr) (n2 c2 : Nat) (b2 : List UInt8) (bl2 : b2.length = n2) (lc2 : n2 ≤ c2) (bn2 : c2 ≤ 140737488351232) (rd2 : Rd w w.heap.size A2 (bv b2)) :
    Calls Try.prog 4 #[.slice A0 n0 c0, .slice A1 n1 c1, .slice A2 n2 c2] w fun e w' => e = .returned (.bool true) ∧ Below w.heap.size w w' := by
  obtain ⟨n, hn⟩ : ∃ n, n = min n0 (min n1 n2) := ⟨_, rfl⟩
  have h0 : n ≤ n0 := by omega
  have h1 : n ≤ n1 := by omega
  have h2 : n ≤ n2 := by omega
  have H0 := Lib.hid bl0; clear bl0
  have H1 := Lib.hid bl1; clear bl1
  have H2 := Lib.hid bl2; clear bl2
  have R0 := Lib.hid rd0; clear rd0
  have R1 := Lib.hid rd1; clear rd1
  have R2 := Lib.hid rd2; clear rd2
  have hmin : ∀ w : World, (Builtin.min_ #[3, 3, 3] 3 #[.int .i64 (n0 : Int), .int .i64 (n1 : Int), .int .i64 (n2 : Int)]).run Try.prog w = .ok (.int .i64 (n : Int)) w := fun w => by
    rw [run_min_int3]
    congr 2
    split <;> split <;> omega
  have HN := Lib.hid hn; clear hn
  obtain ⟨w1, hmk, own1, gr1⟩ := run_mk sty22 w w.heap.size n (by omega) (by unfold maxLen; omega) (Nat.le_refl _)
  rw [made_bytes] at own1
  have hb1 : Below w.heap.size w w1 := (Below.refl _ _).grown gr1 (Nat.le_refl _) (by simp)
  clear gr1
  -- the three lists, cut to the shortest, and their sum
  obtain ⟨x0, hx0⟩ : ∃ x, x = b0.take n := ⟨_, rfl⟩
  obtain ⟨x1, hx1⟩ : ∃ x, x = b1.take n := ⟨_, rfl⟩
  obtain ⟨x2, hx2⟩ : ∃ x, x = b2.take n := ⟨_, rfl⟩
  have l0 : x0.length = n := by rw [hx0, List.length_take, H0.out]; omega
  have l1 : x1.length = n := by rw [hx1, List.length_take, H1.out]; omega
  have l2 : x2.length = n := by rw [hx2, List.length_take, H2.out]; omega
  have r0 : Rd w w.heap.size A0 (bv x0) := by have := R0.out.take n; rwa [bv, ← List.map_take, ← hx0] at this
  have r1 : Rd w w.heap.size A1 (bv x1) := by have := R1.out.take n; rwa [bv, ← List.map_take, ← hx1] at this
  have r2 : Rd w w.heap.size A2 (bv x2) := by have := R2.out.take n; rwa [bv, ← List.map_take, ← hx2] at this
  clear R0 R1 R2 H0 H1 H2 hx0 hx1 hx2
  obtain ⟨x, hx⟩ : ∃ x, x = CrcM.lxor (CrcM.lxor x0 x1) x2 := ⟨_, rfl⟩
  have lx : x.length = n := by rw [hx]; simp [CrcM.lxor, l0, l1, l2]
  have L0 := Lib.hid l0; clear l0
  have L1 := Lib.hid l1; clear l1
  have L2 := Lib.hid l2; clear l2
  have LX := Lib.hid lx; clear lx
  have R0 := Lib.hid r0; clear r0
  have R1 := Lib.hid r1; clear r1
  have R2 := Lib.hid r2; clear r2
  have hget : ∀ k (h : k < n), x[k]'(by rw [LX.out]; exact h) = (x0[k]'(by rw [L0.out]; exact h) ^^^ x1[k]'(by rw [L1.out]; exact h)) ^^^ x2[k]'(by rw [L2.out]; exact h) := fun k h => by
    subst hx
    simp [CrcM.lxor]
  have HX := Lib.hid hx; clear hx
  have HG := Lib.hid hget; clear hget
  have O1 : Hid (w1.ownsRow w.heap.size 5 1 (.slice (some ⟨w.heap.size, 0, none⟩) n n) n (bv (fill x 0 0))) := by rw [fill_zero, LX.out]; exact own1
  clear own1
  go_enter Try.func4, Try.ntmps4
  go_wp2
  clear hmk hmin
  go_loopw [9] (fun i wr => ∃ k : Nat, k ≤ n ∧ i = .int .i64 k ∧ wr.ownsRow w.heap.size 5 1 (.slice (some ⟨w.heap.size, 0, none⟩) n n) n (bv (fill x 0 k)) ∧ Below w.heap.size w wr) (fun i _ => n - (intOf i).toNat)
  case atStart => exact ⟨0, Nat.zero_le _, rfl, O1.out, hb1⟩
  case round =>
    obtain ⟨k, hk, rfl, hown, hbw⟩ := hrel
    clear O1 hb1
    have OW := Lib.hid hown; clear hown
    by_cases hlt : k < n
    · obtain ⟨p0, o0, rfl, hp0, hc0⟩ := (R0.out.below hbw).at_ (bv_get x0 k (by rw [L0.out]; exact hlt))
      obtain ⟨p1, o1, rfl, hp1, hc1⟩ := (R1.out.below hbw).at_ (bv_get x1 k (by rw [L1.out]; exact hlt))
      obtain ⟨p2, o2, rfl, hp2, hc2⟩ := (R2.out.below hbw).at_ (bv_get x2 k (by rw [L2.out]; exact hlt))
      have hcx := OW.out.cellAt k (by omega)
      rw [bv_get _ k (by rw [fill_length _ _ _ (by rw [LX.out]; exact hk), LX.out]; exact hlt)] at hcx
      have hfx := OW.out.frozenAt k
      have e3 := HG.out k hlt
      have E3 := Lib.hid e3; clear e3
      have e1 : bits .xor .u8 (((x0[k]'(by rw [L0.out]; exact hlt)).toNat : Nat) : Int) (((x1[k]'(by rw [L1.out]; exact hlt)).toNat : Nat) : Int) = (((x0[k]'(by rw [L0.out]; exact hlt)).toNat ^^^ (x1[k]'(by rw [L1.out]; exact hlt)).toNat : Nat) : Int) := by
        rw [bt_xor, UInt8.toNat_xor]
      have e2 : bits .xor .u8 (((x0[k]'(by rw [L0.out]; exact hlt)).toNat ^^^ (x1[k]'(by rw [L1.out]; exact hlt)).toNat : Nat) : Int) (((x2[k]'(by rw [L2.out]; exact hlt)).toNat : Nat) : Int) = (((x[k]'(by rw [LX.out]; exact hlt)).toNat : Nat) : Int) := by
        rw [← UInt8.toNat_xor, bt_xor, E3.out]
      unfold bt at hc0 hc1 hc2 hcx
      have i0 : (0 : Int) ≤ (k : Int) := by omega
      have i1 : (k : Int) < (n0 : Int) := by omega
      have i2 : (k : Int) < (n1 : Int) := by omega
      have i3 : (k : Int) < (n2 : Int) := by omega
      have i4 : (k : Int) < (n : Int) := by omega
      go_wp2
      go_region_held3 (fun wr => wr.cell? ⟨p0, o0 + k, none⟩ = some (.int .u8 ((x0[k]'(by rw [L0.out]; exact hlt)).toNat : Int)) ∧ wr.cell? ⟨p1, o1 + k, none⟩ = some (.int .u8 ((x1[k]'(by rw [L1.out]; exact hlt)).toNat : Int)) ∧ wr.cell? ⟨p2, o2 + k, none⟩ = some (.int .u8 ((x2[k]'(by rw [L2.out]; exact hlt)).toNat : Int))) (first | exact ⟨hc0, hc1, hc2⟩ | exact ⟨(Below.cell (w := wr) (B := w.heap.size) (by go_grown) hp0).trans hc0, (Below.cell (w := wr) (B := w.heap.size) (by go_grown) hp1).trans hc1, (Below.cell (w := wr) (B := w.heap.size) (by go_grown) hp2).trans hc2⟩) (fail)
      clear hc0 hc1 hc2 hcx e1 e2 hfx i1 i2 i3
      go_wp2
      have own2 := (OW.out.stored k (bt (x[k]'(by rw [LX.out]; exact hlt)))).1
      rw [bv_set, fill_set x 0 k (by rw [LX.out]; exact hlt)] at own2
      exact ⟨⟨k + 1, by omega, by go_num, own2, (hbw.setCell (p := ⟨w.heap.size, k, none⟩) (Nat.le_refl _) _).drew⟩, by simp [intOf]; omega⟩
    · obtain rfl : k = n := by omega
      have own2 : wr.ownsRow w.heap.size 5 1 (.slice (some ⟨w.heap.size, 0, none⟩) k k) k (bv x) := by
        have := OW.out
        have e := fill_all x (0 : UInt8)
        rw [LX.out] at e
        rwa [e] at this
      have rx := Rd.own own2
      clear OW own2
      have SX := Lib.hid rx; clear rx
      have S0 := Lib.hid (R0.out.below hbw)
      have S1 := Lib.hid (R1.out.below hbw)
      have S2 := Lib.hid (R2.out.below hbw)
      clear R0 R1 R2
      have cl : ∀ d os, Calls Try.prog 15 #[] (Go.Sort.grow (redrawn wr d) os) fun e w'' => e = .returned (.bool true) ∧ ∃ p : Regrown, w'' = Go.Sort.grow (redrawn wr p.d) p.os := fun d os => Calls.regrown_of (lives_any _)
      have hall : ∀ (A : Option Addr) (c B : Nat) (y : List UInt8), y.length = k → Rd wr B A (bv y) → B ≤ wr.heap.size → ∀ d os, Calls Try.prog 17 #[.slice A k c] (Go.Sort.grow (redrawn wr d) os) fun e w'' => e = .returned (.int .u32 (CrcM.cmore 0 y : Nat)) ∧ ∃ p : Regrown, w'' = Go.Sort.grow (redrawn wr p.d) p.os := fun A c B y hl hr hB d os =>
        Calls.regrown_of ((sum_any A k c B y hl (by omega) _ (hr.below ((below_regrown wr d os).mono hB))).mono fun e w' ⟨he, hw⟩ => ⟨he, by subst hw; exact Below.refl _ _⟩)
      have cx := Lib.hid (hall (some ⟨w.heap.size, 0, none⟩) k _ x LX.out SX.out (Nat.le_refl _))
      have c0' := Lib.hid (hall A0 c0 _ x0 L0.out S0.out hbw.size)
      have c1' := Lib.hid (hall A1 c1 _ x1 L1.out S1.out hbw.size)
      have c2' := Lib.hid (hall A2 c2 _ x2 L2.out S2.out hbw.size)
      clear hall S0 S1 S2 SX
      have i0 : (0 : Int) ≤ (k : Int) := by omega
      have i1 : (k : Int) ≤ (c0 : Int) := by omega
      have i2 : (k : Int) ≤ (c1 : Int) := by omega
      have i3 : (k : Int) ≤ (c2 : Int) := by omega
      have hm := CrcM.cmore_xor3 x0 x1 x2 (by rw [L0.out, L1.out]) (by rw [L1.out, L2.out])
      have e1 := u32_xor_nat (CrcM.cmore 0 x0) (CrcM.cmore 0 x1) (CrcM.cmore_lt _ _) (CrcM.cmore_lt _ _)
      have e2 := u32_xor_nat (CrcM.cmore 0 x0 ^^^ CrcM.cmore 0 x1) (CrcM.cmore 0 x2) (Nat.xor_lt_two_pow (n := 32) (CrcM.cmore_lt _ _) (CrcM.cmore_lt _ _)) (CrcM.cmore_lt _ _)
      rw [← hm, ← HX.out] at e2
      have hbeq : (((CrcM.cmore 0 x : Nat) : Int) == ((CrcM.cmore 0 x : Nat) : Int)) = true := by simp
      clear hm
      go_wp2
      refine wp_region_quiet_below (by kernel_rfl) (by kernel_rfl) ?_
      repeat (quiet_step (with_reducible (first | exact cl _ _ | exact cx.out _ _ | exact c0'.out _ _ | exact c1'.out _ _ | exact c2'.out _ _)))
      refine wpQuiet_nil ?_
      intro _ hw'
      obtain ⟨⟨dq, osq⟩, hw''⟩ := hw'
      subst hw''
      go_wp2
      go_ret
      exact ⟨rfl, hbw.trans ((below_regrown wr dq osq).mono hbw.size)⟩
end Go.Proofs.Ytmfkngijgellhaa
