/- The walk of the law: a filter never says no to a key that it has. -/
import Derived.Test.YtlpdihcgdgkkbaaBe
namespace Go.Proofs.Ytlpdihcgdgkkbaa
open Go.RowKit Go.St
set_option linter.unusedVariables false
set_option linter.unusedSimpArgs false

theorem bof_chk (n b : Nat) (hn : n ≤ 1048576) (h1 : 1 ≤ b) (h2 : b ≤ 16) (keys : List (List UInt8)) : bchk (bof (brounds b) (bsize n b) keys) = 0 := by
  have hs := bsize_bd n b hn h2
  have hk := brounds_bd b h1 h2
  unfold bchk
  rw [bof_length, bof_head]
  rw [if_pos]
  rw [UInt8.toNat_ofNat']
  omega

set_option maxHeartbeats 1600000 in
set_option maxRecDepth 100000 in
theorem bloomFound_walk (w : World) (A : Option Addr) (n c : Nat) (keys : List ByteArray) (hl : keys.length = n) (hc : n ≤ c) (hn : c ≤ 140737488351232) (hks : ∀ s ∈ keys, s.size ≤ 140737488351232) (hr : Rd w w.heap.size A (sv keys))
    (bits : Int) (hb : -9223372036854775808 ≤ bits ∧ bits ≤ 9223372036854775807) :
    Calls Try.prog 4 #[.slice A n c, .int .i64 bits] w fun e w' => e = .returned (.bool true) ∧ Below w.heap.size w w' := by
  have HL := Lib.hid hl; have HR := Lib.hid hr; have HKS := Lib.hid hks
  clear hl hr hks
  go_enter Try.func4, Try.ntmps4
  go_wp2_with fail
  refine (lives08_any _).mono ?_
  rintro e w1 ⟨rfl, hb1⟩
  have HB1 := Lib.hid hb1
  have R1 := Lib.hid (HR.out.below hb1)
  clear hb1
  have hsm := small08_any A n c _ keys HL.out (by omega) (fun s h => by have := HKS.out s h; omega) w1 R1.out
  by_cases h2 : smallB keys = true
  · have hn2 : n ≤ 200 := by
      unfold smallB at h2
      rw [Bool.and_eq_true] at h2
      rw [← HL.out]
      exact of_decide_eq_true h2.2
    rw [h2] at hsm
    have HSM := Lib.hid hsm; clear hsm h2
    go_wp2_with fail
    refine HSM.out.mono ?_
    rintro e w' ⟨rfl, rfl⟩
    by_cases hbits : bits < 1 ∨ 16 < bits
    · have hof := of_arg A n c (by omega) bits hbits w1
      have HOF := Lib.hid hof; clear hof
      go_wp2_with fail
      refine HOF.out.mono ?_
      rintro e w' ⟨rfl, rfl⟩
      rcases hbits with h3 | h3
      · go_wp2
        go_ret
        exact ⟨rfl, HB1.out⟩
      · have h4 : decide (bits < 1) = false := decide_eq_false (by omega)
        go_wp2
        go_ret
        exact ⟨rfl, HB1.out⟩
    · obtain ⟨b, rfl⟩ := Int.eq_ofNat_of_zero_le (show 0 ≤ bits by omega)
      have b1 : 1 ≤ b := by omega
      have b2 : b ≤ 16 := by omega
      clear hbits
      have hof := of_any A n c _ keys HL.out (by omega) (fun s h => by have := HKS.out s h; omega) b b1 b2 w1 R1.out HB1.out.size
      have HOF := Lib.hid hof; clear hof
      go_wp2_with fail
      refine HOF.out.mono ?_
      rintro e w2 ⟨v, rfl, own2, hb2⟩
      obtain ⟨A2, c2, rfl, rd2⟩ := own_rd own2
      have hs := bsize_bd n b (by omega) b2
      have hck := bof_chk n b (by omega) b1 b2 (bl keys)
      have hall := bof_all (brounds b) (bsize n b) hs.1 (bl keys)
      have hlen := bof_length (brounds b) (bsize n b) (bl keys)
      have HS := Lib.hid hs
      obtain ⟨hs1, hs2⟩ := hs
      generalize bsize n b = sz at *
      generalize bof (brounds b) sz (bl keys) = f at *
      have HALL := Lib.hid hall; have HCK := Lib.hid hck; have HLEN := Lib.hid hlen; have RD2 := Lib.hid rd2
      have HB2 : Hid (Below w.heap.size w w2) := Below.go HB1.out hb2 HB1.out.size
      have R2 := Lib.hid (HR.out.below HB2.out)
      have hcc := bcheck_any A2 (sz + 1) c2 _ f HLEN.out w2 RD2.out
      rw [HCK.out] at hcc
      have HCC := Lib.hid hcc
      clear hall hck hlen rd2 own2 hb2 hcc HOF
      go_wp2_with fail
      refine HCC.out.mono ?_
      rintro e w' ⟨rfl, rfl⟩
      go_wp2_with fail
      go_loop [7] (fun i => ∃ j : Nat, j ≤ n ∧ i = .int .i64 j) (fun i => n - (intOf i).toNat)
      case atStart => exact ⟨0, Nat.zero_le _, rfl⟩
      case round =>
        obtain ⟨j, hj, rfl⟩ := hrel
        by_cases hlt : j < n
        · have hjl : j < keys.length := by rw [HL.out]; exact hlt
          obtain ⟨b', off, rfl, hb', hcell⟩ := R2.out.at_ (show (sv keys)[j]? = some (.string keys[j]) by simp [sv, hjl])
          have hsz := HKS.out keys[j] (List.getElem_mem hjl)
          have hball := HALL.out keys[j].data.toList (by unfold bl; exact List.mem_map.2 ⟨_, List.getElem_mem hjl, rfl⟩)
          generalize keys[j] = s at *
          have hh := has_any A2 (sz + 1) c2 _ f HLEN.out (by omega) s (by omega) w2 RD2.out
          have hB : hasB f s.data.toList = true := by unfold hasB; rw [hball, HCK.out]; rfl
          rw [hB, HCK.out] at hh
          have HH := Lib.hid hh; clear hh hB hball
          go_wp2_with fail
          refine HH.out.mono ?_
          rintro e w' ⟨rfl, rfl⟩
          go_wp2
          exact ⟨⟨j + 1, by omega, by go_num⟩, by simp [intOf]; omega⟩
        · go_wp2
          go_ret
          exact ⟨rfl, HB2.out⟩
  · have h3 : smallB keys = false := by simpa using h2
    rw [h3] at hsm
    have HSM := Lib.hid hsm; clear hsm h2 h3
    go_wp2_with fail
    refine HSM.out.mono ?_
    rintro e w' ⟨rfl, rfl⟩
    go_wp2
    go_ret
    exact ⟨rfl, HB1.out⟩
end Go.Proofs.Ytlpdihcgdgkkbaa
