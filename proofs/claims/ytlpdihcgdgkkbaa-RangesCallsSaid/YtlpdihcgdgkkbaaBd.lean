/- Walks: a filter is made. -/
import Derived.Test.YtlpdihcgdgkkbaaBc
import Derived.Test.YtlpdihcgdgkkbaaBb
namespace Go.Proofs.Ytlpdihcgdgkkbaa
open Go.RowKit Go.St
set_option linter.unusedVariables false
set_option linter.unusedSimpArgs false

set_option maxRecDepth 100000 in
theorem sty8 : STy Try.prog 22 5 1 1 (.int .u8 0) := ⟨Try.underlying22, ⟨_, rfl, by kernel_rfl, by kernel_rfl, by kernel_rfl⟩, rfl, by decide⟩

def bsize (n b : Nat) : Nat := max 1 ((n * b + 7) / 8)
def brounds (b : Nat) : Nat := (b * 69 + 99) / 100
theorem bsize_bd (n b : Nat) (hn : n ≤ 1048576) (hb : b ≤ 16) : 1 ≤ bsize n b ∧ bsize n b ≤ 2097153 := by
  have h : n * b ≤ 1048576 * 16 := Nat.mul_le_mul hn hb
  unfold bsize
  omega
theorem brounds_bd (b : Nat) (h1 : 1 ≤ b) (hb : b ≤ 16) : 1 ≤ brounds b ∧ brounds b ≤ 12 := by unfold brounds; omega

/-- Texts as cells. -/
def sv (l : List ByteArray) : List Value := l.map Value.string
def bl (l : List ByteArray) : List (List UInt8) := l.map fun s => s.data.toList

theorem bset_set (f : List UInt8) (p : Nat) (h : 1 + p / 8 < f.length) : bset f p = f.set (1 + p / 8) (f.getD (1 + p / 8) 0 ||| UInt8.ofNat (2 ^ (p % 8))) := by
  unfold bset
  apply List.ext_getElem?
  intro j
  rw [List.getElem?_modify, List.getElem?_set]
  by_cases e : 1 + p / 8 = j
  · subst e
    simp [h, List.getD]
  · simp [e]

theorem made_filter (k size : Nat) (hs : 0 < size + 1) : ((bv (List.replicate (size + 1) 0)).set 0 (.int .u8 ((k % 256 : Nat) : Int))) = bv (bnew k size) := by
  unfold bnew
  rw [List.replicate_succ]
  simp [bv, bt]

def noF : Ending := .returned (.tuple #[.slice none 0 0, .int .i64 2])
theorem of_arg (A : Option Addr) (n c : Nat) (hn : n ≤ 1048576) (b : Int) (hb : b < 1 ∨ 16 < b) (w : World) :
    Calls Try.prog 15 #[.slice A n c, .int .i64 b] w fun e w' => e = .returned (.tuple #[.slice none 0 0, .int .i64 2]) ∧ w = w' := by
  rcases hb with hb | hb
  · go_enter Try.func15, Try.ntmps15
    go_wp2
    go_ret2
    exact ⟨rfl, rfl⟩
  · have h2 : decide (b < 1) = false := decide_eq_false (by omega)
    go_enter Try.func15, Try.ntmps15
    go_wp2
    go_ret2
    exact ⟨rfl, rfl⟩

theorem or_val (x : UInt8) (j : Nat) (hj : j < 8) : bits .or .u8 ((x.toNat : Nat) : Int) (2 ^ j % 256) = (((x ||| UInt8.ofNat (2 ^ j)).toNat : Nat) : Int) := by
  have e : (2 : Int) ^ j % 256 = ((2 ^ j % 256 : Nat) : Int) := by simp
  rw [e, u8_or_nat _ _ x.toNat_lt (Nat.mod_lt _ (by omega)), UInt8.toNat_or, UInt8.toNat_ofNat']

set_option maxHeartbeats 1600000 in
set_option maxRecDepth 100000 in
theorem of_any (A : Option Addr) (n c B : Nat) (keys : List ByteArray) (hl : keys.length = n) (hn : n ≤ 1048576) (hks : ∀ s ∈ keys, s.size ≤ 9223372036854775807) (b : Nat) (hb1 : 1 ≤ b) (hb2 : b ≤ 16) (w : World) (hr : Rd w B A (sv keys)) (hB : B ≤ w.heap.size) :
    Calls Try.prog 15 #[.slice A n c, .int .i64 (b : Int)] w fun e w' => ∃ v, e = .returned (.tuple #[v, .int .i64 0]) ∧
      w'.ownsRow w.heap.size 5 1 v (bsize n b + 1) (bv (bof (brounds b) (bsize n b) (bl keys))) ∧ Below w.heap.size w w' := by
  have hs := bsize_bd n b hn hb2
  have hk := brounds_bd b hb1 hb2
  obtain ⟨x, hx⟩ : ∃ x, x = n * b := ⟨_, rfl⟩
  obtain ⟨sz, hsz⟩ : ∃ x, x = bsize n b := ⟨_, rfl⟩
  obtain ⟨k, hkk⟩ : ∃ x, x = brounds b := ⟨_, rfl⟩
  have e1 : (n : Int) * (b : Int) = (x : Int) := by rw [hx]; exact (Int.natCast_mul _ _).symm
  have hnb : x ≤ 1048576 * 16 := by rw [hx]; exact Nat.mul_le_mul hn hb2
  have ek : ((b : Int) * 69 + 99) / 100 = (k : Int) := by rw [hkk]; unfold brounds; omega
  have hsx : sz = max 1 ((x + 7) / 8) := by rw [hsz, hx]; rfl
  have hmax : ∀ w : World, (Builtin.max_ #[3, 3] 3 #[.int .i64 1, .int .i64 (((x : Int) + 7) / 8)]).run Try.prog w = .ok (.int .i64 (sz : Int)) w := fun w => by
    rw [run_max_int2]
    congr 2
    split <;> omega
  rw [← hsz] at hs ⊢
  rw [← hkk] at hk ⊢
  have HSZ := Lib.hid hsz; have HKK := Lib.hid hkk; have HSX := Lib.hid hsx
  have HX := Lib.hid hx; have HL := Lib.hid hl; have HR := Lib.hid hr; have HKS := Lib.hid hks
  clear hsz hkk hsx hx hl hr hks
  obtain ⟨hs1, hs2⟩ := hs
  obtain ⟨hk1, hk2⟩ := hk
  obtain ⟨w1, hmk, own1, gr1⟩ := run_mk sty8 w w.heap.size (sz + 1) (by omega) (by unfold maxLen; omega) (Nat.le_refl _)
  rw [made_bytes] at own1
  have ec : ((sz + 1 : Nat) : Int) = 1 + (sz : Int) := by omega
  rw [ec] at hmk
  have hbw1 : Below w.heap.size w w1 := (Below.refl _ _).grown gr1 (Nat.le_refl _) (by simp)
  have OW := Lib.hid own1
  have HB1 := Lib.hid hbw1
  have hc0 := own1.cellAt 0 (by omega)
  have hf0 := own1.frozenAt 0
  have hwr : (k : Int) % 256 = (k : Int) := by omega
  clear gr1 own1 hbw1 ec
  go_enter Try.func15, Try.ntmps15
  go_wp2_with fail
  have O2 : Hid ((w1.setCell ⟨w.heap.size, 0, none⟩ (.int .u8 (k : Int))).ownsRow w.heap.size 5 1 (.slice (some ⟨w.heap.size, 0, none⟩) (sz + 1) (sz + 1)) (sz + 1) (bv (bof k sz (bl (keys.take 0))))) := by
    have h := (OW.out.stored 0 (.int .u8 ((k % 256 : Nat) : Int))).1
    rw [made_filter k sz (by omega), Nat.mod_eq_of_lt (by omega : k < 256)] at h
    exact h
  have B2 : Hid (Below w.heap.size w (w1.setCell ⟨w.heap.size, 0, none⟩ (.int .u8 (k : Int)))) := HB1.out.setCell (Nat.le_refl _) _
  clear OW HB1 hc0 hf0 hmk hmax e1 ek hwr
  have hg : ∀ l : List (List UInt8), ((bof k sz l).getD 0 0).toNat = k := fun l => by rw [bof_head]; simp [UInt8.toNat_ofNat']; omega
  have HG := Lib.hid hg; clear hg
  go_loopw [43] (fun i wr => ∃ j : Nat, j ≤ n ∧ i = .int .i64 j ∧ Hid (wr.ownsRow w.heap.size 5 1 (.slice (some ⟨w.heap.size, 0, none⟩) (sz + 1) (sz + 1)) (sz + 1) (bv (bof k sz (bl (keys.take j))))) ∧ Hid (Below w.heap.size w wr)) (fun i _ => n - (intOf i).toNat)
  case atStart => exact ⟨0, Nat.zero_le _, rfl, O2, B2⟩
  case round =>
    obtain ⟨j, hj, rfl, O3, B3⟩ := hrel
    clear O2 B2
    by_cases hlt : j < n
    · have hjk : j < keys.length := by rw [HL.out]; exact hlt
      obtain ⟨b', off, rfl, hb', hcell⟩ := (HR.out.below (B3.out.mono hB)).at_ (show (sv keys)[j]? = some (.string keys[j]) by simp [sv, hjk])
      have hsk := HKS.out keys[j] (List.getElem_mem hjk)
      have htk : bof k sz (bl (keys.take (j + 1))) = bkey (bof k sz (bl (keys.take j))) keys[j].data.toList := by
        unfold bof bl
        rw [take_snoc keys j hjk, List.map_append, List.foldl_append]
        rfl
      have HTK := Lib.hid htk; clear htk
      generalize keys[j] = s at *
      have hF := bof_length k sz (bl (keys.take j))
      have hF0 := HG.out (bl (keys.take j))
      generalize bof k sz (bl (keys.take j)) = F at *
      have hash := hash_any s hsk
      have hhl := bhash_lt s.data.toList
      have hc0 := O3.out.cellAt 0 (by omega)
      rw [bv_getD F 0 (by omega), hF0] at hc0
      have HF := Lib.hid hF; have HF0 := Lib.hid hF0; have HA := Lib.hid hash; have HHL := Lib.hid hhl
      clear hF hF0 hash hhl
      obtain ⟨h, hh⟩ : ∃ h, h = bhash s.data.toList := ⟨_, rfl⟩
      have HH := Lib.hid hh
      go_wp2_with fail
      refine (HA.out _).mono ?_
      rintro e w' ⟨rfl, rfl⟩
      rw [← hh]
      clear hh
      go_wp2_with fail
      obtain ⟨wo, rfl⟩ : ∃ wo : World, wo = wr := ⟨_, rfl⟩
      clear hc0 hcell
      obtain ⟨m, hm⟩ : ∃ m, m = 8 * sz := ⟨_, rfl⟩
      have e8 : (8 : Int) * (sz : Int) = (m : Int) := by omega
      have hm0 : 0 < m := by omega
      have hm1 : m < 4294967296 := by omega
      have E8 := Lib.hid e8; have HM := Lib.hid hm
      clear e8 hm
      go_loopw [53] (fun i wr => ∃ q : Nat, q ≤ k ∧ i = .int .i64 q ∧ Hid (wr.ownsRow w.heap.size 5 1 (.slice (some ⟨w.heap.size, 0, none⟩) (sz + 1) (sz + 1)) (sz + 1) (bv ((bplaces h q m).foldl bset F))) ∧ Hid (Below w.heap.size w wr)) (fun i _ => k - (intOf i).toNat)
      case atStart => exact ⟨0, Nat.zero_le _, rfl, O3, B3⟩
      case round =>
        obtain ⟨q, hq, rfl, O4, B4⟩ := hrel
        by_cases hqk : q < k
        · have hp := bplace_lt h q m hm0
          have hbit := fun w => bit_any h q m (by rw [HH.out]; exact HHL.out) (by omega) hm0 hm1 w
          have HB := Lib.hid hbit; clear hbit
          have hsn : (bplaces h (q + 1) m).foldl bset F = bset ((bplaces h q m).foldl bset F) (bplace h q m) := by
            unfold bplaces
            rw [List.range_succ, List.map_append, List.foldl_append]
            rfl
          have hlG : ((bplaces h q m).foldl bset F).length = sz + 1 := by rw [bsets_length]; exact HF.out
          have HSN := Lib.hid hsn; have HLG := Lib.hid hlG; clear hsn hlG
          generalize (bplaces h q m).foldl bset F = G at *
          generalize bplace h q m = p at *
          have hpn : 1 + p / 8 < sz + 1 := by have := HM.out; omega
          have hcx := O4.out.cellAt (1 + p / 8) (by omega)
          rw [bv_getD G (1 + p / 8) (by rw [HLG.out]; exact hpn)] at hcx
          have hfx := O4.out.frozenAt (1 + p / 8)
          go_wp2_with fail
          rw [E8.out]
          refine (HB.out _).mono ?_
          rintro e w' ⟨rfl, rfl⟩
          have hpi : (1 : Int) + (p : Int) / 8 < (sz : Int) + 1 := by omega
          have hp8 : p % 8 < 8 := Nat.mod_lt _ (by omega)
          have hgb : w.heap.size < wr.heap.size := World.block_lt_of_cell? wr _ hcx
          generalize hx2 : (G.getD (1 + p / 8) 0) = x2 at *
          have HX2 := Lib.hid hx2; clear hx2
          go_wp2_with fail
          refine wp_qtail 11 (by kernel_rfl) (by kernel_rfl) ?_
          intro hcg
          simp only [List.take_succ_cons, List.take_zero, List.drop_succ_cons, List.drop_zero]
          repeat (first | go_big_quiet_step (fail) | quiet_step (fail))
          refine wpQuiet_nil ?_
          intro wq hbwq hcwq hfwq
          clear hcg
          have O5 := own_keep O4.out hbwq (Nat.le_refl _)
          have B5 := Below.go B4.out hbwq B4.out.size
          have s5 := (O5.stored (1 + p / 8) (bt (x2 ||| UInt8.ofNat (2 ^ (p % 8))))).1
          rw [bv_set, ← HX2.out, ← bset_set G p (by rw [HLG.out]; exact hpn), ← HSN.out] at s5
          have ev := or_val x2 (p % 8) hp8
          unfold bt at s5
          rw [HX2.out, ← ev] at s5
          have S5 := Lib.hid s5
          have C5 := Lib.hid B5
          clear O5 B5 s5 ev hbwq
          go_wp2
          exact ⟨⟨q + 1, by omega, by go_num, S5.out, C5.out.setCell (Nat.le_refl _) _⟩, by simp [intOf]; omega⟩
        · obtain rfl : q = k := by omega
          go_wp2
          refine ⟨⟨j + 1, by omega, by go_num, ?_, B4⟩, by simp [intOf]; omega⟩
          have h4 := O4.out
          have e : bkey F s.data.toList = (bplaces h q m).foldl bset F := by
            unfold bkey
            rw [HF0.out, HF.out, ← HH.out, HM.out]
            rfl
          rw [← e, ← HTK.out] at h4
          exact h4
    · obtain rfl : j = n := by omega
      go_wp2
      go_ret2
      refine ⟨_, rfl, ?_, B3.out⟩
      have h3 := O3.out
      rw [List.take_of_length_le (by rw [HL.out]; exact Nat.le_refl _)] at h3
      exact h3
end Go.Proofs.Ytlpdihcgdgkkbaa
