/- Walks: the reference's Of. -/
import Derived.Test.YtdmpimgbnhgiaaaZB
import Derived.Test.YtdmpimgbnhgiaaaZBase
import Derived.Test.YtdmpimgbnhgiaaaZK
import Derived.Lib.AppendZeros

namespace Go.Proofs.Ytdmpimgbnhgiaaa
open Go.RowKit Go.St
set_option linter.unusedVariables false
set_option linter.unusedSimpArgs false
set_option maxRecDepth 100000

/-- Two filters together, up to a place. -/
def orTo (fa fb : List UInt8) (j : Nat) : List UInt8 := (List.range fa.length).map fun i => if 1 ≤ i ∧ i ≤ j then fa.getD i 0 ||| fb.getD i 0 else fa.getD i 0
theorem orTo_length (fa fb : List UInt8) (j : Nat) : (orTo fa fb j).length = fa.length := by simp [orTo]
theorem orTo_get (fa fb : List UInt8) (j i : Nat) (h : i < fa.length) : (orTo fa fb j)[i]? = some (if 1 ≤ i ∧ i ≤ j then fa.getD i 0 ||| fb.getD i 0 else fa.getD i 0) := by
  unfold orTo
  rw [List.getElem?_map, List.getElem?_range h]
  rfl
theorem orTo_zero (fa fb : List UInt8) : orTo fa fb 0 = fa := by
  apply List.ext_getElem?
  intro i
  by_cases h : i < fa.length
  · rw [orTo_get fa fb 0 i h, if_neg (by omega), List.getElem?_eq_getElem h]
    simp [List.getD, h]
  · rw [List.getElem?_eq_none (by rw [orTo_length]; omega), List.getElem?_eq_none (by omega)]
theorem orTo_succ (fa fb : List UInt8) (j : Nat) (hj : 1 + j < fa.length) : orTo fa fb (j + 1) = (orTo fa fb j).set (1 + j) (fa.getD (1 + j) 0 ||| fb.getD (1 + j) 0) := by
  apply List.ext_getElem?
  intro i
  rw [List.getElem?_set]
  by_cases h : i < fa.length
  · rw [orTo_get fa fb (j + 1) i h]
    by_cases e : 1 + j = i
    · subst e
      rw [if_pos (by omega), if_pos rfl, if_pos (by rw [orTo_length]; exact h)]
    · rw [if_neg e, orTo_get fa fb j i h]
      by_cases h2 : 1 ≤ i ∧ i ≤ j
      · rw [if_pos h2, if_pos (by omega)]
      · rw [if_neg h2, if_neg (by omega)]
  · rw [if_neg (by omega), List.getElem?_eq_none (by rw [orTo_length]; omega), List.getElem?_eq_none (by rw [orTo_length]; omega)]
theorem orTo_getD (fa fb : List UInt8) (j i : Nat) (h : i < fa.length) : (orTo fa fb j).getD i 0 = if 1 ≤ i ∧ i ≤ j then fa.getD i 0 ||| fb.getD i 0 else fa.getD i 0 := by
  rw [List.getD_eq_getElem?_getD, orTo_get fa fb j i h]; rfl
def orF (fa fb : List UInt8) : List UInt8 := orTo fa fb (fa.length - 1)
theorem orF_head (fa fb : List UInt8) (h : 0 < fa.length) : (orF fa fb).getD 0 0 = fa.getD 0 0 := by
  unfold orF; rw [orTo_getD _ _ _ _ h, if_neg (by omega)]
theorem orF_chk (fa fb : List UInt8) (h : bchk fa = 0) : bchk (orF fa fb) = 0 := by
  obtain ⟨h1, h2, h3⟩ := bchk_ok h
  unfold bchk
  rw [orF_head _ _ (by omega), if_pos]
  exact ⟨by unfold orF; rw [orTo_length]; exact h1, h2, h3⟩
theorem or_div (x y : UInt8) (i : Nat) : ((x ||| y).toNat / 2 ^ i % 2 == 1) = ((x.toNat / 2 ^ i % 2 == 1) || (y.toNat / 2 ^ i % 2 == 1)) := by
  rw [UInt8.toNat_or, ← Nat.toNat_testBit, ← Nat.toNat_testBit, ← Nat.toNat_testBit, Nat.testBit_or]
  cases x.toNat.testBit i <;> cases y.toNat.testBit i <;> rfl
theorem orF_get (fa fb : List UInt8) (p : Nat) (h : 1 + p / 8 < fa.length) : bget (orF fa fb) p = (bget fa p || bget fb p) := by
  unfold bget orF
  rw [orTo_getD _ _ _ _ h, if_pos (by omega)]
  exact or_div _ _ _
/-- What either filter has both together have. -/
theorem orF_ball (fa fb x : List UInt8) (h2 : 2 ≤ fa.length) (hl : fb.length = fa.length) (hh : fb.getD 0 0 = fa.getD 0 0) (h : ball fa x = true ∨ ball fb x = true) : ball (orF fa fb) x = true := by
  unfold ball at *
  rw [orF_head _ _ (by omega), show (orF fa fb).length = fa.length by unfold orF; exact orTo_length _ _ _]
  rw [List.all_eq_true]
  intro q hq
  have hm := bplaces_mem (by omega) hq
  rw [orF_get _ _ _ (by omega)]
  rcases h with h | h
  · rw [List.all_eq_true] at h
    rw [h q hq, Bool.true_or]
  · rw [hl, hh, List.all_eq_true] at h
    rw [h q hq, Bool.or_true]

theorem bt_or2 (x y : UInt8) : bits .or .u8 ((x.toNat : Nat) : Int) ((y.toNat : Nat) : Int) = (((x ||| y).toNat : Nat) : Int) := by
  rw [u8_or_nat _ _ x.toNat_lt y.toNat_lt, UInt8.toNat_or]


end Go.Proofs.Ytdmpimgbnhgiaaa

namespace Go.Proofs.Ytdmpimgbnhgiaaa
open Go.RowKit Go.St
set_option linter.unusedVariables false
set_option linter.unusedSimpArgs false
set_option maxRecDepth 100000

theorem sty64 : STy Try.prog 62 3 1 8 (.int .i64 0) := ⟨Try.underlying62, ⟨_, rfl, by kernel_rfl, by kernel_rfl, by kernel_rfl⟩, rfl, by decide⟩
/-- Numbers as cells. -/
def iv (l : List Nat) : List Value := l.map fun x => .int .i64 ((x : Nat) : Int)
theorem iv_get (l : List Nat) (i : Nat) (h : i < l.length) : (iv l)[i]? = some (.int .i64 ((l[i] : Nat) : Int)) := by simp [iv, h]
theorem bplaces_length (h k m : Nat) : (bplaces h k m).length = k := by simp [bplaces]
theorem bplaces_succ (h k m : Nat) : bplaces h (k + 1) m = bplaces h k m ++ [bplace h k m] := by unfold bplaces; rw [List.range_succ, List.map_append]; rfl


set_option maxHeartbeats 800000 in
theorem places_any (s : ByteArray) (hs : s.size ≤ 9223372036854775807) (k m : Nat) (hk : k < 256) (hm : 0 < m) (hm2 : m < 4294967296) (w : World) :
    Calls Try.prog 77 #[.string s, .int .i64 (k : Int), .int .i64 (m : Int)] w fun e w' => ∃ v, e = .returned v ∧ w'.ownsRow w.heap.size 3 1 v k (iv (bplaces (bhash s.data.toList) k m)) ∧ Below w.heap.size w w' := by
  have hh := rhash_any s hs
  have hlt := bhash_lt s.data.toList
  generalize bhash s.data.toList = h at *
  have e1 := or1_val h hlt
  have e2 : (h : Int) % 4294967296 = ((h % 4294967296 : Nat) : Int) := by omega
  have E1 := Lib.hid e1; have E2 := Lib.hid e2; have HH := Lib.hid hh; have HLT := Lib.hid hlt
  clear hh hlt e1 e2
  go_enter Try.func77, Try.ntmps77
  go_wp2_with fail
  refine (HH.out _).mono ?_
  rintro e w' ⟨rfl, rfl⟩
  go_wp2_with fail
  rw [E1.out]
  go_loopw [10, 11] (fun v i wr => ∃ j : Nat, j ≤ k ∧ i = .int .i64 j ∧ Hid (wr.ownsRow w.heap.size 3 1 v j (iv (bplaces h j m))) ∧ Hid (Below w.heap.size w wr)) (fun _ i _ => k - (intOf i).toNat)
  case atStart => exact ⟨0, Nat.zero_le _, rfl, World.ownsRow_nil w _ _ _, Below.refl _ _⟩
  case round =>
    obtain ⟨j, hj, rfl, O2, B2⟩ := hrel
    by_cases hlt : j < k
    · have hbv := bit_val h j m hm hm2
      rw [← E2.out] at hbv
      have HBV := Lib.hid hbv; clear hbv
      go_wp2_with (at_builtin; refine wpList_app sty64 (.tmp 24) (.tmp 35) rfl rfl w.heap.size (O2.out.alloc _) rfl 1 1 (rd_one _ _ _) rfl rfl (by simp [Value.oneCell']) (by unfold maxLen; omega) (by omega) (by have := B2.out.size; simp; omega) ?_; intro v2 w2 own2 gr2 nil2 at2)
      exact ⟨⟨j + 1, by omega, by go_num, own_eq own2 rfl (by rw [bplaces_succ, HBV.out]; simp [iv]), ((B2.out.alloc B2.out.size _).grown gr2 (by have := B2.out.size; simp; omega) (fun g hg => (O2.out.lt g hg).1))⟩, by simp [intOf]; omega⟩
    · obtain rfl : j = k := by omega
      go_wp2
      go_ret
      exact ⟨_, rfl, O2.out, B2.out⟩
end Go.Proofs.Ytdmpimgbnhgiaaa

namespace Go.St
open Go.RowKit
set_option linter.unusedSimpArgs false
set_option linter.unusedVariables false

theorem zero_cells1 (z : Value) (m : Nat) : Builtin.zeroCells #[z] m = Array.replicate m z := by
  unfold Builtin.zeroCells
  apply Array.ext
  · simp
  · intro i h1 h2
    simp [Nat.mod_one]

theorem run_append_zeros {P : Program} {t e tn : TypeId} {kn : IntKind} {bytes : Nat} (E : STy P t e 1 bytes (.int .u8 0)) (htn : P.underlying tn = some (.int kn)) (w : World) (ty base : Nat) {g n m : Nat} {xs : List Value}
    (hown : w.ownsRow base e 1 (.slice (some ⟨g, 0, none⟩) n n) n xs) (h0 : 0 < m) (h63 : n + m ≤ 1099511627776) (hb1 : bytes = 1) (hbase : base ≤ w.heap.size) (k : IntKind) :
    ∃ cap w', (Builtin.append_ #[t, tn] ty #[.slice (some ⟨g, 0, none⟩) n n, .int k (m : Int)]).run P w = .ok (.slice (some ⟨w.heap.size, 0, none⟩) (n + m) cap) w' ∧ w'.ownsRow base e 1 (.slice (some ⟨w.heap.size, 0, none⟩) (n + m) cap) (n + m) (xs ++ List.replicate m (.int .u8 0)) ∧ w.grownBy w' none ∧ n + m ≤ cap := by
  obtain ⟨i, hi, hz, hs, hy⟩ := E.hi
  have hby : i.bytes = 1 := by omega
  have holds := hown.cells (g := g) rfl
  have hfo := run_firstCells_some (P := P) w.drew i.size n ⟨g, 0, none⟩ n n xs (by rw [hs]; exact hown.1) (by simpa using holds)
  have hn : ¬ (n + m ≤ n) := by omega
  have hw : IntKind.i64.wrap (m : Int) = m := by rw [IntKind.wrap_i64]; omega
  have hneg : ¬ ((m : Int) < 0) := by omega
  have h63' : ¬ (9223372036854775807 < ((n : Int) + (m : Int))) := by omega
  have hfit := growslice_fits (need := n + m) (old := n) (bytes := 1) (by omega) (by omega)
  have h48' : ¬ (281474976710656 < Builtin.nextslicecap (n + m) n * i.bytes) := by rw [hby]; omega
  have h48i : ¬ (281474976710656 < (m : Int) * (i.bytes : Int)) := by rw [hby]; omega
  have hm0 : m ≠ 0 := by omega
  have hi1 : i.size ≠ 0 := by omega
  have hzc : Value.cells (.int .u8 0) = #[.int .u8 0] := rfl
  have hge := grownCap_ge w (n + m) n e
  have hcm : grownCap w (n + m) n e ≤ maxLen := grownCap_le_maxLen w (n + m) n e (by unfold maxLen; omega)
  refine ⟨grownCap w (n + m) n e, w.drew.alloc (.cells (xs.toArray ++ Array.replicate m (.int .u8 0) ++ Array.replicate (grownCap w (n + m) n e - (n + m)) (.int .u8 0)) e), ?_, ?_, ?_, hge⟩
  · simp [Builtin.append_, run_underlying E.ht, run_underlying htn, sizeOf, typeInfo, zeroValue, hi, hz, asInt, asIntOf, hw, hn, hm0, hi1, hneg, h63', h48', h48i, Question.forced, hfo, newRow, grownCap, hzc, zero_cells1]
    intro h
    rcases Nat.mul_eq_zero.1 h with h | h <;> omega
  · refine ⟨by simp [hown.1], .inr ⟨w.heap.size, _, _, rfl, hbase, heap_alloc_new w.drew _, hge, hcm, ?_, ?_⟩⟩
    · have h1 := hown.1
      simp only [Array.size_append, List.size_toArray, Array.size_replicate]
      omega
    · have h1 := hown.1
      simp only [Array.toList_append, Array.toList_replicate, Nat.mul_one]
      rw [List.take_left' (by simp; omega)]
  · exact ⟨rfl, rfl, rfl, by simp, fun k hk _ => heap_alloc_old w.drew _ hk⟩
end Go.St

namespace Go.Proofs.Ytdmpimgbnhgiaaa
open Go.RowKit Go.St
set_option linter.unusedVariables false
set_option linter.unusedSimpArgs false
set_option maxRecDepth 100000

theorem rof_arg (A : Option Addr) (n c : Nat) (hn : n ≤ 1048576) (b : Int) (hb : b < 1 ∨ 16 < b) (w : World) :
    Calls Try.prog 45 #[.slice A n c, .int .i64 b] w fun e w' => e = .returned (.tuple #[.slice none 0 0, .int .i64 2]) ∧ w = w' := by
  rcases hb with hb | hb
  · go_enter Try.func45, Try.ntmps45
    go_wp2
    go_ret2
    exact ⟨rfl, rfl⟩
  · have h2 : decide (b < 1) = false := decide_eq_false (by omega)
    go_enter Try.func45, Try.ntmps45
    go_wp2
    go_ret2
    exact ⟨rfl, rfl⟩

set_option maxHeartbeats 1600000 in
theorem rof_any (A : Option Addr) (n c B : Nat) (keys : List ByteArray) (hl : keys.length = n) (hn : n ≤ 1048576) (hks : ∀ s ∈ keys, s.size ≤ 9223372036854775807) (b : Nat) (hb1 : 1 ≤ b) (hb2 : b ≤ 16) (w : World) (hr : Rd w B A (sv keys)) (hB : B ≤ w.heap.size) :
    Calls Try.prog 45 #[.slice A n c, .int .i64 (b : Int)] w fun e w' => ∃ v, e = .returned (.tuple #[v, .int .i64 0]) ∧
      w'.ownsRow w.heap.size 5 1 v (bsize n b + 1) (bv (bof (brounds b) (bsize n b) (bl keys))) ∧ Below w.heap.size w w' := by
  have hs := bsize_bd n b hn hb2
  have hk := brounds_bd b hb1 hb2
  obtain ⟨x, hx⟩ : ∃ x, x = n * b := ⟨_, rfl⟩
  obtain ⟨sz, hsz⟩ : ∃ x, x = bsize n b := ⟨_, rfl⟩
  obtain ⟨k, hkk⟩ : ∃ x, x = brounds b := ⟨_, rfl⟩
  have e1 : (n : Int) * (b : Int) = (x : Int) := by rw [hx]; exact (Int.natCast_mul _ _).symm
  have hnb : x ≤ 1048576 * 16 := by rw [hx]; exact Nat.mul_le_mul hn hb2
  have ek : ((b : Int) * 69 + 99) / 100 = (k : Int) := by rw [hkk]; unfold brounds; omega
  have hsx : sz = max 1 ((x + 7) / 8) := by rw [hsz, hx]; rfl
  rw [← hsz] at hs ⊢
  rw [← hkk] at hk ⊢
  obtain ⟨m, hm⟩ : ∃ m, m = 8 * sz := ⟨_, rfl⟩
  have hmax : ∀ w : World, (Builtin.max_ #[3, 3] 3 #[.int .i64 8, .int .i64 (((x : Int) + 7) / 8 * 8)]).run Try.prog w = .ok (.int .i64 (m : Int)) w := fun w => by
    rw [run_max_int2]
    congr 2
    split <;> omega
  have hm8 : (m : Int) / 8 = (sz : Int) := by omega
  obtain ⟨hs1, hs2⟩ := hs
  obtain ⟨hk1, hk2⟩ := hk
  have hm0 : 0 < m := by omega
  have hm1 : m < 4294967296 := by omega
  have hwr : (k : Int) % 256 = (k : Int) := by omega
  have d1 : decide ((b : Int) < 1) = false := decide_eq_false (by omega)
  have d2 : decide ((16 : Int) < (b : Int)) = false := decide_eq_false (by omega)
  have HSZ := Lib.hid hsz; have HKK := Lib.hid hkk; have HSX := Lib.hid hsx; have HM := Lib.hid hm; have HM8 := Lib.hid hm8
  have HX := Lib.hid hx; have HL := Lib.hid hl; have HR := Lib.hid hr; have HKS := Lib.hid hks
  clear hsz hkk hsx hx hl hr hks hm
  go_enter Try.func45, Try.ntmps45
  go_wp2_with (at_builtin; obtain ⟨cap, w1, hrun, own1, gr1, hcap⟩ := run_append_zeros sty8 Try.underlying3 (w.alloc (.cells #[.int .u8 ((k : Nat) : Int)] 5)) 26 w.heap.size (World.ownsRow_lit w #[.int .u8 ((k : Nat) : Int)] 1 (Nat.le_refl _) (by decide) rfl) hs1 (by omega) rfl (by simp) .i64; refine Lib.wpList_append_run _ rfl (.tmp 35) (.tmp 37) 26 3 rfl _ _ rfl rfl _ _ hrun ?_; clear hrun)
  obtain ⟨g, hg⟩ : ∃ g, g = w.heap.size + 1 := ⟨_, rfl⟩
  have eg : (w.alloc (.cells #[.int .u8 ((k : Nat) : Int)] 5)).heap.size = g := by rw [hg]; simp
  rw [eg] at own1
  try rw [eg]
  try rw [← hg]
  have hgb : w.heap.size ≤ g := by omega
  have O2 : Hid (w1.ownsRow w.heap.size 5 1 (.slice (some ⟨g, 0, none⟩) (1 + sz) cap) (1 + sz) (bv (bof k sz (bl (keys.take 0))))) := by
    refine own_eq own1 rfl ?_
    have e : UInt8.toNat (UInt8.ofNat k) = k := by rw [UInt8.toNat_ofNat']; omega
    simp [bof, bl, bnew, bv, bt, e]
  have B2 : Hid (Below w.heap.size w w1) := ((Below.refl _ w).alloc (Nat.le_refl _) _).grown gr1 (by simp) (by simp)
  clear own1 gr1 eg hg hmax e1 ek hwr
  have hg : ∀ l : List (List UInt8), ((bof k sz l).getD 0 0).toNat = k := fun l => by rw [bof_head]; simp [UInt8.toNat_ofNat']; omega
  have HG := Lib.hid hg; clear hg
  clear hm8
  go_loopw [9] (fun i wr => ∃ j : Nat, j ≤ n ∧ i = .int .i64 j ∧ Hid (wr.ownsRow w.heap.size 5 1 (.slice (some ⟨g, 0, none⟩) (1 + sz) cap) (1 + sz) (bv (bof k sz (bl (keys.take j))))) ∧ Hid (Below w.heap.size w wr)) (fun i _ => n - (intOf i).toNat)
  case atStart => exact ⟨0, Nat.zero_le _, rfl, O2, B2⟩
  case round =>
    obtain ⟨j, hj, rfl, O3, B3⟩ := hrel
    clear O2 B2
    by_cases hlt : j < n
    · have hjk : j < keys.length := by rw [HL.out]; exact hlt
      obtain ⟨b', off, rfl, hb', hcell⟩ := (HR.out.below (B3.out.mono hB)).at_ (show (sv keys)[j]? = some (.string keys[j]) by simp [sv, hjk])
      have hsk := HKS.out keys[j] (List.getElem_mem hjk)
      have htk : bof k sz (bl (keys.take (j + 1))) = bkey (bof k sz (bl (keys.take j))) keys[j].data.toList := by
        unfold bof bl
        rw [take_snoc keys j hjk, List.map_append, List.foldl_append]
        rfl
      have HTK := Lib.hid htk; clear htk
      generalize keys[j] = s at *
      have hF := bof_length k sz (bl (keys.take j))
      have hF0 := HG.out (bl (keys.take j))
      generalize bof k sz (bl (keys.take j)) = F at *
      have HF := Lib.hid hF; have HF0 := Lib.hid hF0
      clear hF hF0
      obtain ⟨h, hh⟩ : ∃ h, h = bhash s.data.toList := ⟨_, rfl⟩
      have hpl := fun w => places_any s hsk k m (by omega) hm0 hm1 w
      rw [← hh] at hpl
      have HH := Lib.hid hh; have HP := Lib.hid hpl
      clear hh hpl
      go_wp2_with fail
      refine (HP.out _).mono ?_
      rintro e w2 ⟨v, rfl, own2, hb2⟩
      obtain ⟨b1, c1, rfl, hkc, hc1, hb1g, hb1s⟩ := own_blk own2 (by omega)
      have O4 : Hid _ := Lib.hid (own_keep O3.out hb2 (Nat.le_refl _))
      have B4 : Hid _ := Lib.hid (Below.go B3.out hb2 B3.out.size)
      have hgw := (O3.out.lt g rfl).2
      have hne : b1 ≠ g := by omega
      have P4 : Hid (w2.ownsRow w.heap.size 3 1 (.slice (some ⟨b1, 0, none⟩) k c1) k (iv (bplaces h k m))) := by
        rcases own2 with ⟨q1, q2⟩
        refine ⟨q1, ?_⟩
        rcases q2 with ⟨q3, q4⟩ | ⟨g', cap', cur, e1, q5, q6⟩
        · exact .inl ⟨q3, q4⟩
        · exact .inr ⟨g', cap', cur, e1, by omega, q6⟩
      clear own2 hb2 hcell hb1s hgw
      clear hb1g
      clear O3 B3
      go_wp2_with fail
      go_loopw [11] (fun i wr => ∃ q : Nat, q ≤ k ∧ i = .int .i64 q ∧ Hid (wr.ownsRow w.heap.size 5 1 (.slice (some ⟨g, 0, none⟩) (1 + sz) cap) (1 + sz) (bv ((bplaces h q m).foldl bset F))) ∧ Hid (wr.ownsRow w.heap.size 3 1 (.slice (some ⟨b1, 0, none⟩) k c1) k (iv (bplaces h k m))) ∧ Hid (Below w.heap.size w wr)) (fun i _ => k - (intOf i).toNat)
      case atStart => exact ⟨0, Nat.zero_le _, rfl, O4, P4, B4⟩
      case round =>
        clear O4 P4 B4
        obtain ⟨q, hq, rfl, O4, P4, B4⟩ := hrel
        by_cases hqk : q < k
        · have hp := bplace_lt h q m hm0
          have hsn : (bplaces h (q + 1) m).foldl bset F = bset ((bplaces h q m).foldl bset F) (bplace h q m) := by
            rw [bplaces_succ, List.foldl_append]
            rfl
          have hlG : ((bplaces h q m).foldl bset F).length = sz + 1 := by rw [bsets_length]; exact HF.out
          have HSN := Lib.hid hsn; have HLG := Lib.hid hlG; clear hsn hlG
          have hj2 : (bplaces h k m)[q]'(by rw [bplaces_length]; exact hqk) = bplace h q m := by simp [bplaces]
          have hy := P4.out.cellAt q (by omega)
          rw [iv_get _ q (by rw [bplaces_length]; exact hqk), hj2] at hy
          clear hj2
          generalize (bplaces h q m).foldl bset F = G at *
          generalize bplace h q m = p at *
          have hpn : 1 + p / 8 < sz + 1 := by have := HM.out; omega
          have hcx := O4.out.cellAt (1 + p / 8) (by omega)
          rw [bv_getD G (1 + p / 8) (by rw [HLG.out]; exact hpn)] at hcx
          have hfx := O4.out.frozenAt (1 + p / 8)
          have hpi : (1 : Int) + (p : Int) / 8 < 1 + (sz : Int) := by omega
          have hp8 : p % 8 < 8 := Nat.mod_lt _ (by omega)
          have hgb2 : g < wr.heap.size := World.block_lt_of_cell? wr _ hcx
          have hgb3 : b1 < wr.heap.size := World.block_lt_of_cell? wr _ hy
          generalize hx2 : (G.getD (1 + p / 8) 0) = x2 at *
          have HX2 := Lib.hid hx2; clear hx2
          go_wp2_with fail
          refine wp_qtail 17 (by kernel_rfl) (by kernel_rfl) ?_
          intro hcg
          simp only [List.take_succ_cons, List.take_zero, List.drop_succ_cons, List.drop_zero]
          repeat (first | go_big_quiet_step (fail) | quiet_step (fail))
          refine wpQuiet_nil ?_
          intro wq hbwq hcwq hfwq
          clear hcg
          have O5 := own_keep O4.out hbwq (Nat.le_refl _)
          have P5 := own_keep P4.out hbwq (Nat.le_refl _)
          have B5 := Below.go B4.out hbwq B4.out.size
          have s4 := O5.stored (1 + p / 8) (bt (x2 ||| UInt8.ofNat (2 ^ (p % 8))))
          have s5 := s4.1
          have p5 := P5.kept s4.2 (.inr (by simp [Value.ownBlock]; exact hne))
          rw [bv_set, ← HX2.out, ← bset_set G p (by rw [HLG.out]; exact hpn), ← HSN.out] at s5
          rw [← HX2.out] at p5
          have ev := or_val x2 (p % 8) hp8
          unfold bt at s5 p5
          rw [HX2.out, ← ev] at s5 p5
          have S5 := Lib.hid s5
          have PP5 := Lib.hid p5
          have C5 := Lib.hid B5
          clear O5 B5 s4 s5 p5 P5 ev hbwq
          go_wp2
          exact ⟨⟨q + 1, by omega, by go_num, S5.out, PP5.out, C5.out.setCell (by omega) _⟩, by simp [intOf]; omega⟩
        · obtain rfl : q = k := by omega
          go_wp2
          refine ⟨⟨j + 1, by omega, by go_num, ?_, B4⟩, by simp [intOf]; omega⟩
          have h4 := O4.out
          have e : bkey F s.data.toList = (bplaces h q m).foldl bset F := by
            unfold bkey
            rw [HF0.out, HF.out, ← HH.out, Nat.add_sub_cancel, ← HM.out]
          rw [← e, ← HTK.out] at h4
          exact h4
    · obtain rfl : j = n := by omega
      go_wp2
      go_ret2
      refine ⟨_, rfl, own_eq O3.out (by omega) ?_, B3.out⟩
      rw [List.take_of_length_le (by have := HL.out; omega)]
end Go.Proofs.Ytdmpimgbnhgiaaa
