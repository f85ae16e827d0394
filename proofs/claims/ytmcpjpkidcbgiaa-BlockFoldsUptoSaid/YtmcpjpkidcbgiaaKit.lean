/- Walks of the kit's own functions on bytes: copied, compared, lent, kept. -/
import Derived.Test.YtmcpjpkidcbgiaaChecked
import Derived.Test.YtmcpjpkidcbgiaaBase
import Derived.Test.YtmcpjpkidcbgiaaBb
import Derived.WalkSpells
import Derived.Handy
import Derived.Lib.Hide
import Derived.Deep.LoopGhost
import Derived.BigQuiet
namespace Go.Proofs.Ytmcpjpkidcbgiaa
open Go.RowKit Go.St
set_option linter.unusedVariables false
set_option linter.unusedSimpArgs false

set_option maxRecDepth 100000 in
theorem sty22 : STy Try.prog 23 5 1 1 (.int .u8 0) := ⟨Try.underlying23, ⟨_, rfl, by kernel_rfl, by kernel_rfl, by kernel_rfl⟩, rfl, by decide⟩

set_option maxHeartbeats 400000 in
theorem copy_any (A : Option Addr) (n c B : Nat) (bs : List UInt8) (hl : bs.length = n) (hn : n ≤ 140737488355328) (w : World) (hr : Rd w B A (bv bs)) (hB : B ≤ w.heap.size) :
    Calls Try.prog 39 #[.slice A n c] w fun e w' => ∃ v, e = .returned v ∧ w'.ownsRow w.heap.size 5 1 v n (bv bs) ∧ Below w.heap.size w w' ∧ v ≠ .slice none 0 0 := by
  have HL := Lib.hid hl; clear hl
  have HR := Lib.hid hr; clear hr
  go_enter Try.func39, Try.ntmps39
  go_wp2_with (at_builtin; refine wpList_app sty22 (.tmp 3) (.tmp 4) rfl rfl w.heap.size (World.ownsRow_lit w #[] 0 (Nat.le_refl _) (by decide) rfl) rfl n c (Rd.alloc HR.out hB _) rfl (by rw [bv_length, HL.out]; omega) (bv_one _) (by unfold maxLen; omega) (by omega) (by simp) ?_; intro v1 w1 own1 gr1 nil1 at1)
  go_ret
  refine ⟨v1, rfl, by simpa using own1, ?_, fun h => by simpa using nil1.1 h⟩
  exact ((Below.refl _ _).alloc (Nat.le_refl _) _).grown gr1 (by simp) (by simp [Value.ownBlock])

theorem bt_ne {a b : UInt8} (h : a ≠ b) : (((a.toNat : Nat) : Int) != ((b.toNat : Nat) : Int)) = true := by
  rw [bne_iff_ne]
  intro e
  exact h (UInt8.toNat_inj.1 (by omega))
theorem bt_eq {a b : UInt8} (h : a = b) : (((a.toNat : Nat) : Int) != ((b.toNat : Nat) : Int)) = false := by
  subst h
  simp

set_option maxHeartbeats 400000 in
theorem same_any (A A' : Option Addr) (n n' c c' B B' : Nat) (bs bs' : List UInt8) (hl : bs.length = n) (hl' : bs'.length = n') (hn : n ≤ 9223372036854775807) (w : World)
    (hr : Rd w B A (bv bs)) (hr' : Rd w B' A' (bv bs')) :
    Calls Try.prog 20 #[.slice A n c, .slice A' n' c'] w fun e w' => e = .returned (.bool (decide (bs = bs'))) ∧ ∃ m, w' = w.drewN m := by
  have HL := Lib.hid hl; clear hl
  have HL' := Lib.hid hl'; clear hl'
  have HR := Lib.hid hr; clear hr
  have HR' := Lib.hid hr'; clear hr'
  by_cases hnn : n = n'
  · subst hnn
    go_enter Try.func20, Try.ntmps20
    go_wp2
    go_loopw [5] (fun i wr => ∃ k m : Nat, k ≤ n ∧ i = .int .i64 k ∧ wr = w.drewN m ∧ bs.take k = bs'.take k) (fun i _ => n - (intOf i).toNat)
    case atStart => exact ⟨0, 0, Nat.zero_le _, rfl, rfl, rfl⟩
    case round =>
      obtain ⟨k, m, hk, rfl, rfl, htk⟩ := hrel
      have HT := Lib.hid htk; clear htk
      by_cases hlt : k < n
      · obtain ⟨b, off, rfl, hb, hcell⟩ := HR.out.at_ (bv_get bs k (by rw [HL.out]; exact hlt))
        obtain ⟨b', off', rfl, hb', hcell'⟩ := HR'.out.at_ (bv_get bs' k (by rw [HL'.out]; exact hlt))
        have hsn := take_snoc bs k (by rw [HL.out]; exact hlt)
        have hsn' := take_snoc bs' k (by rw [HL'.out]; exact hlt)
        have HS := Lib.hid hsn; clear hsn
        have HS' := Lib.hid hsn'; clear hsn'
        unfold bt at hcell hcell'
        by_cases he : bs[k]'(by rw [HL.out]; exact hlt) = bs'[k]'(by rw [HL'.out]; exact hlt)
        · have e0 := bt_eq he
          have HE := Lib.hid he; clear he
          go_wp2
          go_quiet (fail)
          go_wp2
          exact ⟨⟨k + 1, m + nq, by omega, by go_num, by simp, by rw [HS.out, HS'.out, HT.out, HE.out]⟩, by simp [intOf]; omega⟩
        · have e0 := bt_ne he
          have HE := Lib.hid he; clear he
          go_wp2
          go_quiet (fail)
          go_wp2
          go_ret
          refine ⟨ret_bool ?_, m + nq, by simp⟩
          exact (decide_eq_false (fun h => HE.out (by subst h; rfl))).symm
      · obtain rfl : k = n := by omega
        go_wp2
        go_ret
        refine ⟨ret_bool ?_, m, rfl⟩
        have h1 := HT.out
        rw [List.take_of_length_le (by rw [HL.out]; exact Nat.le_refl _), List.take_of_length_le (by rw [HL'.out]; exact Nat.le_refl _)] at h1
        exact (decide_eq_true h1).symm
  · go_enter Try.func20, Try.ntmps20
    go_wp2
    go_ret
    exact ⟨ret_bool (decide_eq_false (fun h => hnn (by rw [← HL.out, ← HL'.out, h]))).symm, 0, rfl⟩

/-- What stands behind a list that is lent. -/
def lent (bs : List UInt8) : List UInt8 := bs ++ [201, 202, 203]
theorem lent_length (bs : List UInt8) : (lent bs).length = bs.length + 3 := by simp [lent]

set_option maxHeartbeats 400000 in
theorem lent_any (A : Option Addr) (n c B : Nat) (bs : List UInt8) (hl : bs.length = n) (hn : n + 3 ≤ 140737488355328) (w : World) (hr : Rd w B A (bv bs)) (hB : B ≤ w.heap.size) :
    Calls Try.prog 13 #[.slice A n c] w fun e w' => ∃ v, e = .returned v ∧ w'.ownsRow w.heap.size 5 1 v (n + 3) (bv (lent bs)) ∧ Below w.heap.size w w' := by
  have HL := Lib.hid hl; clear hl
  have HR := Lib.hid hr; clear hr
  go_enter Try.func13, Try.ntmps13
  go_wp2_with fail
  refine (copy_any A n c B bs HL.out (by omega) _ HR.out hB).mono ?_
  rintro e w1 ⟨v1, rfl, own1, hb1, _⟩
  have HO : Hid (w1.ownsRow w.heap.size 5 1 v1 (n + 0) (bv bs ++ bv (([201, 202, 203] : List UInt8).take 0))) := own_eq own1 (by omega) (by simp [bv])
  clear own1
  go_wp2
  go_loopw [3, 4] (fun v i wr => ∃ k : Nat, k ≤ 3 ∧ i = .int .i64 k ∧ wr.ownsRow w.heap.size 5 1 v (n + k) (bv bs ++ bv (([201, 202, 203] : List UInt8).take k)) ∧ Below w.heap.size w wr) (fun _ i _ => 3 - (intOf i).toNat)
  case atStart => exact ⟨0, Nat.zero_le _, rfl, HO.out, hb1⟩
  case round =>
    obtain ⟨k, hk, rfl, hown, hbw⟩ := hrel
    clear hb1 HO
    by_cases hk4 : k < 3
    · rcases (by omega : k = 0 ∨ k = 1 ∨ k = 2) with rfl | rfl | rfl
      all_goals
        go_wp2_with (at_builtin; refine wpList_app sty22 (.tmp 11) (.tmp 15) rfl rfl w.heap.size (hown.alloc _) rfl 1 1 (rd_one _ _ _) rfl rfl (by simp [Value.oneCell']) (by unfold maxLen; omega) (by omega) (by have := hbw.size; simp; omega) ?_; intro v2 w2 own2 gr2 nil2 at2)
      · exact ⟨⟨0 + 1, by omega, by go_num, own_eq own2 (by omega) (by simp [bv, bt]), ((hbw.alloc hbw.size _).grown gr2 (by have := hbw.size; simp; omega) (fun g hg => (hown.lt g hg).1))⟩, by simp [intOf]⟩
      · exact ⟨⟨1 + 1, by omega, by go_num, own_eq own2 (by omega) (by simp [bv, bt]), ((hbw.alloc hbw.size _).grown gr2 (by have := hbw.size; simp; omega) (fun g hg => (hown.lt g hg).1))⟩, by simp [intOf]⟩
      · exact ⟨⟨2 + 1, by omega, by go_num, own_eq own2 (by omega) (by simp [bv, bt]), ((hbw.alloc hbw.size _).grown gr2 (by have := hbw.size; simp; omega) (fun g hg => (hown.lt g hg).1))⟩, by simp [intOf]⟩
    · obtain rfl : k = 3 := by omega
      go_wp2
      go_ret
      exact ⟨_, rfl, own_eq hown (by omega) (by rw [← bv_append]; rfl), hbw⟩

set_option maxHeartbeats 400000 in
theorem kept_any (A A' : Option Addr) (n n' c c' B B' : Nat) (fs bs : List UInt8) (hl : fs.length = n) (hl' : bs.length = n') (hn : n ≤ 9223372036854775807) (hn' : n' + 3 ≤ 140737488355328) (w : World)
    (hr : Rd w B A (bv fs)) (hB : B ≤ w.heap.size) (hr' : Rd w B' A' (bv bs)) (hB' : B' ≤ w.heap.size) :
    Calls Try.prog 23 #[.slice A n c, .slice A' n' c'] w fun e w' => e = .returned (.bool (decide (fs = lent bs))) ∧ Below w.heap.size w w' := by
  have HL := Lib.hid hl; clear hl
  have HL' := Lib.hid hl'; clear hl'
  have HR := Lib.hid hr; clear hr
  have HR' := Lib.hid hr'; clear hr'
  go_enter Try.func23, Try.ntmps23
  go_wp2_with fail
  refine (lent_any A' n' c' B' bs HL'.out hn' _ HR'.out hB').mono ?_
  rintro e w1 ⟨v1, rfl, own1, hb1⟩
  obtain ⟨A1, c1, rfl, r1⟩ := own_rd own1
  go_wp2_with fail
  refine (same_any A A1 n (n' + 3) c c1 _ _ fs (lent bs) HL.out (by rw [lent_length, HL'.out]) hn _ (HR.out.below (hb1.mono hB)) r1).mono ?_
  rintro e w2 ⟨rfl, q, rfl⟩
  go_wp2
  go_ret
  exact ⟨rfl, ⟨hb1.os, hb1.tape, hb1.output, hb1.size, hb1.block⟩⟩

/-- append within the capacity. -/
theorem wpList_fit {P : Program} {t e : TypeId} {size bytes : Nat} {z : Value} (E : STy P t e size bytes z) {w : World} {ops : Array Oper} {rest : List Oper} {o : Oper} {a : Act} {Q : Exit → Act → World → Prop} (s x : Operand) (hgd : o.guard = none)
    (ho : o.op = .call { callee := .builtin .append, args := #[s, x], argTypes := #[t, t] })
    (base : Nat) {g n cap : Nat} {xs : List Value} (hown : w.ownsRow base e size (.slice (some ⟨g, 0, none⟩) n cap) n xs) (hs : a.eval s = .slice (some ⟨g, 0, none⟩) n cap)
    (ad : Addr) (m c : Nat) {news : List Value} (hr : ∀ j u, news[j]? = some u → w.cell? (ad.add j) = some u) (hx : a.eval x = .slice (some ad) m c) (hl : news.length = m * size) (h1 : ∀ u ∈ news, u.oneCell' = true) (hroom : n + m ≤ cap)
    (h : ∀ w', w'.ownsRow base e size (.slice (some ⟨g, 0, none⟩) (n + m) cap) (n + m) (xs ++ news) → w.grownBy w' (some g) → wpList P ops Q rest (a.put o.dst (.slice (some ⟨g, 0, none⟩) (n + m) cap)) w') :
    wpList P ops Q (o :: rest) a w := by
  refine wpList_plain hgd fun _ hK => ?_
  obtain ⟨i, hi, hz, hsz, hb⟩ := E.hi
  obtain ⟨w', hrun, h2, h3⟩ := run_append_fits (P := P) w base t o.type e i size E.ht hi hsz g n cap xs hown ad m c news hl hr h1 hroom
  unfold Oper.wp execOp
  simp only [ho, resolve, invoke, builtin, Sem.run_bind, Sem.run_pure, Result.andThen_ok, List.map_toArray, List.map_cons, List.map_nil, hs, hx, hrun]
  exact hK _ _ (h w' h2 h3)

theorem not8 (x : UInt8) : bits .xor .u8 IntKind.u8.max ((x.toNat : Nat) : Int) = (((~~~x).toNat : Nat) : Int) := by
  have e : IntKind.u8.max = (((255 : UInt8).toNat : Nat) : Int) := by decide
  have e2 : (255 : UInt8) ^^^ x = ~~~x := UInt8.neg_one_xor
  rw [e, bt_xor, e2]
theorem not8n (x : UInt8) : bits .xor .u8 IntKind.u8.max ((x.toNat : Nat) : Int) = ((255 - x.toNat : Nat) : Int) := by rw [not8, UInt8.toNat_not]; rfl
theorem bt_notn (x : UInt8) : bt (~~~x) = .int .u8 ((255 - x.toNat : Nat) : Int) := by unfold bt; rw [UInt8.toNat_not]; rfl
theorem uns8 : IntKind.u8.signed = false := rfl

/-- A list of the call's own, cut shorter. -/
theorem own_short {w : World} {base g n m cap : Nat} {e : TypeId} {xs : List Value} (h : w.ownsRow base e 1 (.slice (some ⟨g, 0, none⟩) m cap) m xs) (hn : n ≤ m) : w.ownsRow base e 1 (.slice (some ⟨g, 0, none⟩) n cap) n (xs.take n) := by
  have hl := h.1
  rcases h.2 with ⟨h', _⟩ | ⟨g', cap', cur, h', hb, hg, hnc, hcm, hcs, htake⟩
  · simp at h'
  · simp only [Value.slice.injEq, Option.some.injEq, Addr.mk.injEq, and_true, true_and] at h'
    obtain ⟨rfl, rfl⟩ := h'
    refine ⟨by simp; omega, .inr ⟨g, cap, cur, rfl, hb, hg, by omega, hcm, hcs, ?_⟩⟩
    rw [← htake, List.take_take]
    congr 1
    omega

/-- The length of a slice. -/
def lenV : Value → Nat | .slice _ n _ => n | _ => 0

set_option maxHeartbeats 1000000 in
theorem over_any (g n c base : Nat) (bs : List UInt8) (hl : bs.length = n) (w : World) (hc : c ≤ maxLen) (hnc : n ≤ c) (hown : w.ownsRow base 5 1 (.slice (some ⟨g, 0, none⟩) n c) n (bv bs)) :
    Calls Try.prog 54 #[.slice (some ⟨g, 0, none⟩) n c] w fun e w' => e = .returned (.tuple #[]) ∧ w'.ownsRow base 5 1 (.slice (some ⟨g, 0, none⟩) n c) n (bv (bs.map (~~~ ·))) ∧ w.grownBy w' (some g) := by
  unfold maxLen at hc
  have HL := Lib.hid hl; clear hl
  have hx := not8n
  have hu := uns8
  obtain ⟨ys, hys⟩ : ∃ ys, ys = bs.map (~~~ ·) := ⟨_, rfl⟩
  have hyl : ys.length = n := by rw [hys, List.length_map, HL.out]
  have HY := Lib.hid hys
  have HYL := Lib.hid hyl
  have O0 : Hid (w.ownsRow base 5 1 (.slice (some ⟨g, 0, none⟩) n c) n (bv (ys.take 0 ++ bs.drop 0))) := hown
  rw [← hys]
  clear hown hys hyl
  go_enter Try.func54, Try.ntmps54
  go_wp2
  go_loopw [3] (fun i wr => ∃ k : Nat, k ≤ n ∧ i = .int .i64 k ∧ wr.ownsRow base 5 1 (.slice (some ⟨g, 0, none⟩) n c) n (bv (ys.take k ++ bs.drop k)) ∧ w.grownBy wr (some g)) (fun i _ => n - (intOf i).toNat)
  case atStart => exact ⟨0, Nat.zero_le _, rfl, O0.out, World.grownBy.refl _ _⟩
  case round =>
    obtain ⟨k, hk, rfl, hown, hgr⟩ := hrel
    clear O0
    have OW := Lib.hid hown; clear hown
    by_cases hlt : k < n
    · have hkb : k < bs.length := by rw [HL.out]; exact hlt
      have hky : k < ys.length := by rw [HYL.out]; exact hlt
      have hget : (ys.take k ++ bs.drop k)[k]? = some bs[k] := by
        rw [List.getElem?_append_right (by simp; omega)]
        simp [Nat.min_eq_left (Nat.le_of_lt hky)]
      have hcx := OW.out.cellAt k (by omega)
      rw [bv, List.getElem?_map, hget, Option.map_some] at hcx
      have hfx := OW.out.frozenAt k
      have e1 := hx bs[k]
      have hset : (ys.take k ++ bs.drop k).set k ys[k] = ys.take (k + 1) ++ bs.drop (k + 1) := by
        rw [List.set_append_right _ _ (by simp; omega), List.drop_eq_getElem_cons hkb, take_snoc ys k hky, List.length_take, Nat.min_eq_left (Nat.le_of_lt hky), Nat.sub_self, List.set_cons_zero, List.append_assoc]
        rfl
      have hyk : ys[k] = ~~~bs[k] := by
        have h := HY.out
        subst h
        simp
      have HS := Lib.hid hset; clear hset
      have HK := Lib.hid hyk; clear hyk
      clear hx hget
      unfold bt at hcx
      have i1 : (k : Int) < (n : Int) := by omega
      go_wp2
      have o2 := (OW.out.stored k (bt ys[k])).1
      have g2 := (OW.out.stored k (bt ys[k])).2
      rw [bv_set, HS.out] at o2
      have ev : bt ys[k] = .int .u8 ((255 - bs[k].toNat : Nat) : Int) := by rw [HK.out, bt_notn]
      rw [ev] at o2 g2
      exact ⟨⟨k + 1, by omega, by go_num, o2, hgr.trans g2⟩, by simp [intOf]; omega⟩
    · obtain rfl : k = n := by omega
      have o2 : wr.ownsRow base 5 1 (.slice (some ⟨g, 0, none⟩) k c) (k + 0) (bv (ys ++ List.replicate 0 99)) := by
        have h := OW.out
        rw [List.take_of_length_le (l := ys) (by rw [HYL.out]; exact Nat.le_refl _), List.drop_of_length_le (by rw [HL.out]; exact Nat.le_refl _)] at h
        exact h
      have O2 := Lib.hid o2; clear o2 OW
      clear hx
      go_wp2
      go_loopw [0] (fun v wr => ∃ j : Nat, k + j ≤ c ∧ v = .slice (some ⟨g, 0, none⟩) (k + j) c ∧ wr.ownsRow base 5 1 (.slice (some ⟨g, 0, none⟩) (k + j) c) (k + j) (bv (ys ++ List.replicate j 99)) ∧ w.grownBy wr (some g)) (fun v _ => c - lenV v)
      case atStart => exact ⟨0, hnc, rfl, O2.out, hgr⟩
      case round =>
        rename_i wz _
        obtain ⟨j, hj, rfl, hown, hgr2⟩ := hrel
        clear O2 hgr
        by_cases hlt2 : k + j < c
        · go_wp2_with (at_builtin; refine wpList_fit sty22 (.tmp 24) (.tmp 25) rfl rfl base (hown.alloc _) rfl ⟨wr.heap.size, 0, none⟩ 1 1 (cell_one_new _ _ _) rfl rfl (by simp [Value.oneCell']) (by omega) ?_; intro w6 own6 gr6)
          refine ⟨⟨j + 1, by omega, rfl, own_eq own6 rfl ?_, ?_⟩, by simp [lenV]; omega⟩
          · rw [List.replicate_succ', ← List.append_assoc, bv_append _ [99]]; rfl
          · exact (hgr2.trans (World.grownBy_alloc _ _ _)).trans gr6
        · have hjc : k + j = c := by omega
          have o9 := own_short hown (show k ≤ k + j by omega)
          go_wp2
          go_returns
          refine ⟨rfl, own_eq o9 rfl ?_, hgr2⟩
          simp [bv, HYL.out]
end Go.Proofs.Ytmcpjpkidcbgiaa
